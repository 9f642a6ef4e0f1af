/-
  A list sorted, each once, is the ascending list of its members.
-/
import Derived.Test.YtfddealjbpdehaaQ3MFFlight
import Derived.Test.YtfddealjbpdehaaQ3GFlightF
namespace Go.Proofs.Ytfddealjbpdehaa.MF
set_option linter.unusedVariables false
set_option linter.unusedSimpArgs false
open Go.RowKit Go.Proofs.Ytfddealjbpdehaa Go.Proofs.Ytfddealjbpdehaa.F Go.Proofs.YtfddealjbpdehaaW.PrintWords Go.Proofs.YtfddealjbpdehaaW.PrintLast
theorem asc_ext : ∀ {a b : List Int}, a.Pairwise (· < ·) → b.Pairwise (· < ·) → (∀ x, x ∈ a ↔ x ∈ b) → a = b
 | [], [], _, _, _ => rfl
 | [], y :: b, _, _, h => absurd ((h y).mpr List.mem_cons_self) (by simp)
 | x :: a, [], _, _, h => absurd ((h x).mp List.mem_cons_self) (by simp)
 | x :: a, y :: b, ha, hb, h => by
  have a1 := List.pairwise_cons.mp ha
  have b1 := List.pairwise_cons.mp hb
  have e : x = y := by
   rcases List.mem_cons.mp ((h x).mp List.mem_cons_self) with e | e
   ·
    exact e
   ·
    rcases List.mem_cons.mp ((h y).mpr List.mem_cons_self) with e2 | e2
    ·
     exact e2.symm
    ·
     have := a1.1 y e2
     have := b1.1 x e
     omega
  subst e
  congr 1
  refine asc_ext a1.2 b1.2 fun z => ⟨fun hz => ?_, fun hz => ?_⟩
  ·
   have := a1.1 z hz
   exact (List.mem_cons.mp ((h z).mp (List.mem_cons_of_mem _ hz))).resolve_left (by omega)
  ·
   have := b1.1 z hz
   exact (List.mem_cons.mp ((h z).mpr (List.mem_cons_of_mem _ hz))).resolve_left (by omega)
theorem at_bang {zs : List Int} {j : Nat} (h : j < zs.length) : zs.toArray[j]! = zs[j] := by simp [h]
theorem compact_facts {zs : List Int} (hs : ∀ i j, i ≤ j → j < zs.length → zs.toArray[i]! ≤ zs.toArray[j]!) :
  ∀ m, m ≤ zs.length → (Lib.compactUpTo zs.toArray m).Pairwise (· < ·) ∧ ∀ x, x ∈ Lib.compactUpTo zs.toArray m ↔ ∃ j, j < m ∧ zs.toArray[j]! = x := by
 intro m
 induction m with
 | zero => intro _; exact ⟨by simp [Lib.compactUpTo], fun x => by simp [Lib.compactUpTo]⟩
 | succ m ih =>
  intro hm
  obtain ⟨h1, h2⟩ := ih (by omega)
  rw [Lib.compactUpTo_succ]
  by_cases k : Lib.keeps zs.toArray m = true
  ·
   rw [if_pos k]
   refine ⟨?_, fun x => ?_⟩
   ·
    rw [List.pairwise_append]
    refine ⟨h1, List.pairwise_singleton _ _, fun x hx y hy => ?_⟩
    rw [List.mem_singleton.mp hy]
    obtain ⟨j, hj, rfl⟩ := (h2 x).mp hx
    have a := hs j (m - 1) (by omega) (by omega)
    have b := hs (m - 1) m (by omega) (by omega)
    have c : zs.toArray[m]! ≠ zs.toArray[m - 1]! := by
     intro e
     have := Lib.keeps_neg (by omega) e
     rw [this] at k
     cases k
    omega
   ·
    rw [List.mem_append, h2 x, List.mem_singleton]
    constructor
    ·
     rintro (⟨j, hj, e⟩ | e)
     ·
      exact ⟨j, by omega, e⟩
     ·
      exact ⟨m, by omega, e.symm⟩
    ·
     rintro ⟨j, hj, e⟩
     by_cases c : j = m
     ·
      subst c; exact .inr e.symm
     ·
      exact .inl ⟨j, by omega, e⟩
  ·
   rw [if_neg k, List.append_nil]
   refine ⟨h1, fun x => ?_⟩
   rw [h2 x]
   constructor
   ·
    rintro ⟨j, hj, e⟩; exact ⟨j, by omega, e⟩
   ·
    rintro ⟨j, hj, e⟩
    by_cases c : j = m
    ·
     subst c
     have hpos : 0 < j := by
      rcases Nat.eq_zero_or_pos j with h0 | h0
      ·
       subst h0; exact absurd (Lib.keeps_lt_one _ 0 (by omega)) k
      ·
       exact h0
     have e2 : zs.toArray[j]! = zs.toArray[j - 1]! := by
      by_cases q : zs.toArray[j]! = zs.toArray[j - 1]!
      ·
       exact q
      ·
       exact absurd (Lib.keeps_pos q) k
     exact ⟨j - 1, by omega, by rw [← e2]; exact e⟩
    ·
     exact ⟨j, by omega, e⟩
theorem sorted_le (xs : List Int) : ∀ i j, i ≤ j → j < (GS.sorted xs).length → (GS.sorted xs).toArray[i]! ≤ (GS.sorted xs).toArray[j]! := by
 intro i j hij hj
 have hp : (GS.sorted xs).Pairwise (fun x y => decide (x ≤ y) = true) := List.pairwise_mergeSort (le := fun x y => decide (x ≤ y)) (by intro a b c h1 h2; simp at h1 h2 ⊢; omega) (by intro a b; simp; omega) xs
 rw [at_bang (by omega), at_bang hj]
 rcases Nat.lt_or_ge i j with h | h
 ·
  have := List.pairwise_iff_getElem.mp hp i j (by omega) hj h
  simpa using this
 ·
  have : i = j := by omega
  subst this
  exact Int.le_refl _
theorem flat_asc (xs : List Int) : (GS.flat xs).Pairwise (· < ·) := (compact_facts (sorted_le xs) _ (Nat.le_refl _)).1
theorem flat_mem (xs : List Int) (x : Int) : x ∈ GS.flat xs ↔ x ∈ xs := by
 have h := (compact_facts (sorted_le xs) _ (Nat.le_refl _)).2 x
 have hm : x ∈ GS.sorted xs ↔ x ∈ xs := (List.mergeSort_perm xs _).mem_iff
 rw [← hm]
 refine h.trans ?_
 rw [List.mem_iff_getElem]
 constructor
 ·
  rintro ⟨j, hj, e⟩
  exact ⟨j, hj, by rw [at_bang hj] at e; exact e⟩
 ·
  rintro ⟨j, hj, e⟩
  exact ⟨j, hj, by rw [at_bang hj]; exact e⟩
theorem flat_flight (l : List Int) : GS.flat (l.filter inSeq) = flightOf l := by
 refine asc_ext (flat_asc _) (flightOf_asc l).1 fun x => ?_
 rw [flat_mem, List.mem_filter]
 unfold flightOf
 rw [fold_mem]
 constructor
 ·
  rintro ⟨h1, h2⟩
  exact .inr ⟨h1, of_decide_eq_true h2⟩
 ·
  rintro (h | ⟨h1, h2⟩)
  ·
   cases h
  ·
   exact ⟨h1, decide_eq_true h2⟩
theorem implFlightOf_ok {l : List Int} (hl : Fits l) : impl_FlightOf.f l = some (flightOf l, [], 0) := by
 unfold Fits at hl
 unfold impl_FlightOf.f
 rw [if_pos (by omega), flat_flight]
end Go.Proofs.Ytfddealjbpdehaa.MF
