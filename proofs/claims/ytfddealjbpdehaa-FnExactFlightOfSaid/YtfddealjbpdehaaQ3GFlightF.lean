/-
  impl.FlightOf gives the numbers in 0 .. 9999, sorted, each once: as the print takes it.
-/
import Derived.Test.YtfddealjbpdehaaQ3GFlightOf
namespace Go.Proofs.Ytfddealjbpdehaa.F
open Go.RowKit Go.Proofs.Ytfddealjbpdehaa Go.Proofs.YtfddealjbpdehaaW.PrintWords Go.Proofs.YtfddealjbpdehaaW.PrintLast Go.Proofs.YtfddealjbpdehaaW.PrintMore
set_option linter.unusedVariables false
def inSeq (n : Int) : Bool := decide (0 ≤ n ∧ n ≤ 9999)
theorem gfWithin (a b c : Int) : GF.impl_within.f a b c = some (decide (b ≤ a ∧ a ≤ c)) := by
 unfold GF.impl_within.f
 by_cases h : a ≥ b
 ·
  rw [if_pos h]; congr 1; exact decide_eq_decide.mpr ⟨fun x => ⟨h, x⟩, fun x => x.2⟩
 ·
  rw [if_neg h]; congr 1; exact (decide_eq_false (fun x => h x.1)).symm
theorem gfW64 {n : Int} (h0 : -9223372036854775808 ≤ n) (h1 : n ≤ 9223372036854775807) : wrap64 n = n := by unfold wrap64; omega
theorem gfRd {l : List Int} {j : Nat} (h : j < l.length) : rd l (j : Int) = l[j] := by
 unfold rd
 rw [List.getD_eq_getElem?_getD, Int.toNat_natCast, List.getElem?_eq_getElem h, Option.getD_some]
theorem gfLoop {l : List Int} (hl : l.length ≤ 17592186044400) : ∀ (d i : Nat) (acc : List Int), l.length - i ≤ d → i ≤ l.length → acc.length ≤ i →
  Ev (fun k => GF.impl_FlightOf.l0 k l (l.length : Int) (i : Int) acc 0) (GS.flat (acc ++ (l.drop i).filter inSeq), [], 0) := by
 intro d
 induction d with
 | zero =>
  intro i acc hd hi ha
  have e : l.drop i = [] := List.drop_eq_nil_of_le (by omega)
  rw [e, List.filter_nil, List.append_nil]
  refine Ev.step (f := fun _ => some (GS.flat acc, [], 0)) (fun k => ?_) (Ev.now _)
  simp only [GF.impl_FlightOf.l0]
  rw [if_neg (by omega), if_pos (by omega)]
 | succ d ih =>
  intro i acc hd hi ha
  by_cases c : i < l.length
  ·
   have hdrop : l.drop i = l[i] :: l.drop (i + 1) := List.drop_eq_getElem_cons c
   have e1 : wrap64 ((i : Int) + 1) = ((i + 1 : Nat) : Int) := by rw [gfW64 (by omega) (by omega)]; omega
   have c1 : (i : Int) < (l.length : Int) := by omega
   have c2 : (0 : Int) ≤ (i : Int) := by omega
   have c3 : acc.length < 17592186044416 := by omega
   by_cases q : inSeq l[i] = true
   ·
    have nx := ih (i + 1) (acc ++ [l[i]]) (by omega) (by omega) (by rw [List.length_append]; simp; omega)
    rw [hdrop, List.filter_cons_of_pos q]
    rw [List.append_assoc, List.singleton_append] at nx
    refine Ev.step (fun k => ?_) nx
    simp only [GF.impl_FlightOf.l0]
    rw [if_pos c1, if_pos c2, if_pos c1, gfRd c, gfWithin, e1]
    simp only [Option.bind_some]
    rw [if_pos (show decide (0 ≤ l[i] ∧ l[i] ≤ 9999) = true from q), if_pos c3]
   ·
    have nx := ih (i + 1) acc (by omega) (by omega) (by omega)
    rw [hdrop, List.filter_cons_of_neg q]
    refine Ev.step (fun k => ?_) nx
    simp only [GF.impl_FlightOf.l0]
    rw [if_pos c1, if_pos c2, if_pos c1, gfRd c, gfWithin, e1]
    simp only [Option.bind_some]
    rw [if_neg (show ¬ decide (0 ≤ l[i] ∧ l[i] ≤ 9999) = true from q)]
  ·
   have e : l.drop i = [] := List.drop_eq_nil_of_le (by omega)
   rw [e, List.filter_nil, List.append_nil]
   refine Ev.step (f := fun _ => some (GS.flat acc, [], 0)) (fun k => ?_) (Ev.now _)
   simp only [GF.impl_FlightOf.l0]
   rw [if_neg (by omega), if_pos (by omega)]
def impl_FlightOf.f (l0 : List Int) : Option (List Int × List Int × Int) := if l0.length ≤ 17592186044400 then some (GS.flat (l0.filter inSeq), [], 0) else none
theorem impl_FlightOf.calls (A0 : Option Addr) (c0 : Nat) (l0 : List Int) (r1 : List Int) (r2 : List Int) (r3 : Int) (w : World) (hr0 : Kd.C (Kd.int .i64) w A0 l0.length l0) (hc0 : l0.length ≤ c0) (h : impl_FlightOf.f l0 = some (r1, r2, r3)) :
  Calls Try.prog 45 #[.slice A0 l0.length c0] w fun e w' => ∃ v0_ v1_ : Value, e = .returned (.agg #[v0_, v1_, .int .i64 r3]) ∧ Kd.R (Kd.int .i64) 3 w' w.heap.size (fun k_ => some k_ ≠ (v1_ : Value).ownBlock) v0_ r1 ∧ Kd.R (Kd.int .i64) 3 w' w.heap.size (fun k_ => some k_ ≠ (v0_ : Value).ownBlock) v1_ r2 ∧ Below w.heap.size w w' := by
 unfold impl_FlightOf.f at h
 by_cases c : l0.length ≤ 17592186044400
 ·
  rw [if_pos c] at h
  obtain ⟨k, hk⟩ := Ev.rounds (gfLoop c l0.length 0 [] (by omega) (by omega) (by simp))
  rw [List.nil_append, List.drop_zero] at hk
  refine GF.impl_FlightOf.calls k A0 c0 l0 r1 r2 r3 w hr0 hc0 ?_
  rw [← h]
  exact hk
 ·
  rw [if_neg c] at h
  cases h
end Go.Proofs.Ytfddealjbpdehaa.F
