/-
  The reference's FlightOf, told as plain facts on lists.
-/
import Derived.Test.YtfddealjbpdehaaQ3Fx1
namespace Go.Proofs.Ytfddealjbpdehaa.MF
set_option linter.unusedVariables false
set_option linter.unusedSimpArgs false
open Go.RowKit Go.Proofs.Ytfddealjbpdehaa.F Go.Proofs.YtfddealjbpdehaaW.PrintWords Go.Proofs.YtfddealjbpdehaaW.PrintLast
theorem w64 {n : Int} (h0 : -9223372036854775808 ≤ n) (h1 : n ≤ 9223372036854775807) : wrap64 n = n := by unfold wrap64; omega
def Asc (l : List Int) : Prop := l.Pairwise (· < ·) ∧ ∀ x ∈ l, 0 ≤ x ∧ x ≤ 9999
theorem rd_nat {l : List Int} {j : Nat} (h : j < l.length) : rd l (j : Int) = l[j] := by
 unfold rd
 rw [List.getD_eq_getElem?_getD, Int.toNat_natCast, List.getElem?_eq_getElem h, Option.getD_some]
theorem Ev.next {α β : Type} {g : Nat → Option α} {h : Nat → Option β} {F : Nat → β → Option α} {b : β} {r : α} (hh : Ev h b) (e : ∀ k, g (k + 1) = (h k).bind (F k)) (kk : Ev (fun k => F k b) r) : Ev g r :=
 Ev.step e (Ev.bind hh kk)
theorem Ev.first {α β : Type} {g : Nat → Option α} {h : Nat → Option β} {F : Nat → β → Option α} {b : β} {r : α} (hh : Ev h b) (e : ∀ k, g k = (h k).bind (F k)) (kk : Ev (fun k => F k b) r) : Ev g r :=
 Ev.congr e (Ev.bind hh kk)
def Fits (l : List Int) : Prop := (l.length : Int) ≤ 17592186044400
theorem drop_rd {l : List Int} {j : Nat} (h : j < l.length) : l.drop j = rd l (j : Int) :: l.drop (j + 1) := by
 rw [rd_nat h]; exact List.drop_eq_getElem_cons h
theorem drop_end {l : List Int} {j : Nat} (h : ¬ j < l.length) : l.drop j = [] := List.drop_eq_nil_of_le (by omega)
theorem in_loop {l : List Int} (n : Int) (hl : Fits l) : ∀ (d j : Nat), l.length - j ≤ d → Ev (fun k => spec_l31In.l0 k l n (j : Int)) (decide (n ∈ l.drop j)) := by
 unfold Fits at hl
 intro d
 induction d with
 | zero =>
  intro j hd
  refine Ev.step (f := fun _ => some (decide (n ∈ l.drop j))) (fun k => ?_) (Ev.now _)
  simp only [spec_l31In.l0]; rw [if_neg (by omega), drop_end (by omega)]; rfl
 | succ d ih =>
  intro j hd
  by_cases c : j < l.length
  ·
   by_cases e : rd l (j : Int) = n
   ·
    refine Ev.step (f := fun _ => some (decide (n ∈ l.drop j))) (fun k => ?_) (Ev.now _)
    simp only [spec_l31In.l0]; rw [if_pos (by omega), if_pos (by omega), if_pos e, drop_rd c, e]
    simp
   ·
    have := ih (j + 1) (by omega)
    have e2 : decide (n ∈ l.drop j) = decide (n ∈ l.drop (j + 1)) := by
     rw [drop_rd c]; exact decide_eq_decide.mpr ⟨fun h => (List.mem_cons.mp h).resolve_left (fun x => e x.symm), fun h => List.mem_cons_of_mem _ h⟩
    rw [e2]
    refine Ev.step (fun k => ?_) this
    simp only [spec_l31In.l0]; rw [if_pos (by omega), if_pos (by omega), if_neg e, w64 (by omega) (by omega)]; rfl
  ·
   refine Ev.step (f := fun _ => some (decide (n ∈ l.drop j))) (fun k => ?_) (Ev.now _)
   simp only [spec_l31In.l0]; rw [if_neg (by omega), drop_end (by omega)]; rfl
theorem in_ok {l : List Int} (n : Int) (hl : Fits l) : Ev (fun k => spec_l31In.f k l n) (decide (n ∈ l)) := in_loop n hl l.length 0 (by omega)
theorem specIn_f (a b c : Int) : spec_l01In.f a b c = some (decide (b ≤ a ∧ a ≤ c)) := by
 unfold spec_l01In.f
 by_cases h : a ≥ b
 ·
  rw [if_pos h]; congr 1; exact decide_eq_decide.mpr ⟨fun x => ⟨h, x⟩, fun x => x.2⟩
 ·
  rw [if_neg h]; congr 1; exact (decide_eq_false (fun x => h x.1)).symm
def insV (v : Int) : List Int → List Int
 | [] => [v]
 | x :: r => if v < x then v :: x :: r else x :: insV v r
def tailV (put : Bool) (v : Int) (l : List Int) : List Int := if put = true then l else insV v l
def stepF (out : List Int) (v : Int) : List Int := if (0 ≤ v ∧ v ≤ 9999) ∧ v ∉ out then insV v out else out
theorem insV_mem {v x : Int} : ∀ {l : List Int}, x ∈ insV v l ↔ x = v ∨ x ∈ l
 | [] => by simp [insV]
 | y :: r => by
  unfold insV
  by_cases h : v < y
  ·
   rw [if_pos h]; simp
  ·
   rw [if_neg h]
   simp only [List.mem_cons, insV_mem (l := r)]
   constructor
   ·
    rintro (h | h | h)
    ·
     exact .inr (.inl h)
    ·
     exact .inl h
    ·
     exact .inr (.inr h)
   ·
    rintro (h | h | h)
    ·
     exact .inr (.inl h)
    ·
     exact .inl h
    ·
     exact .inr (.inr h)
theorem insV_length (v : Int) : ∀ (l : List Int), (insV v l).length = l.length + 1
 | [] => rfl
 | y :: r => by
  unfold insV
  by_cases h : v < y
  ·
   rw [if_pos h]; rfl
  ·
   rw [if_neg h, List.length_cons, insV_length v r]; rfl
theorem insV_sorted {v : Int} : ∀ {l : List Int}, l.Pairwise (· < ·) → v ∉ l → (insV v l).Pairwise (· < ·)
 | [], _, _ => by simp [insV]
 | y :: r, h, hv => by
  unfold insV
  have h' := List.pairwise_cons.mp h
  by_cases c : v < y
  ·
   rw [if_pos c]
   refine List.pairwise_cons.mpr ⟨fun x hx => ?_, h⟩
   rcases List.mem_cons.mp hx with rfl | hx
   ·
    exact c
   ·
    exact Int.lt_trans c (h'.1 x hx)
  ·
   rw [if_neg c]
   have hne : v ≠ y := fun e => hv (by rw [e]; exact List.mem_cons_self)
   refine List.pairwise_cons.mpr ⟨fun x hx => ?_, insV_sorted h'.2 (fun e => hv (List.mem_cons_of_mem _ e))⟩
   rcases insV_mem.mp hx with rfl | hx
   ·
    omega
   ·
    exact h'.1 x hx
theorem stepF_asc {out : List Int} {v : Int} (h : Asc out) : Asc (stepF out v) := by
 unfold stepF
 by_cases c : (0 ≤ v ∧ v ≤ 9999) ∧ v ∉ out
 ·
  rw [if_pos c]
  exact ⟨insV_sorted h.1 c.2, fun x hx => by rcases insV_mem.mp hx with rfl | hx; exact c.1; exact h.2 x hx⟩
 ·
  rw [if_neg c]; exact h
theorem stepF_length (out : List Int) (v : Int) : (stepF out v).length ≤ out.length + 1 := by
 unfold stepF
 by_cases c : (0 ≤ v ∧ v ≤ 9999) ∧ v ∉ out
 ·
  rw [if_pos c, insV_length]; omega
 ·
  rw [if_neg c]; omega
theorem fold_asc : ∀ (l : List Int) {out : List Int}, Asc out → Asc (l.foldl stepF out)
 | [], _, h => h
 | v :: r, _, h => fold_asc r (stepF_asc h)
theorem fold_length : ∀ (l out : List Int), (l.foldl stepF out).length ≤ out.length + l.length
 | [], _ => by simp
 | v :: r, out => by
  have := fold_length r (stepF out v)
  have := stepF_length out v
  rw [List.foldl_cons, List.length_cons]
  omega
theorem fold_mem {x : Int} : ∀ (l out : List Int), x ∈ l.foldl stepF out ↔ (x ∈ out ∨ (x ∈ l ∧ 0 ≤ x ∧ x ≤ 9999))
 | [], out => by simp
 | v :: r, out => by
  rw [List.foldl_cons, fold_mem r]
  have hs : x ∈ stepF out v ↔ (x ∈ out ∨ (x = v ∧ 0 ≤ x ∧ x ≤ 9999)) := by
   unfold stepF
   by_cases c : (0 ≤ v ∧ v ≤ 9999) ∧ v ∉ out
   ·
    rw [if_pos c, insV_mem]
    constructor
    ·
     rintro (rfl | h)
     ·
      exact .inr ⟨rfl, c.1⟩
     ·
      exact .inl h
    ·
     rintro (h | h)
     ·
      exact .inr h
     ·
      exact .inl h.1
   ·
    rw [if_neg c]
    constructor
    ·
     exact .inl
    ·
     rintro (h | ⟨rfl, h⟩)
     ·
      exact h
     ·
      exact Decidable.byContradiction fun hn => c ⟨h, hn⟩
  rw [hs, List.mem_cons]
  constructor
  ·
   rintro ((h | h) | h)
   ·
    exact .inl h
   ·
    exact .inr ⟨.inl h.1, h.2⟩
   ·
    exact .inr ⟨.inr h.1, h.2⟩
  ·
   rintro (h | ⟨h | h, h2⟩)
   ·
    exact .inl (.inl h)
   ·
    exact .inl (.inr ⟨h, h2⟩)
   ·
    exact .inr ⟨h, h2⟩
def flightOf (l : List Int) : List Int := l.foldl stepF []
theorem flightOf_asc (l : List Int) : Asc (flightOf l) := fold_asc l ⟨List.Pairwise.nil, fun x hx => by cases hx⟩
theorem flightOf_length (l : List Int) : (flightOf l).length ≤ l.length := by have := fold_length l []; unfold flightOf; simp at this; exact this
theorem flightOf_l1 {list out : List Int} {i : Nat} (hi : i < list.length) (hf : Fits list) (ho : out.length ≤ i) {r : List Int × List Int × Int} : ∀ (d j : Nat) (acc : List Int) (put : Bool), out.length - j ≤ d → j ≤ out.length → acc.length ≤ j + 1 → (put = false → acc.length ≤ j) →
  Ev (fun k => spec_FlightOf.l0 k list (acc ++ tailV put (rd list (i : Int)) (out.drop j)) ((i + 1 : Nat) : Int)) r → Ev (fun k => spec_FlightOf.l1 k list out (i : Int) acc put (j : Int)) r := by
 unfold Fits at hf
 intro d
 have fin : ∀ (j : Nat) (acc : List Int) (put : Bool), ¬ j < out.length → acc.length ≤ out.length + 2 →
   Ev (fun k => spec_FlightOf.l0 k list (acc ++ tailV put (rd list (i : Int)) (out.drop j)) ((i + 1 : Nat) : Int)) r → Ev (fun k => spec_FlightOf.l1 k list out (i : Int) acc put (j : Int)) r := by
  intro j acc put hj ha h
  rw [drop_end hj] at h
  refine Ev.step (fun k => ?_) h
  simp only [spec_FlightOf.l1]
  rw [if_neg (by omega)]
  cases put with
  | true => rw [if_pos rfl, w64 (by omega) (by omega)]; simp [tailV]
  | false => rw [if_neg (by decide), if_pos (by omega), if_pos (by omega), if_pos (by omega), w64 (by omega) (by omega)]; simp [tailV, insV]
 induction d with
 | zero =>
  intro j acc put hd hjo ha hp h
  exact fin j acc put (by omega) (by omega) h
 | succ d ih =>
  intro j acc put hd hjo ha hp h
  by_cases c : j < out.length
  ·
   cases put with
   | true =>
    refine Ev.step (fun k => ?_) (ih (j + 1) (acc ++ [rd out (j : Int)]) true (by omega) (by omega) (by rw [List.length_append]; simp; omega) (fun x => by cases x) ?_)
    ·
     simp only [spec_FlightOf.l1]; rw [if_pos (by omega), if_pos trivial, if_pos (by omega), if_pos (by omega), w64 (by omega) (by omega)]; rfl
    ·
     have e : acc ++ tailV true (rd list (i : Int)) (out.drop j) = acc ++ [rd out (j : Int)] ++ tailV true (rd list (i : Int)) (out.drop (j + 1)) := by rw [drop_rd c]; simp [tailV]
     rw [e] at h; exact h
   | false =>
    by_cases lt : rd list (i : Int) < rd out (j : Int)
    ·
     refine Ev.step (fun k => ?_) (ih (j + 1) (acc ++ [rd list (i : Int)] ++ [rd out (j : Int)]) true (by omega) (by omega) (by have := hp rfl; rw [List.length_append, List.length_append]; simp; omega) (fun x => by cases x) ?_)
     ·
      simp only [spec_FlightOf.l1]; rw [if_pos (by omega), if_neg (by decide), if_pos (by omega), if_pos (by omega), if_pos (by omega), if_pos lt, if_pos (by omega)]
      simp only [Option.bind_some]
      rw [if_pos (by rw [List.length_append]; simp; omega), w64 (by omega) (by omega)]; rfl
     ·
      have e : acc ++ tailV false (rd list (i : Int)) (out.drop j) = acc ++ [rd list (i : Int)] ++ [rd out (j : Int)] ++ tailV true (rd list (i : Int)) (out.drop (j + 1)) := by rw [drop_rd c]; simp [tailV, insV, lt]
      rw [e] at h; exact h
    ·
     refine Ev.step (fun k => ?_) (ih (j + 1) (acc ++ [rd out (j : Int)]) false (by omega) (by omega) (by rw [List.length_append]; simp; omega) (fun _ => by have := hp rfl; rw [List.length_append]; simp; omega) ?_)
     ·
      simp only [spec_FlightOf.l1]; rw [if_pos (by omega), if_neg (by decide), if_pos (by omega), if_pos (by omega), if_pos (by omega), if_neg lt, if_pos (by omega), w64 (by omega) (by omega)]; rfl
     ·
      have e : acc ++ tailV false (rd list (i : Int)) (out.drop j) = acc ++ [rd out (j : Int)] ++ tailV false (rd list (i : Int)) (out.drop (j + 1)) := by rw [drop_rd c]; simp [tailV, insV, lt]
      rw [e] at h; exact h
  ·
   exact fin j acc put c (by omega) h
theorem flightOf_l0 {list : List Int} (hf : Fits list) : ∀ (d i : Nat) (out : List Int), list.length - i ≤ d → out.length ≤ i → Ev (fun k => spec_FlightOf.l0 k list out (i : Int)) ((list.drop i).foldl stepF out, [], 0) := by
 have hf' := hf
 unfold Fits at hf'
 intro d
 induction d with
 | zero =>
  intro i out hd ho
  refine Ev.step (f := fun _ => some (out, [], 0)) (fun k => ?_) (Ev.congr (fun _ => ?_) (Ev.now _))
  ·
   simp only [spec_FlightOf.l0]; rw [if_neg (by omega)]
  ·
   rw [drop_end (by omega)]; rfl
 | succ d ih =>
  intro i out hd ho
  by_cases c : i < list.length
  ·
   have skip : ∀ h : stepF out (rd list (i : Int)) = out, Ev (fun k => spec_FlightOf.j1 k list out (i : Int) true) ((list.drop i).foldl stepF out, [], 0) := by
    intro h
    have := ih (i + 1) out (by omega) (by omega)
    rw [drop_rd c, List.foldl_cons, h]
    refine Ev.step (fun k => ?_) this
    simp only [spec_FlightOf.j1]; rw [if_pos trivial, w64 (by omega) (by omega)]; rfl
   by_cases r : 0 ≤ rd list (i : Int) ∧ rd list (i : Int) ≤ 9999
   ·
    have hin := in_ok (l := out) (rd list (i : Int)) (by unfold Fits; omega)
    apply Ev.next hin
    ·
     intro k
     simp only [spec_FlightOf.l0]; rw [if_pos (by omega), if_pos (by omega), specIn_f, decide_eq_true r]
     simp only [Option.bind_some, if_true]
     rfl
    by_cases m : rd list (i : Int) ∈ out
    ·
     rw [decide_eq_true m]
     exact skip (by unfold stepF; rw [if_neg (fun x => x.2 m)])
    ·
     rw [decide_eq_false m]
     refine Ev.step (fun k => ?_) (flightOf_l1 c hf ho out.length 0 [] false (by omega) (by omega) (by simp) (fun _ => by simp) (r := ((list.drop i).foldl stepF out, [], 0)) ?_)
     ·
      simp only [spec_FlightOf.j1]; rw [if_neg (by decide)]; rfl
     ·
      have e : ([] : List Int) ++ tailV false (rd list (i : Int)) (out.drop 0) = stepF out (rd list (i : Int)) := by unfold stepF; rw [if_pos ⟨r, m⟩]; simp [tailV]
      rw [e, drop_rd c, List.foldl_cons]
      have := stepF_length out (rd list (i : Int))
      exact ih (i + 1) _ (by omega) (by omega)
   ·
    refine Ev.step (fun k => ?_) (skip (by unfold stepF; rw [if_neg (fun x => r x.1)]))
    simp only [spec_FlightOf.l0]; rw [if_pos (by omega), if_pos (by omega), specIn_f, decide_eq_false r]
    rfl
  ·
   refine Ev.step (f := fun _ => some (out, [], 0)) (fun k => ?_) (Ev.congr (fun _ => ?_) (Ev.now _))
   ·
    simp only [spec_FlightOf.l0]; rw [if_neg (by omega)]
   ·
    rw [drop_end (by omega)]; rfl
theorem specFlightOf_ok {list : List Int} (hf : Fits list) : Ev (fun k => spec_FlightOf.f k list) (flightOf list, [], 0) := flightOf_l0 hf list.length 0 [] (by omega) (by simp)
end Go.Proofs.Ytfddealjbpdehaa.MF
