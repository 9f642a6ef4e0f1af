/-
  What came and is said again: the program's functions on flights, and the reference's, told as plain facts on lists.
-/
import Derived.Test.YtfddealjbpdehaaQ1Ax1
import Derived.Test.YtfddealjbpdehaaQ1Ax2
import Derived.Test.YtfddealjbpdehaaQ1Ax3
import Derived.Test.YtfddealjbpdehaaQ1Ax4
import Derived.Test.YtfddealjbpdehaaQ1Ax5
import Derived.Test.YtfddealjbpdehaaQ1Ax6
import Derived.Test.YtfddealjbpdehaaQ1Ax7
import Derived.Test.YtfddealjbpdehaaQ1Ax8
import Derived.Test.YtfddealjbpdehaaQ1MVar
namespace Go.Proofs.Ytfddealjbpdehaa.M
set_option linter.unusedVariables false
set_option linter.unusedSimpArgs false
open Go.RowKit Go.Proofs.Ytfddealjbpdehaa.A Go.Proofs.YtfddealjbpdehaaW.PrintWords Go.Proofs.YtfddealjbpdehaaW.PrintLast
theorem Ev.next {α β : Type} {g : Nat → Option α} {h : Nat → Option β} {F : Nat → β → Option α} {b : β} {r : α} (hh : Ev h b) (e : ∀ k, g (k + 1) = (h k).bind (F k)) (kk : Ev (fun k => F k b) r) : Ev g r :=
 Ev.step e (Ev.bind hh kk)
theorem Ev.first {α β : Type} {g : Nat → Option α} {h : Nat → Option β} {F : Nat → β → Option α} {b : β} {r : α} (hh : Ev h b) (e : ∀ k, g k = (h k).bind (F k)) (kk : Ev (fun k => F k b) r) : Ev g r :=
 Ev.congr e (Ev.bind hh kk)
def Fits (l : List Int) : Prop := (l.length : Int) ≤ 17592186044400
theorem drop_rd {l : List Int} {j : Nat} (h : j < l.length) : l.drop j = rd l (j : Int) :: l.drop (j + 1) := by
 rw [rd_nat h]; exact List.drop_eq_getElem_cons h
theorem drop_end {l : List Int} {j : Nat} (h : ¬ j < l.length) : l.drop j = [] := List.drop_eq_nil_of_le (by omega)
theorem in_loop {l : List Int} (n : Int) (hl : Fits l) : ∀ (d j : Nat), l.length - j ≤ d → Ev (fun k => spec_l31In.l0 k l n (j : Int)) (decide (n ∈ l.drop j)) := by
 unfold Fits at hl
 intro d
 induction d with
 | zero =>
  intro j hd
  refine Ev.step (f := fun _ => some (decide (n ∈ l.drop j))) (fun k => ?_) (Ev.now _)
  simp only [spec_l31In.l0]; rw [if_neg (by omega), drop_end (by omega)]; rfl
 | succ d ih =>
  intro j hd
  by_cases c : j < l.length
  ·
   by_cases e : rd l (j : Int) = n
   ·
    refine Ev.step (f := fun _ => some (decide (n ∈ l.drop j))) (fun k => ?_) (Ev.now _)
    simp only [spec_l31In.l0]; rw [if_pos (by omega), if_pos (by omega), if_pos e, drop_rd c, e]
    simp
   ·
    have := ih (j + 1) (by omega)
    have e2 : decide (n ∈ l.drop j) = decide (n ∈ l.drop (j + 1)) := by
     rw [drop_rd c]; exact decide_eq_decide.mpr ⟨fun h => (List.mem_cons.mp h).resolve_left (fun x => e x.symm), fun h => List.mem_cons_of_mem _ h⟩
    rw [e2]
    refine Ev.step (fun k => ?_) this
    simp only [spec_l31In.l0]; rw [if_pos (by omega), if_pos (by omega), if_neg e, w64 (by omega) (by omega)]; rfl
  ·
   refine Ev.step (f := fun _ => some (decide (n ∈ l.drop j))) (fun k => ?_) (Ev.now _)
   simp only [spec_l31In.l0]; rw [if_neg (by omega), drop_end (by omega)]; rfl
theorem in_ok {l : List Int} (n : Int) (hl : Fits l) : Ev (fun k => spec_l31In.f k l n) (decide (n ∈ l)) := in_loop n hl l.length 0 (by omega)
theorem index_loop {l : List Int} (n : Int) (hl : Fits l) : ∀ (d j : Nat), l.length - j ≤ d → ∃ r, Ev (fun k => slices_Index_int_int.l0 k l n (l.length : Int) (j : Int)) r ∧ (r ≥ 0 ↔ n ∈ l.drop j) := by
 unfold Fits at hl
 intro d
 induction d with
 | zero =>
  intro j hd
  refine ⟨-1, Ev.step (f := fun _ => some (-1)) (fun k => ?_) (Ev.now _), ?_⟩
  ·
   simp only [slices_Index_int_int.l0]; rw [if_neg (by omega)]
  ·
   rw [drop_end (by omega)]; simp
 | succ d ih =>
  intro j hd
  by_cases c : j < l.length
  ·
   by_cases e : n = rd l (j : Int)
   ·
    refine ⟨(j : Int), Ev.step (f := fun _ => some (j : Int)) (fun k => ?_) (Ev.now _), ?_⟩
    ·
     simp only [slices_Index_int_int.l0]; rw [if_pos (by omega), if_pos (by omega), if_pos (by omega), if_pos e]
    ·
     rw [drop_rd c, ← e]; simp
   ·
    obtain ⟨r, h1, h2⟩ := ih (j + 1) (by omega)
    refine ⟨r, Ev.step (fun k => ?_) h1, ?_⟩
    ·
     simp only [slices_Index_int_int.l0]; rw [if_pos (by omega), if_pos (by omega), if_pos (by omega), if_neg e, w64 (by omega) (by omega)]; rfl
    ·
     rw [h2, drop_rd c]; exact ⟨fun h => List.mem_cons_of_mem _ h, fun h => (List.mem_cons.mp h).resolve_left e⟩
  ·
   refine ⟨-1, Ev.step (f := fun _ => some (-1)) (fun k => ?_) (Ev.now _), ?_⟩
   ·
    simp only [slices_Index_int_int.l0]; rw [if_neg (by omega)]
   ·
    rw [drop_end (by omega)]; simp
theorem contains_ok {l : List Int} (n : Int) (hl : Fits l) : Ev (fun k => slices_Contains_int_int.f k l n) (decide (n ∈ l)) := by
 obtain ⟨r, h1, h2⟩ := index_loop n hl l.length 0 (by omega)
 have e : decide (r ≥ 0) = decide (n ∈ l) := decide_eq_decide.mpr (by rw [h2]; rfl)
 rw [← e]
 exact Ev.congr (fun k => rfl) (Ev.bind h1 (Ev.now _))
def left (s g : List Int) : List Int := s.filter fun n => !decide (n ∈ g)
theorem leftOf_loop {s g : List Int} (t : Int) (hs : Fits s) (hg : Fits g) : ∀ (d j : Nat) (acc : List Int), s.length - j ≤ d → acc.length ≤ j →
  Ev (fun k => impl_LeftOf.l0 k acc s (s.length : Int) (j : Int) s g t) (acc ++ left (s.drop j) g) := by
 have hs' := hs
 unfold Fits at hs'
 intro d
 induction d with
 | zero =>
  intro j acc hd ha
  refine Ev.step (f := fun _ => some (acc ++ left (s.drop j) g)) (fun k => ?_) (Ev.now _)
  simp only [impl_LeftOf.l0]; rw [if_neg (by omega), drop_end (by omega)]; simp [left]
 | succ d ih =>
  intro j acc hd ha
  by_cases c : j < s.length
  ·
   have hc := contains_ok (rd s (j : Int)) hg
   apply Ev.next hc
   ·
    intro k; simp only [impl_LeftOf.l0]; rw [if_pos (by omega), if_pos (by omega), if_pos (by omega), w64 (by omega) (by omega)]
   by_cases e : rd s (j : Int) ∈ g
   ·
    have h2 : left (s.drop j) g = left (s.drop (j + 1)) g := by rw [drop_rd c]; unfold left; rw [List.filter_cons_of_neg (by simp [e])]
    rw [h2]
    exact Ev.congr (fun k => if_pos (decide_eq_true e)) (ih (j + 1) acc (by omega) (by omega))
   ·
    have h2 : left (s.drop j) g = rd s (j : Int) :: left (s.drop (j + 1)) g := by rw [drop_rd c]; unfold left; rw [List.filter_cons_of_pos (by simp [e])]
    rw [h2, List.append_cons acc (rd s (j : Int)) (left (s.drop (j + 1)) g)]
    refine Ev.congr (fun k => ?_) (ih (j + 1) (acc ++ [rd s (j : Int)]) (by omega) (by rw [List.length_append]; simp; omega))
    rw [if_neg (by simp [e]), if_pos (by omega)]; rfl
  ·
   refine Ev.step (f := fun _ => some (acc ++ left (s.drop j) g)) (fun k => ?_) (Ev.now _)
   simp only [impl_LeftOf.l0]; rw [if_neg (by omega), drop_end (by omega)]; simp [left]
theorem leftOf_ok {s g : List Int} (t : Int) (hs : Fits s) (hg : Fits g) : Ev (fun k => impl_LeftOf.f k s g t) (left s g) := leftOf_loop t hs hg s.length 0 [] (by omega) (by simp)
def ascFrom (l : List Int) (j : Nat) : Bool := decide (∀ i : Nat, i < l.length → j ≤ i → (0 ≤ rd l (i : Int) ∧ rd l (i : Int) ≤ 9999) ∧ (0 < i → rd l ((i : Int) - 1) < rd l (i : Int)))
def ascB (l : List Int) : Bool := ascFrom l 0
theorem ascFrom_end {l : List Int} {j : Nat} (h : ¬ j < l.length) : ascFrom l j = true := decide_eq_true (fun i h1 h2 => by omega)
theorem ascFrom_bad {l : List Int} {j : Nat} (h : j < l.length) (hb : ¬ ((0 ≤ rd l (j : Int) ∧ rd l (j : Int) ≤ 9999) ∧ (0 < j → rd l ((j : Int) - 1) < rd l (j : Int)))) : ascFrom l j = false :=
 decide_eq_false (fun x => hb (x j h (Nat.le_refl _)))
theorem ascFrom_good {l : List Int} {j : Nat} (hb : (0 ≤ rd l (j : Int) ∧ rd l (j : Int) ≤ 9999) ∧ (0 < j → rd l ((j : Int) - 1) < rd l (j : Int))) : ascFrom l j = ascFrom l (j + 1) :=
 decide_eq_decide.mpr ⟨fun x i h1 h2 => x i h1 (by omega), fun x i h1 h2 => by
  by_cases e : i = j
  ·
   subst e; exact hb
  ·
   exact x i h1 (by omega)⟩
theorem numbersOk_loop {l : List Int} (hl : Fits l) : ∀ (d j : Nat), l.length - j ≤ d → Ev (fun k => impl_numbersOk.l0 k l l (l.length : Int) (j : Int)) (ascFrom l j) := by
 unfold Fits at hl
 intro d
 induction d with
 | zero =>
  intro j hd
  rw [ascFrom_end (by omega)]
  refine Ev.step (f := fun _ => some true) (fun k => ?_) (Ev.now _)
  simp only [impl_numbersOk.l0]; rw [if_neg (by omega)]
 | succ d ih =>
  intro j hd
  by_cases c : j < l.length
  ·
   by_cases r : 0 ≤ rd l (j : Int) ∧ rd l (j : Int) ≤ 9999
   ·
    by_cases z : 0 < j
    ·
     by_cases o : rd l ((j : Int) - 1) < rd l (j : Int)
     ·
      rw [ascFrom_good ⟨r, fun _ => o⟩]
      refine Ev.step (fun k => ?_) (ih (j + 1) (by omega))
      simp only [impl_numbersOk.l0]
      rw [if_pos (by omega), if_pos (by omega), if_pos (by omega), within_f, decide_eq_true r]
      simp only [Option.bind_some, if_true]
      rw [if_pos (by omega), w64 (n := (j : Int) - 1) (by omega) (by omega), if_pos (by omega), if_pos (by omega), if_neg (by omega), w64 (by omega) (by omega)]; rfl
     ·
      rw [ascFrom_bad c (fun x => o (x.2 z))]
      refine Ev.step (f := fun _ => some false) (fun k => ?_) (Ev.now _)
      simp only [impl_numbersOk.l0]
      rw [if_pos (by omega), if_pos (by omega), if_pos (by omega), within_f, decide_eq_true r]
      simp only [Option.bind_some, if_true]
      rw [if_pos (by omega), w64 (n := (j : Int) - 1) (by omega) (by omega), if_pos (by omega), if_pos (by omega), if_pos (by omega)]
    ·
     rw [ascFrom_good ⟨r, fun h => absurd h z⟩]
     refine Ev.step (fun k => ?_) (ih (j + 1) (by omega))
     simp only [impl_numbersOk.l0]
     rw [if_pos (by omega), if_pos (by omega), if_pos (by omega), within_f, decide_eq_true r]
     simp only [Option.bind_some, if_true]
     rw [if_neg (by omega), w64 (by omega) (by omega)]; rfl
   ·
    rw [ascFrom_bad c (fun x => r x.1)]
    refine Ev.step (f := fun _ => some false) (fun k => ?_) (Ev.now _)
    simp only [impl_numbersOk.l0]
    rw [if_pos (by omega), if_pos (by omega), if_pos (by omega), within_f, decide_eq_false r]
    rfl
  ·
   rw [ascFrom_end c]
   refine Ev.step (f := fun _ => some true) (fun k => ?_) (Ev.now _)
   simp only [impl_numbersOk.l0]; rw [if_neg (by omega)]
theorem numbersOk_ok {l : List Int} (hl : Fits l) : Ev (fun k => impl_numbersOk.f k l) (ascB l) := numbersOk_loop hl l.length 0 (by omega)
theorem asc_ascB {l : List Int} (h : Asc l) : ascB l = true := by
 refine decide_eq_true (fun i h1 _ => ⟨h.2 _ (rd_mem (by omega) (by omega)), fun hz => ?_⟩)
 have e : (i : Int) - 1 = ((i - 1 : Nat) : Int) := by omega
 rw [e, rd_nat (by omega), rd_nat h1]
 exact List.pairwise_iff_getElem.mp h.1 (i - 1) i (by omega) h1 (by omega)
def allIn (g s : List Int) : Bool := g.all fun x => decide (x ∈ s)
theorem flightOk_loop {s g : List Int} (t : Int) (hs : Fits s) (hg : Fits g) : ∀ (d j : Nat), g.length - j ≤ d →
  Ev (fun k => impl_FlightOk.l0 k g (g.length : Int) (j : Int) s g t) (allIn (g.drop j) s) := by
 have hg' := hg
 unfold Fits at hg'
 intro d
 induction d with
 | zero =>
  intro j hd
  refine Ev.step (f := fun _ => some true) (fun k => ?_) (Ev.congr (fun _ => ?_) (Ev.now _))
  ·
   simp only [impl_FlightOk.l0]; rw [if_neg (by omega)]
  ·
   rw [drop_end (by omega)]; rfl
 | succ d ih =>
  intro j hd
  by_cases c : j < g.length
  ·
   have hc := contains_ok (rd g (j : Int)) hs
   apply Ev.next hc
   ·
    intro k; simp only [impl_FlightOk.l0]; rw [if_pos (by omega), if_pos (by omega), if_pos (by omega), w64 (by omega) (by omega)]
   by_cases e : rd g (j : Int) ∈ s
   ·
    have h2 : allIn (g.drop j) s = allIn (g.drop (j + 1)) s := by rw [drop_rd c]; unfold allIn; rw [List.all_cons, decide_eq_true e]; rfl
    rw [h2]
    exact Ev.congr (fun k => if_pos (decide_eq_true e)) (ih (j + 1) (by omega))
   ·
    have h2 : allIn (g.drop j) s = false := by rw [drop_rd c]; unfold allIn; rw [List.all_cons, decide_eq_false e]; rfl
    rw [h2]
    exact Ev.congr (fun k => if_neg (by simp [e])) (Ev.now _)
  ·
   refine Ev.step (f := fun _ => some true) (fun k => ?_) (Ev.congr (fun _ => ?_) (Ev.now _))
   ·
    simp only [impl_FlightOk.l0]; rw [if_neg (by omega)]
   ·
    rw [drop_end (by omega)]; rfl
def flightB (s g : List Int) (t : Int) : Bool := ascB s && ascB g && decide (s.length ≤ 100) && decide (0 ≤ t ∧ t ≤ 1000) && allIn g s
theorem flightOk_ok {s g : List Int} (t : Int) (hs : Fits s) (hg : Fits g) : Ev (fun k => impl_FlightOk.f k s g t) (flightB s g t) := by
 have no : Ev (fun k => impl_FlightOk.j0 k true s g t) false := Ev.step (f := fun _ => some false) (fun k => by simp only [impl_FlightOk.j0, if_true]) (Ev.now _)
 refine Ev.congr (fun k => rfl) (Ev.bind (numbersOk_ok hs) ?_)
 by_cases h1 : ascB s = true
 ·
  rw [h1]; refine Ev.congr (fun k => if_pos rfl) (Ev.bind (numbersOk_ok hg) ?_)
  by_cases h2 : ascB g = true
  ·
   rw [h2]; refine Ev.congr (fun k => if_pos rfl) ?_
   by_cases h3 : s.length ≤ 100
   ·
    refine Ev.congr (fun k => if_neg (by omega)) ?_
    by_cases h4 : 0 ≤ t ∧ t ≤ 1000
    ·
     have e : flightB s g t = allIn (g.drop 0) s := by unfold flightB; rw [h1, h2, decide_eq_true h3, decide_eq_true h4]; rfl
     rw [e]
     refine Ev.congr (fun k => ?_) (Ev.step (g := fun k => impl_FlightOk.j0 k false s g t) (fun k => ?_) (flightOk_loop t hs hg g.length 0 (by omega)))
     ·
      rw [within_f, decide_eq_true h4]; rfl
     ·
      simp only [impl_FlightOk.j0]; rfl
    ·
     have e : flightB s g t = false := by unfold flightB; rw [decide_eq_false h4]; simp
     rw [e]
     refine Ev.congr (fun k => ?_) no
     rw [within_f, decide_eq_false h4]; rfl
   ·
    have e : flightB s g t = false := by unfold flightB; rw [decide_eq_false h3]; simp
    rw [e]
    exact Ev.congr (fun k => if_pos (by omega)) no
  ·
   have e : flightB s g t = false := by unfold flightB; rw [Bool.eq_false_iff.mpr h2]; simp
   rw [e, Bool.eq_false_iff.mpr h2]
   exact Ev.congr (fun k => if_neg (by decide)) no
 ·
  have e : flightB s g t = false := by unfold flightB; rw [Bool.eq_false_iff.mpr h1]; simp
  rw [e, Bool.eq_false_iff.mpr h1]
  exact Ev.congr (fun k => if_neg (by decide)) no
theorem copyInts_ok {l : List Int} (hl : Fits l) : impl_copyInts.f l = some l := by
 unfold Fits at hl
 unfold impl_copyInts.f
 simp only [Option.bind_some, List.length_nil, List.nil_append]
 rw [if_pos (by omega)]
theorem copyFlight_ok {s g : List Int} (t : Int) (hs : Fits s) (hg : Fits g) : impl_copyFlight.f s g t = some (s, g, t) := by
 unfold impl_copyFlight.f
 rw [copyInts_ok hs, copyInts_ok hg]; rfl
theorem saidAgain_ok {s g : List Int} (t : Int) (hs : Fits s) (hg : Fits g) :
  Ev (fun k => impl_SaidAgain.f k s g t) (if flightB s g t = true ∧ left s g ≠ [] ∧ t ≠ 1000 then (s, g, wrap64 (t + 1), left s g) else (s, g, t, [])) := by
 refine Ev.congr (fun k => by unfold impl_SaidAgain.f; rw [copyFlight_ok t hs hg]; rfl) (Ev.bind (leftOf_ok t hs hg) (Ev.bind (flightOk_ok t hs hg) ?_))
 refine Ev.congr (fun k => ?_) (Ev.now _)
 by_cases h1 : flightB s g t = true
 ·
  rw [if_pos h1]
  by_cases h2 : left s g = []
  ·
   rw [if_pos (by rw [h2]; rfl), if_neg (fun x => x.2.1 h2)]
  ·
   rw [if_neg (fun x => h2 (List.length_eq_zero_iff.mp (by omega)))]
   by_cases h3 : t = 1000
   ·
    rw [if_pos h3, if_neg (fun x => x.2.2 h3)]
   ·
    rw [if_neg h3, if_pos ⟨h1, h2, h3⟩]
 ·
  rw [if_neg h1, if_neg (fun x => h1 x.1)]
def pk (g l : List Int) (n : Int) : Bool := decide (n ∈ g) || decide (n ∈ l)
theorem ackedBy_loop {s g : List Int} (l : List Int) (t : Int) (hs : Fits s) (hg : Fits g) (hl : Fits l) (s' : List Int) (t' : Int) : ∀ (d j : Nat) (acc : List Int), s.length - j ≤ d → acc.length ≤ j →
  Ev (fun k => impl_AckedBy.l0 k l s (s.length : Int) (j : Int) s g t s' acc t') (s', acc ++ (s.drop j).filter (pk g l), t') := by
 have hs' := hs
 unfold Fits at hs'
 intro d
 induction d with
 | zero =>
  intro j acc hd ha
  refine Ev.step (f := fun _ => some (s', acc, t')) (fun k => ?_) (Ev.congr (fun _ => ?_) (Ev.now _))
  ·
   simp only [impl_AckedBy.l0]; rw [if_neg (by omega)]
  ·
   rw [drop_end (by omega)]; simp
 | succ d ih =>
  intro j acc hd ha
  by_cases c : j < s.length
  ·
   apply Ev.next (contains_ok (rd s (j : Int)) hg)
   ·
    intro k; simp only [impl_AckedBy.l0]; rw [if_pos (by omega), if_pos (by omega), if_pos (by omega), w64 (by omega) (by omega)]
   have put : pk g l (rd s (j : Int)) = true → (s.drop j).filter (pk g l) = rd s (j : Int) :: (s.drop (j + 1)).filter (pk g l) := by
    intro h; rw [drop_rd c, List.filter_cons_of_pos h]
   by_cases e : rd s (j : Int) ∈ g
   ·
    rw [put (by simp [pk, e]), List.append_cons acc (rd s (j : Int)) ((s.drop (j + 1)).filter (pk g l))]
    refine Ev.congr (fun k => ?_) (ih (j + 1) (acc ++ [rd s (j : Int)]) (by omega) (by rw [List.length_append]; simp; omega))
    rw [if_pos (by simp [e]), if_pos (by omega)]; rfl
   ·
    refine Ev.congr (fun k => if_neg (by simp [e])) (Ev.bind (contains_ok (rd s (j : Int)) hl) ?_)
    by_cases e2 : rd s (j : Int) ∈ l
    ·
     rw [put (by simp [pk, e2]), List.append_cons acc (rd s (j : Int)) ((s.drop (j + 1)).filter (pk g l))]
     refine Ev.congr (fun k => ?_) (ih (j + 1) (acc ++ [rd s (j : Int)]) (by omega) (by rw [List.length_append]; simp; omega))
     rw [if_pos (by simp [e2]), if_pos (by omega)]; rfl
    ·
     have h3 : (s.drop j).filter (pk g l) = (s.drop (j + 1)).filter (pk g l) := by rw [drop_rd c, List.filter_cons_of_neg (by simp [pk, e, e2])]
     rw [h3]
     refine Ev.congr (fun k => ?_) (ih (j + 1) acc (by omega) (by omega))
     rw [if_neg (by simp [e2])]; rfl
  ·
   refine Ev.step (f := fun _ => some (s', acc, t')) (fun k => ?_) (Ev.congr (fun _ => ?_) (Ev.now _))
   ·
    simp only [impl_AckedBy.l0]; rw [if_neg (by omega)]
   ·
    rw [drop_end (by omega)]; simp
def acked (s g l : List Int) : List Int := s.filter (pk g l)
theorem ackedBy_ok {s g l : List Int} (t : Int) (hs : Fits s) (hg : Fits g) (hl : Fits l) :
  Ev (fun k => impl_AckedBy.f k s g t l) (if flightB s g t = true then (s, acked s g l, t) else (s, g, t)) := by
 refine Ev.congr (fun k => by unfold impl_AckedBy.f; rw [copyFlight_ok t hs hg]; rfl) (Ev.bind (flightOk_ok t hs hg) ?_)
 by_cases h1 : flightB s g t = true
 ·
  rw [if_pos h1]
  refine Ev.congr (fun k => if_pos h1) ?_
  have := ackedBy_loop l t hs hg hl s t s.length 0 [] (by omega) (by simp)
  exact this
 ·
  rw [if_neg h1]
  exact Ev.congr (fun k => if_neg h1) (Ev.now _)
end Go.Proofs.Ytfddealjbpdehaa.M
