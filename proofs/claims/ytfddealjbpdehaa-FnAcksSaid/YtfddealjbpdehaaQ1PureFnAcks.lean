/-
  What came is not said again; when all came nothing is: over numbers and lists alone, for every text that a draw is made of.
-/
import Derived.Test.YtfddealjbpdehaaQ1AcksDef
import Derived.Test.YtfddealjbpdehaaQ1MFlight
import Derived.Test.YtfddealjbpdehaaQ1MTell
namespace Go.Proofs.Ytfddealjbpdehaa.Pure
set_option linter.unusedVariables false
set_option linter.unusedSimpArgs false
open Go.RowKit Go.Proofs.Ytfddealjbpdehaa.A Go.Proofs.YtfddealjbpdehaaW.PrintWords Go.Proofs.YtfddealjbpdehaaW.PrintLast Go.Proofs.Ytfddealjbpdehaa.M
theorem fits_of {l : List Int} {n : Nat} (h : l.length ≤ n) (hn : n ≤ 1000) : Fits l := by unfold Fits; omega
theorem asc_filter {l : List Int} (p : Int → Bool) (h : Asc l) : Asc (l.filter p) := ⟨h.1.filter p, fun x hx => h.2 x (List.mem_filter.mp hx).1⟩
theorem allIn_filter {l : List Int} (p : Int → Bool) : allIn (l.filter p) l = true := by
 unfold allIn
 rw [List.all_eq_true]
 intro x hx
 exact decide_eq_true (List.mem_filter.mp hx).1
theorem flight_right {s : List Int} (p : Int → Bool) {t : Int} (hs : Asc s) (hn : s.length ≤ 6) (ht : t = 0 ∨ t = 3 ∨ t = 1000) : flightB s (s.filter p) t = true := by
 unfold flightB
 rw [asc_ascB hs, asc_ascB (asc_filter p hs), decide_eq_true (by omega : s.length ≤ 100), decide_eq_true (by omega : 0 ≤ t ∧ t ≤ 1000), allIn_filter p]
 rfl
theorem left_filter (s : List Int) (p : Int → Bool) : left s (s.filter p) = s.filter (fun n => !p n) := by
 unfold left
 refine List.filter_congr fun x hx => ?_
 by_cases h : p x = true
 ·
  rw [h, decide_eq_true (List.mem_filter.mpr ⟨hx, h⟩)]
 ·
  rw [decide_eq_false (fun m => h (List.mem_filter.mp m).2)]
  rw [Bool.eq_false_iff.mpr h]
theorem acked_filter (s l : List Int) (p : Int → Bool) : acked s (s.filter p) l = s.filter (fun n => p n || decide (n ∈ l)) := by
 unfold acked
 refine List.filter_congr fun x hx => ?_
 unfold pk
 congr 1
 by_cases h : p x = true
 ·
  rw [h]; exact decide_eq_true (List.mem_filter.mpr ⟨hx, h⟩)
 ·
  rw [decide_eq_false (fun m => h (List.mem_filter.mp m).2), Bool.eq_false_iff.mpr h]
theorem filter_split (s : List Int) (p : Int → Bool) : (s.filter (fun n => !p n)).length + (s.filter p).length = s.length := by
 induction s with
 | nil => rfl
 | cons x r ih =>
  by_cases h : p x = true
  ·
   rw [List.filter_cons_of_neg (by simp [h]), List.filter_cons_of_pos h, List.length_cons, List.length_cons]; omega
  ·
   rw [List.filter_cons_of_pos (by simp [h]), List.filter_cons_of_neg h, List.length_cons, List.length_cons]; omega
theorem filter_le (s : List Int) (p q : Int → Bool) (h : ∀ x, p x = true → q x = true) : (s.filter p).length ≤ (s.filter q).length := by
 induction s with
 | nil => exact Nat.le_refl _
 | cons x r ih =>
  by_cases hp : p x = true
  ·
   rw [List.filter_cons_of_pos hp, List.filter_cons_of_pos (h x hp), List.length_cons, List.length_cons]; omega
  ·
   rw [List.filter_cons_of_neg hp]
   by_cases hq : q x = true
   ·
    rw [List.filter_cons_of_pos hq, List.length_cons]; omega
   ·
    rw [List.filter_cons_of_neg hq]; exact ih
theorem FnAcks : laws_FnAcks.Pure := by
 intro b hb _ _
 refine Ev.rounds ?_
 by_cases big : (b.length : Int) > 1048576
 ·
  exact Ev.congr (fun k => by unfold laws_FnAcks.f laws_big.f; rw [decide_eq_true big]; rfl) (Ev.now _)
 have hb2 : (b.length : Int) ≤ 1048576 := by omega
 obtain ⟨s, g, t, e0, hs, hn, ⟨p, rfl⟩, ht⟩ := drawFlight_ok hb2
 obtain ⟨pl, ep, pl1, pl2⟩ := places_ok b hb2
 have fs : Fits s := fits_of hn (by omega)
 have ff : ∀ q : Int → Bool, Fits (s.filter q) := fun q => fits_of (Nat.le_trans (List.length_filter_le q s) hn) (by omega)
 have ok := flight_right p hs hn ht
 have e1 := leftOf_ok t fs (ff p)
 rw [left_filter] at e1
 have al : Asc (s.filter fun n => !p n) := asc_filter _ hs
 have nl : (s.filter fun n => !p n).length ≤ 6 := Nat.le_trans (List.length_filter_le _ s) hn
 have e2 := ackList_ok (ff fun n => !p n)
 rw [if_pos ⟨asc_ascB al, by omega⟩] at e2
 have e3 := readAck_ok (asc_ascB al) (by omega)
 have e4 := ackedBy_ok t fs (ff p) (ff fun n => !p n)
 rw [if_pos ok, acked_filter] at e4
 have all : (s.filter fun n => p n || decide (n ∈ s.filter fun n => !p n)) = s := by
  rw [List.filter_eq_self]
  intro x hx
  by_cases h : p x = true
  ·
   rw [h]; rfl
  ·
   rw [decide_eq_true (List.mem_filter.mpr ⟨hx, by simp [h]⟩), Bool.or_true]
 rw [all] at e4
 have e5 := saidAgain_ok t fs (ff p)
 rw [left_filter] at e5
 have e6 := saidAgain_ok t fs fs
 have ls : left s s = [] := by unfold left; rw [List.filter_eq_nil_iff]; intro x hx; simp [hx]
 rw [if_neg (fun x => x.2.1 ls)] at e6
 have ss := sameInts_ok (a := s.filter fun n => !p n) (b := s.filter fun n => !p n) (ff _)
 rw [decide_eq_true rfl] at ss
 have e7 := leftOf_ok t fs fs
 rw [ls] at e7
 have e8 := sameFlight_ok (s := s) (g := s) (s' := s) (g' := s) t t fs fs
 have one : (decide (s = s) && decide (s = s) && (t == t)) = true := by simp
 rw [one] at e8
 have e9 := flightOk_ok t fs (ff p)
 rw [ok] at e9
 have ej := ackedBy_ok (l := [Int.tmod (rd pl 0) 4]) t fs (ff p) (by unfold Fits; simp)
 rw [if_pos ok, acked_filter] at ej
 have e10 := flightOk_ok t fs (ff fun n => p n || decide (n ∈ [Int.tmod (rd pl 0) 4]))
 rw [flight_right _ hs hn ht] at e10
 have e11 := leftOf_ok t fs (ff fun n => p n || decide (n ∈ [Int.tmod (rd pl 0) 4]))
 rw [left_filter] at e11
 have le := filter_le s (fun n => !(p n || decide (n ∈ [Int.tmod (rd pl 0) 4]))) (fun n => !p n) (fun x hx => by simp at hx; simp [hx.1])
 have sum := filter_split s p
 have common : Ev (fun k => (impl_FlightOk.f k s (s.filter p) t).bind fun t463 => (if t463 = true then ((impl_FlightOk.f k s (s.filter fun n => p n || decide (n ∈ [Int.tmod (rd pl 0) 4])) t).bind fun t464 => (if t464 = true then ((impl_LeftOf.f k s (s.filter fun n => p n || decide (n ∈ [Int.tmod (rd pl 0) 4])) t).bind fun t465 => (if (t465.length : Int) ≤ ((s.filter fun n => !p n).length : Int) then (some ((wrap64 (((s.filter fun n => !p n).length : Int) + ((s.filter p).length : Int))) == (s.length : Int))) else (none))) else (none))) else (none))) true := by
  refine Ev.bind e9 (Ev.congr (fun k => if_pos rfl) (Ev.bind e10 (Ev.congr (fun k => if_pos rfl) (Ev.bind e11 (Ev.congr (fun k => ?_) (Ev.now _))))))
  rw [if_pos (by omega), w64 (by omega) (by omega)]
  congr 1
  exact beq_iff_eq.mpr (by omega)
 have tail : ∀ (list : List Int) (t' : Int), ((list = (s.filter fun n => !p n) ∧ t' = wrap64 (t + 1)) ∨ (list = [] ∧ t' = t)) → ∀ (d j : Nat), list.length - j ≤ d →
   Ev (fun k => laws_FnAcks.l0 k b (s.filter fun n => !p n) true (s.filter fun n => !p n) true list [] (j : Int) s (s.filter p) t s s t s (s.filter p) t' s s t) true := by
  intro list t' hc
  have fin : ∀ j : Nat, ¬ j < list.length → Ev (fun k => laws_FnAcks.l0 k b (s.filter fun n => !p n) true (s.filter fun n => !p n) true list [] (j : Int) s (s.filter p) t s s t s (s.filter p) t' s s t) true := by
   intro j hj
   apply Ev.next ep
   ·
    intro k; simp only [laws_FnAcks.l0]; rw [if_neg (by omega)]
   refine Ev.congr (fun k => if_pos (by omega)) (Ev.bind ej ?_)
   refine Ev.congr (fun k => if_pos trivial) (Ev.congr (fun k => if_pos trivial) (Ev.bind ss (Ev.congr (fun k => if_pos rfl) (Ev.bind e7 (Ev.congr (fun k => if_pos rfl) (Ev.congr (fun k => if_pos rfl) (Ev.bind e8 (Ev.congr (fun k => if_pos rfl) ?_))))))))
   rcases hc with ⟨rfl, rfl⟩ | ⟨rfl, rfl⟩
   ·
    exact Ev.congr (fun k => if_pos rfl) (Ev.congr (fun k => if_pos rfl) common)
   ·
    by_cases c : (s.filter fun n => !p n).length = 0
    ·
     refine Ev.congr (fun k => if_pos (by rw [c]; rfl)) (Ev.congr (fun k => if_neg (by rw [w64 (by omega) (by omega)]; omega)) (Ev.congr (fun k => if_pos rfl) (Ev.congr (fun k => if_pos rfl) common)))
    ·
     exact Ev.congr (fun k => if_neg (by simp only [List.length_nil]; omega)) (Ev.congr (fun k => if_pos rfl) (Ev.congr (fun k => if_pos rfl) common))
  intro d
  induction d with
  | zero => intro j hd; exact fin j (by omega)
  | succ d ih =>
   intro j hd
   by_cases c : j < list.length
   ·
    rcases hc with ⟨rfl, rfl⟩ | ⟨rfl, rfl⟩
    ·
     refine Ev.step (fun k => ?_) (ih (j + 1) (by omega))
     simp only [laws_FnAcks.l0]
     rw [if_pos (by omega), if_neg (by omega), if_pos (by omega), if_pos (by omega), if_pos trivial, w64 (by omega) (by omega)]
     rfl
    ·
     simp at c
   ·
    exact fin j c
 refine Ev.congr (fun k => by unfold laws_FnAcks.f laws_big.f; rw [decide_eq_false big]; rfl) (Ev.bind e0 (Ev.bind e1 (Ev.bind e2 (Ev.bind e3 (Ev.bind e4 (Ev.bind e5 (Ev.bind e6 ?_)))))))
 by_cases c : flightB s (s.filter p) t = true ∧ (s.filter fun n => !p n) ≠ [] ∧ t ≠ 1000
 ·
  rw [if_pos c]
  exact tail _ _ (.inl ⟨rfl, rfl⟩) _ 0 (Nat.le_refl _)
 ·
  rw [if_neg c]
  exact tail _ _ (.inr ⟨rfl, rfl⟩) _ 0 (Nat.le_refl _)
end Go.Proofs.Ytfddealjbpdehaa.Pure
