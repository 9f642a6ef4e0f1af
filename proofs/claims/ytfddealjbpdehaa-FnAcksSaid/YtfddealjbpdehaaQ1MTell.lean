/-
  A list of numbers in bytes and back: the program's AckList and ReadAck, told as plain facts on lists.
-/
import Derived.Test.YtfddealjbpdehaaQ1MAck
namespace Go.Proofs.Ytfddealjbpdehaa.M
set_option linter.unusedVariables false
set_option linter.unusedSimpArgs false
open Go.RowKit Go.Proofs.Ytfddealjbpdehaa.A Go.Proofs.YtfddealjbpdehaaW.PrintWords Go.Proofs.YtfddealjbpdehaaW.PrintLast
theorem str_append (a b : List Int) : strOfNums a ++ strOfNums b = strOfNums (a ++ b) := by
 have : (strOfNums a ++ strOfNums b).data = (strOfNums (a ++ b)).data := by simp [strOfNums]
 cases h1 : strOfNums a ++ strOfNums b; cases h2 : strOfNums (a ++ b)
 rw [h1, h2] at this; exact congrArg ByteArray.mk this
theorem str_nil : strOfNums [] = ⟨#[]⟩ := rfl
def catI (l : List Int) : List Int := l.flatMap fun x => varI x.toNat
def ackI (l : List Int) : List Int := varI l.length ++ catI l
theorem catI_cons (x : Int) (l : List Int) : catI (x :: l) = varI x.toNat ++ catI l := rfl
theorem catI_byte (l : List Int) : ∀ x ∈ catI l, 0 ≤ x ∧ x < 256 := by
 intro x hx
 obtain ⟨y, _, h⟩ := List.mem_flatMap.mp hx
 exact varI_byte _ x h
theorem ackI_byte (l : List Int) : ∀ x ∈ ackI l, 0 ≤ x ∧ x < 256 := by
 intro x hx
 rcases List.mem_append.mp hx with h | h
 ·
  exact varI_byte _ x h
 ·
  exact catI_byte _ x h
theorem asc_of_ascB {l : List Int} (h : ascB l = true) : ∀ x ∈ l, 0 ≤ x ∧ x ≤ 9999 := by
 intro x hx
 obtain ⟨j, hj, rfl⟩ := List.getElem_of_mem hx
 have := (of_decide_eq_true h j hj (by omega)).1
 rw [rd_nat hj] at this
 exact this
theorem ackList_loop {l : List Int} (hr : ∀ x ∈ l, 0 ≤ x ∧ x ≤ 9999) (hl : l.length ≤ 100) : ∀ (d j : Nat) (acc : List Int), l.length - j ≤ d → acc.length ≤ 10 + 5 * j → j ≤ l.length →
  Ev (fun k => impl_AckList.l0 k (strOfNums acc) l (l.length : Int) (j : Int)) (strOfNums (acc ++ catI (l.drop j)), true) := by
 have fin : ∀ (j : Nat) (acc : List Int), ¬ j < l.length → Ev (fun k => impl_AckList.l0 k (strOfNums acc) l (l.length : Int) (j : Int)) (strOfNums (acc ++ catI (l.drop j)), true) := by
  intro j acc hj
  refine Ev.step (f := fun _ => some (strOfNums acc, true)) (fun k => ?_) (Ev.congr (fun _ => ?_) (Ev.now _))
  ·
   simp only [impl_AckList.l0]; rw [if_neg (by omega)]
  ·
   rw [drop_end hj]; simp [catI]
 intro d
 induction d with
 | zero => intro j acc hd _ _; exact fin j acc (by omega)
 | succ d ih =>
  intro j acc hd ha hj
  by_cases c : j < l.length
  ·
   have hx := hr _ (rd_mem (l := l) (i := (j : Int)) (by omega) (by omega))
   have hv := varI_len 4 (rd l (j : Int)).toNat (by omega)
   apply Ev.next (varText_ok (n := rd l (j : Int)) (by omega) (by omega))
   ·
    intro k; simp only [impl_AckList.l0]; rw [if_pos (by omega), if_pos (by omega), if_pos (by omega), w64 (by omega) (by omega)]
   have := ih (j + 1) (acc ++ varI (rd l (j : Int)).toNat) (by omega) (by rw [List.length_append]; omega) (by omega)
   rw [drop_rd c, catI_cons, ← List.append_assoc]
   refine Ev.congr (fun k => ?_) this
   show (if (strOfNums acc).size + (strOfNums (varI (rd l (j : Int)).toNat)).size ≤ _ then _ else _) = _
   rw [if_pos (by rw [strOfNums_size, strOfNums_size]; omega), str_append]; rfl
  ·
   exact fin j acc c
theorem ackList_ok {l : List Int} (hf : Fits l) : Ev (fun k => impl_AckList.f k l) (if ascB l = true ∧ l.length ≤ 100 then (strOfNums (ackI l), true) else (⟨#[]⟩, false)) := by
 have no : Ev (fun k => impl_AckList.j0 k l true) (⟨#[]⟩, false) := Ev.step (f := fun _ => some (⟨#[]⟩, false)) (fun k => by simp only [impl_AckList.j0, if_true]) (Ev.now _)
 refine Ev.congr (fun k => rfl) (Ev.bind (numbersOk_ok hf) ?_)
 by_cases h1 : ascB l = true
 ·
  rw [h1]
  by_cases h2 : l.length ≤ 100
  ·
   rw [if_pos ⟨rfl, h2⟩]
   have hv := varI_len 4 l.length (by omega)
   have := ackList_loop (asc_of_ascB h1) h2 l.length 0 (varI l.length) (by omega) (by omega) (by omega)
   have hn := varText_ok (n := (l.length : Int)) (by omega) (by omega)
   rw [Int.toNat_natCast] at hn
   refine Ev.congr (f := fun k => impl_AckList.j0 k l false) (fun k => ?_) ?_
   ·
    rw [if_pos rfl, decide_eq_false (by omega)]
   apply Ev.next hn
   ·
    intro k; simp only [impl_AckList.j0]; rw [if_neg (by decide)]
   exact this
  ·
   rw [if_neg (fun x => h2 x.2)]
   exact Ev.congr (fun k => by rw [if_pos rfl, decide_eq_true (by omega)]) no
 ·
  rw [Bool.eq_false_iff.mpr h1, if_neg (fun x => by simp at x)]
  exact Ev.congr (fun k => if_neg (by decide)) no
theorem readAck_loop {l : List Int} (hr : ∀ x ∈ l, 0 ≤ x ∧ x ≤ 9999) (ha : ascB l = true) (hl : l.length ≤ 100) {t : ByteArray} (ht : t = strOfNums (ackI l)) (hts : (t.size : Int) ≤ 140737488351232) : ∀ (d j p : Nat), l.length - j ≤ d → j ≤ l.length → Has t p (catI (l.drop j)) →
  Ev (fun k => impl_ReadAck.l0 k t (p : Int) (l.take j) (l.length : Int) (j : Int)) (l, true) := by
 have hf : Fits l := by unfold Fits; omega
 have fin : ∀ (j p : Nat), ¬ j < l.length → Ev (fun k => impl_ReadAck.l0 k t (p : Int) (l.take j) (l.length : Int) (j : Int)) (l, true) := by
  intro j p hj
  have e := ackList_ok hf
  rw [if_pos ⟨ha, hl⟩] at e
  rw [List.take_of_length_le (by omega)]
  apply Ev.next e
  ·
   intro k; simp only [impl_ReadAck.l0]; rw [if_neg (by omega)]
  exact Ev.congr (fun k => by rw [if_pos rfl, if_pos (by rw [ht])]) (Ev.now _)
 intro d
 induction d with
 | zero => intro j p hd _ _; exact fin j p (by omega)
 | succ d ih =>
  intro j p hd hj hh
  by_cases c : j < l.length
  ·
   have hx := hr _ (rd_mem (l := l) (i := (j : Int)) (by omega) (by omega))
   rw [drop_rd c, catI_cons] at hh
   apply Ev.next (readVar_ok hts (by omega : (rd l (j : Int)).toNat ≤ 1000000000) hh.left)
   ·
    intro k; simp only [impl_ReadAck.l0]; rw [if_pos (by omega), w64 (by omega) (by omega)]
   have := ih (j + 1) (p + (varI (rd l (j : Int)).toNat).length) (by omega) (by omega) hh.right
   refine Ev.congr (fun k => ?_) this
   rw [if_pos rfl, if_pos (by rw [List.length_take]; omega)]
   have e : l.take j ++ [((rd l (j : Int)).toNat : Int)] = l.take (j + 1) := by
    rw [List.take_succ_eq_append_getElem c, rd_nat c]
    have := hr _ (List.getElem_mem c)
    congr 2; omega
   rw [e]; rfl
  ·
   exact fin j p c
theorem readAck_ok {l : List Int} (ha : ascB l = true) (hl : l.length ≤ 100) : Ev (fun k => impl_ReadAck.f k (strOfNums (ackI l))) (l, true) := by
 have hr := asc_of_ascB ha
 have hv := varI_len 4 l.length (by omega)
 have hlen : (ackI l).length ≤ 1000 := by
  have : ∀ m : List Int, (∀ x ∈ m, 0 ≤ x ∧ x ≤ 9999) → (catI m).length ≤ 5 * m.length := by
   intro m
   induction m with
   | nil => intro _; simp [catI]
   | cons x m ih =>
    intro h
    have h1 := varI_len 4 x.toNat (by have := h x List.mem_cons_self; omega)
    have h2 := ih (fun y hy => h y (List.mem_cons_of_mem _ hy))
    rw [catI_cons, List.length_append, List.length_cons]; omega
  have := this l hr
  unfold ackI
  rw [List.length_append]; omega
 have hts : ((strOfNums (ackI l)).size : Int) ≤ 140737488351232 := by rw [strOfNums_size]; omega
 have hh : Has (strOfNums (ackI l)) 0 (ackI l) := has_strOfNums _ (ackI_byte l)
 have h0 : Has (strOfNums (ackI l)) 0 (varI l.length) := Has.left hh
 have h1 : Has (strOfNums (ackI l)) (0 + (varI l.length).length) (catI (l.drop 0)) := Has.right hh
 have := readAck_loop hr ha hl rfl hts l.length 0 _ (by omega) (by omega) h1
 refine Ev.congr (fun k => rfl) (Ev.bind (readVar_ok hts (by omega : l.length ≤ 1000000000) h0) ?_)
 refine Ev.congr (fun k => ?_) (Ev.step (g := fun k => impl_ReadAck.j0 k (strOfNums (ackI l)) (l.length : Int) ((0 + (varI l.length).length : Nat) : Int) false) (fun k => ?_) this)
 ·
  rw [if_pos rfl, decide_eq_false (by omega)]
 ·
  simp only [impl_ReadAck.j0]; rw [if_neg (by decide)]; rfl
theorem sameInts_loop {a b : List Int} (hf : Fits a) (he : a.length = b.length) : ∀ (d j : Nat), a.length - j ≤ d → Ev (fun k => laws_sameInts.l0 k a b (j : Int)) (decide (a.drop j = b.drop j)) := by
 unfold Fits at hf
 have fin : ∀ j : Nat, ¬ j < a.length → Ev (fun k => laws_sameInts.l0 k a b (j : Int)) (decide (a.drop j = b.drop j)) := by
  intro j hj
  refine Ev.step (f := fun _ => some true) (fun k => ?_) (Ev.congr (fun _ => ?_) (Ev.now _))
  ·
   simp only [laws_sameInts.l0]; rw [if_neg (by omega)]
  ·
   rw [drop_end hj, drop_end (by omega)]; rfl
 intro d
 induction d with
 | zero => intro j hd; exact fin j (by omega)
 | succ d ih =>
  intro j hd
  by_cases c : j < a.length
  ·
   by_cases e : rd a (j : Int) = rd b (j : Int)
   ·
    have h2 : decide (a.drop j = b.drop j) = decide (a.drop (j + 1) = b.drop (j + 1)) := by rw [drop_rd c, drop_rd (by omega : j < b.length), e]; exact decide_eq_decide.mpr ⟨fun h => (List.cons.inj h).2, fun h => by rw [h]⟩
    rw [h2]
    refine Ev.step (fun k => ?_) (ih (j + 1) (by omega))
    simp only [laws_sameInts.l0]; rw [if_pos (by omega), if_pos (by omega), if_pos (by omega), if_pos e, w64 (by omega) (by omega)]; rfl
   ·
    have h2 : decide (a.drop j = b.drop j) = false := decide_eq_false (by rw [drop_rd c, drop_rd (by omega : j < b.length)]; exact fun h => e (List.cons.inj h).1)
    rw [h2]
    refine Ev.step (f := fun _ => some false) (fun k => ?_) (Ev.now _)
    simp only [laws_sameInts.l0]; rw [if_pos (by omega), if_pos (by omega), if_pos (by omega), if_neg e]
  ·
   exact fin j c
theorem sameInts_ok {a b : List Int} (hf : Fits a) : Ev (fun k => laws_sameInts.f k a b) (decide (a = b)) := by
 by_cases he : a.length = b.length
 ·
  exact Ev.congr (fun k => by unfold laws_sameInts.f; rw [if_pos (by omega)]; rfl) (sameInts_loop hf he a.length 0 (by omega))
 ·
  rw [decide_eq_false (fun h => he (by rw [h]))]
  exact Ev.congr (fun k => by unfold laws_sameInts.f; rw [if_neg (by omega)]) (Ev.now _)
theorem sameFlight_ok {s g s' g' : List Int} (t t' : Int) (hs : Fits s) (hg : Fits g) : Ev (fun k => laws_sameFlight.f k s g t s' g' t') (decide (s = s') && decide (g = g') && (t == t')) := by
 refine Ev.congr (fun k => rfl) (Ev.bind (sameInts_ok hs) ?_)
 by_cases h1 : s = s'
 ·
  rw [decide_eq_true h1, Bool.true_and]
  refine Ev.congr (fun k => if_pos rfl) (Ev.bind (sameInts_ok hg) ?_)
  by_cases h2 : g = g'
  ·
   rw [decide_eq_true h2, Bool.true_and]; exact Ev.congr (fun k => if_pos rfl) (Ev.now _)
  ·
   rw [decide_eq_false h2, Bool.false_and]; exact Ev.congr (fun k => if_neg (by decide)) (Ev.now _)
 ·
  rw [decide_eq_false h1, Bool.false_and, Bool.false_and]; exact Ev.congr (fun k => if_neg (by decide)) (Ev.now _)
end Go.Proofs.Ytfddealjbpdehaa.M
