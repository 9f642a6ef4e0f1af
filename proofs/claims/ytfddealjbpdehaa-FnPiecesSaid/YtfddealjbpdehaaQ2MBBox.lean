/-
  A box that right pieces of one text are put into: plain facts.
-/
import Derived.Test.YtfddealjbpdehaaQ2Bx4
import Derived.Test.YtfddealjbpdehaaQ2Bx7
import Derived.Test.YtfddealjbpdehaaQ2MBRead
namespace Go.Proofs.Ytfddealjbpdehaa.MB
set_option linter.unusedVariables false
set_option linter.unusedSimpArgs false
open Go.RowKit Go.Proofs.Ytfddealjbpdehaa.B Go.Proofs.YtfddealjbpdehaaW.PrintWords Go.Proofs.YtfddealjbpdehaaW.PrintLast Go.Proofs.YtfddealjbpdehaaW.PrintMore
def Inv (t T : ByteArray) (H : List Bool) : Prop := T.size = t.size ∧ H.length = t.size ∧ ∀ j : Nat, j < t.size → H.getD j false = true → bt T (j : Int) = bt t (j : Int)
theorem getD_set (H : List Bool) (i j : Nat) (hi : i < H.length) : (H.set i true).getD j false = if j = i then true else H.getD j false := by
 simp only [List.getD_eq_getElem?_getD, List.getElem?_set]
 by_cases c : i = j
 ·
  subst c; rw [if_pos rfl, if_pos rfl, if_pos hi]; rfl
 ·
  rw [if_neg c, if_neg (fun h => c h.symm)]
theorem fill_end {t T : ByteArray} {id n : Int} {H0 H : List Bool} {a b : Nat} (ht : t.size ≤ 200) (hT : T.size = t.size) (hab : a ≤ b) (hb : b ≤ t.size) (k : Nat) :
  impl_filledBox.l0 (k + 1) H (b : Int) id n T H0 id n (a : Int) (t.extract a b) = some (id, n, (T.extract 0 a ++ t.extract a b) ++ T.extract b T.size, H) := by
 have hs : (t.extract a b).size = b - a := by rw [ByteArray.size_extract]; omega
 have s1 : (T.extract 0 a).size = a := by rw [ByteArray.size_extract]; omega
 have s2 : (T.extract b T.size).size = T.size - b := by rw [ByteArray.size_extract]; omega
 have e1 : wrap64 ((a : Int) + ((t.extract a b).size : Int)) = (b : Int) := by rw [hs, w64 (by omega) (by omega)]; omega
 simp only [impl_filledBox.l0]
 simp only [e1, Int.toNat_natCast]
 have c1 : ¬ (b : Int) < (b : Int) := by omega
 have c2 : (0 : Int) ≤ (a : Int) := by omega
 have c3 : (a : Int) ≤ (T.size : Int) := by omega
 have c4 : (T.extract 0 a).size + (t.extract a b).size ≤ 9223372036854775807 := by rw [s1, hs]; omega
 have c5 : (0 : Int) ≤ (b : Int) := by omega
 have c6 : (b : Int) ≤ (T.size : Int) := by omega
 have c7 : (T.extract 0 a).size + (t.extract a b).size + (T.extract b T.size).size ≤ 9223372036854775807 := by rw [s1, s2, hs]; omega
 rw [if_neg c1, if_pos c2, if_pos c3, if_pos c4, if_pos c5, if_pos c6, if_pos c7]
theorem fill_step {t T : ByteArray} {id n : Int} {H0 H : List Bool} {a b i : Nat} (ht : t.size ≤ 200) (hT : T.size = t.size) (hab : a ≤ b) (hb : b ≤ t.size) (c : i < b) (hl : H.length = t.size) (k : Nat) :
  impl_filledBox.l0 (k + 1) H (i : Int) id n T H0 id n (a : Int) (t.extract a b) = impl_filledBox.l0 k (H.set i true) ((i + 1 : Nat) : Int) id n T H0 id n (a : Int) (t.extract a b) := by
 have hs : (t.extract a b).size = b - a := by rw [ByteArray.size_extract]; omega
 have e1 : wrap64 ((a : Int) + ((t.extract a b).size : Int)) = (b : Int) := by rw [hs, w64 (by omega) (by omega)]; omega
 have e2 : wrap64 ((i : Int) + 1) = ((i + 1 : Nat) : Int) := by rw [w64 (by omega) (by omega)]; omega
 have c1 : (i : Int) < (b : Int) := by omega
 have c2 : (0 : Int) ≤ (i : Int) := by omega
 have c3 : (i : Int) < (H.length : Int) := by omega
 simp only [impl_filledBox.l0]
 rw [e1, if_pos c1, if_pos c2, if_pos c3, e2, Int.toNat_natCast]
theorem fill_loop {t T : ByteArray} {id n : Int} {H0 : List Bool} {a b : Nat} (ht : t.size ≤ 200) (hT : T.size = t.size) (hab : a ≤ b) (hb : b ≤ t.size) :
  ∀ (d i : Nat) (H : List Bool), b - i ≤ d → i ≤ b → H.length = t.size →
   ∃ H2, Ev (fun k => impl_filledBox.l0 k H (i : Int) id n T H0 id n (a : Int) (t.extract a b)) (id, n, (T.extract 0 a ++ t.extract a b) ++ T.extract b T.size, H2) ∧ H2.length = t.size ∧
    ∀ j : Nat, H2.getD j false = if i ≤ j ∧ j < b then true else H.getD j false := by
 have hs : (t.extract a b).size = b - a := by rw [ByteArray.size_extract]; omega
 have stop : ∀ H : List Bool, H.length = t.size → ∃ H2, Ev (fun k => impl_filledBox.l0 k H (b : Int) id n T H0 id n (a : Int) (t.extract a b)) (id, n, (T.extract 0 a ++ t.extract a b) ++ T.extract b T.size, H2) ∧ H2.length = t.size ∧
    ∀ j : Nat, H2.getD j false = if b ≤ j ∧ j < b then true else H.getD j false := by
  intro H hl
  generalize hX : ((T.extract 0 a ++ t.extract a b) ++ T.extract b T.size) = X
  refine ⟨H, ⟨1, fun k hk => ?_⟩, hl, fun j => ?_⟩
  ·
   obtain ⟨k, rfl⟩ : ∃ m, k = m + 1 := ⟨k - 1, by omega⟩
   rw [← hX]
   exact fill_end ht hT hab hb k
  ·
   have : ¬ (b ≤ j ∧ j < b) := by omega
   rw [if_neg this]
 intro d
 induction d with
 | zero =>
  intro i H hd hi hl
  have e : i = b := by omega
  rw [e]; exact stop H hl
 | succ d ih =>
  intro i H hd hi hl
  by_cases c : i < b
  ·
   obtain ⟨H2, h2, hl2, hj⟩ := ih (i + 1) (H.set i true) (by omega) (by omega) (by rw [List.length_set]; exact hl)
   refine ⟨H2, Ev.step (fun k => ?_) h2, hl2, fun j => ?_⟩
   ·
    exact fill_step ht hT hab hb c hl k
   ·
    rw [hj j, getD_set H i j (by omega)]
    by_cases q : j = i
    ·
     subst q
     have q1 : ¬ (j + 1 ≤ j ∧ j < b) := by omega
     have q2 : j ≤ j ∧ j < b := ⟨by omega, c⟩
     rw [if_neg q1, if_pos rfl, if_pos q2]
    ·
     rw [if_neg q]
     by_cases q2 : i + 1 ≤ j ∧ j < b
     ·
      have q3 : i ≤ j ∧ j < b := by omega
      rw [if_pos q2, if_pos q3]
     ·
      have q3 : ¬ (i ≤ j ∧ j < b) := by omega
      rw [if_neg q2, if_neg q3]
  ·
   have e : i = b := by omega
   rw [e]; exact stop H hl
theorem fill_ok {t T : ByteArray} {id : Int} {H : List Bool} {a b : Nat} (ht : t.size ≤ 200) (hi : Inv t T H) (hab : a ≤ b) (hb : b ≤ t.size) :
  ∃ T2 H2, Ev (fun k => impl_filledBox.f k id (t.size : Int) T H id (t.size : Int) (a : Int) (t.extract a b)) (id, (t.size : Int), T2, H2) ∧ Inv t T2 H2 ∧
   (∀ j : Nat, H.getD j false = true → H2.getD j false = true) ∧ (∀ j : Nat, a ≤ j → j < b → H2.getD j false = true) := by
 obtain ⟨hT, hl, hc⟩ := hi
 obtain ⟨H2, h2, hl2, hj⟩ := fill_loop (id := id) (n := (t.size : Int)) (H0 := H) ht hT hab hb (b - a) a H (by omega) hab hl
 have hs : (t.extract a b).size = b - a := by rw [ByteArray.size_extract]; omega
 have s1 : (T.extract 0 a).size = a := by rw [ByteArray.size_extract]; omega
 have s2 : (T.extract b T.size).size = T.size - b := by rw [ByteArray.size_extract]; omega
 have s3 : (T.extract 0 a ++ t.extract a b).size = b := by rw [ByteArray.size_append, s1, hs]; omega
 refine ⟨(T.extract 0 a ++ t.extract a b) ++ T.extract b T.size, H2, ?_, ⟨?_, hl2, fun j hjt hjh => ?_⟩, fun j h => ?_, fun j h1 h3 => by rw [hj j, if_pos ⟨h1, h3⟩]⟩
 ·
  refine Ev.congr (fun k => ?_) h2
  simp only [impl_filledBox.f, Option.bind_some, List.nil_append]
  rw [if_pos (by simp; omega)]
 ·
  rw [ByteArray.size_append, s3, s2]; omega
 ·
  by_cases c1 : j < b
  ·
   rw [bt_append_left (by rw [s3]; exact c1)]
   by_cases c2 : j < a
   ·
    rw [bt_append_left (by rw [s1]; exact c2), bt_extract (by omega) (by omega), Nat.zero_add]
    rw [hj j, if_neg (by omega)] at hjh
    exact hc j hjt hjh
   ·
    have e : (j : Int) = (((T.extract 0 a).size + (j - a) : Nat) : Int) := by rw [s1]; omega
    rw [e, bt_append_right (by rw [hs]; omega), bt_extract hb (by omega), s1]
  ·
   have e : (j : Int) = (((T.extract 0 a ++ t.extract a b).size + (j - b) : Nat) : Int) := by rw [s3]; omega
   rw [e, bt_append_right (by rw [s2]; omega), bt_extract (by omega) (by omega), s3]
   rw [hj j, if_neg (by omega)] at hjh
   have e2 : b + (j - b) = j := by omega
   rw [e2]
   exact hc j hjt hjh
 ·
  rw [hj j]; split
  ·
   rfl
  ·
   exact h
theorem copyBox_f (a b : Int) (T : ByteArray) (H : List Bool) (h : H.length ≤ 200) : impl_copyBox.f a b T H = some (a, b, T, H) := by
 simp only [impl_copyBox.f, Option.bind_some, List.nil_append]
 rw [if_pos (by simp; omega)]
theorem boxOk_ok {t T : ByteArray} {id : Int} {H : List Bool} (ht : t.size ≤ 200) (hi : Inv t T H) (i0 : 0 ≤ id) (i1 : id ≤ 65535) : impl_boxOk.f id (t.size : Int) T H = some true := by
 obtain ⟨hT, hl, _⟩ := hi
 simp only [impl_boxOk.f, within_f, Option.bind_some]
 rw [if_pos (decide_eq_true ⟨i0, i1⟩), if_pos (decide_eq_true ⟨by omega, by omega⟩), if_pos (by omega)]
 congr 1
 exact beq_iff_eq.mpr (by omega)
theorem boxOf_ok {t : ByteArray} {id : Int} {p : S36} (ht : t.size ≤ 200) (i0 : 0 ≤ id) (i1 : id ≤ 65535) (h : GoodP t id p) :
  ∃ T2 H2, Ev (fun k => impl_BoxOf.f k p.f0 p.f1 p.f2 p.f3) (id, (t.size : Int), T2, H2, true) ∧ Inv t T2 H2 := by
 have hok := pieceOk_ok ht i0 i1 h
 obtain ⟨a, b, hab, hb, _, rfl⟩ := h
 have hrs : (⟨(Lib.repeatL (⟨#[0]⟩ : ByteArray).data.toList ((t.size : Int)).toNat).toArray⟩ : ByteArray).size = t.size := by
  rw [ba_size]
  show (Lib.repeatL _ _).length = _
  rw [Lib.repeatL_length, Int.toNat_natCast]; simp
 have hI : Inv t (⟨(Lib.repeatL (⟨#[0]⟩ : ByteArray).data.toList ((t.size : Int)).toNat).toArray⟩ : ByteArray) (List.replicate t.size false) := by
  refine ⟨hrs, List.length_replicate, fun j hj hh => ?_⟩
  rw [List.getD_eq_getElem?_getD, List.getElem?_replicate, if_pos hj] at hh
  cases hh
 obtain ⟨T2, H2, h2, hi2, _, _⟩ := fill_ok (id := id) ht hI hab hb
 refine ⟨T2, H2, ?_, hi2⟩
 have hrep : strings_Repeat.f (⟨#[0]⟩ : ByteArray) (t.size : Int) = some ⟨(Lib.repeatL (⟨#[0]⟩ : ByteArray).data.toList ((t.size : Int)).toNat).toArray⟩ := by
  unfold strings_Repeat.f
  rw [if_pos ⟨by omega, by omega, by rw [show (⟨#[0]⟩ : ByteArray).size = 1 from rfl]; omega⟩]
 simp only [piece] at hok ⊢
 simp only [impl_BoxOf.f, hok, hrep, Option.bind_some]
 have c1 : (0 : Int) ≤ (t.size : Int) := by omega
 have c2 : ((t.size : Int)).toNat ≤ 281474976710656 := by omega
 refine ifp trivial (ifp c1 (ifp c2 (Ev.bind (a := (id, (t.size : Int), T2, H2)) ?_ (Ev.now _))))
 rw [Int.toNat_natCast] at h2 ⊢
 exact h2
theorem put_step {t T : ByteArray} {id n id' n' : Int} {H : List Bool} {a b i : Nat} (ht : t.size ≤ 200) (hab : a ≤ b) (hb : b ≤ t.size) (hi : Inv t T H) (c : i < b - a) (k : Nat) :
  impl_BoxPut.l0 (k + 1) (i : Int) id n T H id' n' (a : Int) (t.extract a b) = impl_BoxPut.l0 k ((i + 1 : Nat) : Int) id n T H id' n' (a : Int) (t.extract a b) := by
 have hs : (t.extract a b).size = b - a := by rw [ByteArray.size_extract]; omega
 have e1 : wrap64 ((a : Int) + (i : Int)) = ((a + i : Nat) : Int) := by rw [w64 (by omega) (by omega)]; omega
 have e2 : wrap64 ((i : Int) + 1) = ((i + 1 : Nat) : Int) := by rw [w64 (by omega) (by omega)]; omega
 have hl := hi.2.1
 have hT := hi.1
 have c1 : (i : Int) < ((t.extract a b).size : Int) := by rw [hs]; omega
 have c2 : (0 : Int) ≤ ((a + i : Nat) : Int) := by omega
 have c3 : ((a + i : Nat) : Int) < (H.length : Int) := by omega
 have c4 : ((a + i : Nat) : Int) < (T.size : Int) := by omega
 have c5 : (0 : Int) ≤ (i : Int) := by omega
 simp only [impl_BoxPut.l0]
 rw [if_pos c1, e1, e2, if_pos c2, if_pos c3]
 have er : rdOf false H ((a + i : Nat) : Int) = H.getD (a + i) false := by unfold rdOf; rw [Int.toNat_natCast]
 rw [er]
 by_cases q : H.getD (a + i) false = true
 ·
  have eb : bt T ((a + i : Nat) : Int) = bt (t.extract a b) (i : Int) := by rw [hi.2.2 (a + i) (by omega) q, bt_extract hb (by omega)]
  rw [if_pos q, if_pos c4, if_pos c5, if_pos eb]
 ·
  rw [if_neg q]
theorem boxPut_ok {t T : ByteArray} {id : Int} {H : List Bool} {p : S36} (ht : t.size ≤ 200) (i0 : 0 ≤ id) (i1 : id ≤ 65535) (hi : Inv t T H) (h : GoodP t id p) :
  ∃ T2 H2, Ev (fun k => impl_BoxPut.f k id (t.size : Int) T H p.f0 p.f1 p.f2 p.f3) (id, (t.size : Int), T2, H2, 0) ∧ Inv t T2 H2 ∧
   (∀ j : Nat, H.getD j false = true → H2.getD j false = true) ∧ (∀ j, Brings t id p j → H2.getD j false = true) := by
 have hok := pieceOk_ok ht i0 i1 h
 have hbx := boxOk_ok ht hi i0 i1
 obtain ⟨a, b, hab, hb, _, rfl⟩ := h
 have hs : (t.extract a b).size = b - a := by rw [ByteArray.size_extract]; omega
 obtain ⟨T2, H2, h2, hi2, hm, hbr⟩ := fill_ok (id := id) ht hi hab hb
 have loop : ∀ (d i : Nat), (b - a) - i ≤ d → i ≤ b - a → Ev (fun k => impl_BoxPut.l0 k (i : Int) id (t.size : Int) T H id (t.size : Int) (a : Int) (t.extract a b)) (id, (t.size : Int), T2, H2, 0) := by
  have fin : Ev (fun k => impl_BoxPut.l0 k ((b - a : Nat) : Int) id (t.size : Int) T H id (t.size : Int) (a : Int) (t.extract a b)) (id, (t.size : Int), T2, H2, 0) := by
   apply Ev.next h2
   ·
    intro k; simp only [impl_BoxPut.l0]; rw [if_neg (by rw [hs]; omega)]
   exact Ev.now _
  intro d
  induction d with
  | zero =>
   intro i hd hle
   have e : i = b - a := by omega
   rw [e]; exact fin
  | succ d ih =>
   intro i hd hle
   by_cases c : i < b - a
   ·
    exact Ev.step (fun k => put_step ht hab hb hi c k) (ih (i + 1) (by omega) (by omega))
   ·
    have e : i = b - a := by omega
    rw [e]; exact fin
 refine ⟨T2, H2, ?_, hi2, hm, fun j hj => ?_⟩
 ·
  simp only [piece] at hok ⊢
  simp only [impl_BoxPut.f, hok, hbx, Option.bind_some]
  refine ifp trivial ?_
  refine Ev.step (fun k => ?_) (loop (b - a) 0 (by omega) (by omega))
  simp only [impl_BoxPut.j0]
  rw [if_neg (by simp), if_pos trivial, if_pos trivial]
  rfl
 ·
  obtain ⟨a', b', h1, h3, h4, e⟩ := hj
  simp only [piece, S36.mk.injEq] at e
  have ea : a = a' := by omega
  have es : (t.extract a b).size = (t.extract a' b').size := by rw [e.2.2.2]
  rw [ByteArray.size_extract, ByteArray.size_extract] at es
  exact hbr j (by omega) (by omega)
theorem whole_ok {t T : ByteArray} {id : Int} {H : List Bool} (ht : t.size ≤ 200) (i0 : 0 ≤ id) (i1 : id ≤ 65535) (hi : Inv t T H) (hall : ∀ j : Nat, j < t.size → H.getD j false = true) :
  Ev (fun k => impl_BoxWhole.f k id (t.size : Int) T H) (t, true) := by
 have hbx := boxOk_ok ht hi i0 i1
 have hl := hi.2.1
 have eT : T = t := ba_ext_bt hi.1 fun j hj => hi.2.2 j (by have := hi.1; omega) (hall j (by have := hi.1; omega))
 have loop : ∀ (d i : Nat), t.size - i ≤ d → i ≤ t.size → Ev (fun k => impl_BoxWhole.l0 k H (H.length : Int) (i : Int) id (t.size : Int) T H) (t, true) := by
  intro d
  induction d with
  | zero =>
   intro i hd hle
   refine Ev.step (f := fun _ => some (T, true)) (fun k => ?_) (by rw [eT]; exact Ev.now _)
   simp only [impl_BoxWhole.l0]; rw [if_neg (by omega)]
  | succ d ih =>
   intro i hd hle
   by_cases c : i < t.size
   ·
    refine Ev.step (fun k => ?_) (ih (i + 1) (by omega) (by omega))
    simp only [impl_BoxWhole.l0]
    have er : rdOf false H (i : Int) = H.getD i false := by unfold rdOf; rw [Int.toNat_natCast]
    rw [if_pos (by omega), if_pos (by omega), if_pos (by omega), er, if_pos (hall i c), w64 (by omega) (by omega)]
    rfl
   ·
    refine Ev.step (f := fun _ => some (T, true)) (fun k => ?_) (by rw [eT]; exact Ev.now _)
    simp only [impl_BoxWhole.l0]; rw [if_neg (by omega)]
 simp only [impl_BoxWhole.f, hbx, Option.bind_some]
 exact ifp trivial (loop t.size 0 (by omega) (by omega))
end Go.Proofs.Ytfddealjbpdehaa.MB
