/-
  The program's VarText and ReadVar over numbers in 0 .. 1000000000, told as plain facts on lists of bytes.
-/
import Derived.Test.YtfddealjbpdehaaQ2Bx5
import Derived.Test.YtfddealjbpdehaaQ2MBDraw
namespace Go.Proofs.Ytfddealjbpdehaa.MB
set_option linter.unusedVariables false
set_option linter.unusedSimpArgs false
open Go.RowKit Go.Proofs.Ytfddealjbpdehaa.B Go.Proofs.YtfddealjbpdehaaW.PrintWords Go.Proofs.YtfddealjbpdehaaW.PrintLast
theorem rd_nat {l : List Int} {j : Nat} (h : j < l.length) : rd l (j : Int) = l[j] := by
 unfold rd
 rw [List.getD_eq_getElem?_getD, Int.toNat_natCast, List.getElem?_eq_getElem h, Option.getD_some]
def varI (n : Nat) : List Int := if 127 < n then ((n % 128 + 128 : Nat) : Int) :: varI (n / 128) else [(n : Int)]
termination_by n
decreasing_by omega
theorem varI_big {n : Nat} (h : 127 < n) : varI n = ((n % 128 + 128 : Nat) : Int) :: varI (n / 128) := by rw [varI, if_pos h]
theorem varI_small {n : Nat} (h : ¬ 127 < n) : varI n = [(n : Int)] := by rw [varI, if_neg h]
theorem varI_byte (n : Nat) : ∀ x ∈ varI n, 0 ≤ x ∧ x < 256 := by
 induction n using Nat.strongRecOn with
 | _ n ih =>
  intro x hx
  by_cases h : 127 < n
  ·
   rw [varI_big h] at hx
   rcases List.mem_cons.mp hx with rfl | hx
   ·
    omega
   ·
    exact ih (n / 128) (by omega) x hx
  ·
   rw [varI_small h] at hx
   rw [List.mem_singleton.mp hx]; omega
theorem varI_len : ∀ (d n : Nat), n < 128 ^ (d + 1) → (varI n).length ≤ d + 1 := by
 intro d
 induction d with
 | zero => intro n h; rw [varI_small (by omega)]; simp
 | succ d ih =>
  intro n h
  by_cases c : 127 < n
  ·
   rw [varI_big c, List.length_cons]
   have : n / 128 < 128 ^ (d + 1) := by rw [Nat.div_lt_iff_lt_mul (by omega)]; rw [Nat.pow_succ] at h; exact h
   have := ih _ this
   omega
  ·
   rw [varI_small c]; simp
theorem varI_pos (n : Nat) : 0 < (varI n).length := by
 by_cases c : 127 < n
 ·
  rw [varI_big c]; simp
 ·
  rw [varI_small c]; simp
theorem within_f (a b c : Int) : impl_within.f a b c = some (decide (b ≤ a ∧ a ≤ c)) := by
 unfold impl_within.f
 by_cases h : a ≥ b
 ·
  rw [if_pos h]; congr 1; exact decide_eq_decide.mpr ⟨fun x => ⟨h, x⟩, fun x => x.2⟩
 ·
  rw [if_neg h]; congr 1; exact (decide_eq_false (fun x => h x.1)).symm
theorem varText_loop : ∀ (m : Nat) (acc : List Int), m ≤ 1000000000 → acc.length + m ≤ 2000000000 →
  Ev (fun k => impl_VarText.l0 k (m : Int) acc) (strOfNums (acc ++ varI m), true) := by
 intro m
 induction m using Nat.strongRecOn with
 | _ m ih =>
  intro acc h1 h2
  by_cases c : 127 < m
  ·
   have := ih (m / 128) (by omega) (acc ++ [((m % 128 + 128 : Nat) : Int)]) (by omega) (by rw [List.length_append]; simp; omega)
   rw [varI_big c]
   rw [List.append_assoc, List.singleton_append] at this
   refine Ev.step (fun k => ?_) this
   simp only [impl_VarText.l0]
   rw [if_pos (by omega), if_pos (by omega)]
   have e1 : Int.tdiv (m : Int) 128 = ((m / 128 : Nat) : Int) := by rw [Int.tdiv_eq_ediv_of_nonneg (by omega)]; rfl
   have e2 : Int.tmod (m : Int) 128 = ((m % 128 : Nat) : Int) := by rw [Int.tmod_eq_emod_of_nonneg (by omega)]; rfl
   rw [e1, e2, w64 (n := ((m / 128 : Nat) : Int)) (by omega) (by omega), w64 (by omega) (by omega)]
   have e3 : (((m % 128 : Nat) : Int) + 128) % 256 = ((m % 128 + 128 : Nat) : Int) := by omega
   rw [e3]
  ·
   rw [varI_small c]
   refine Ev.step (f := fun _ => some (strOfNums (acc ++ [(m : Int)]), true)) (fun k => ?_) (Ev.now _)
   simp only [impl_VarText.l0]
   rw [if_neg (by omega), if_pos (by omega)]
   have e : (m : Int) % 256 = (m : Int) := by omega
   rw [e]
theorem varText_ok {n : Int} (h0 : 0 ≤ n) (h1 : n ≤ 1000000000) : Ev (fun k => impl_VarText.f k n) (strOfNums (varI n.toNat), true) := by
 have e : n = ((n.toNat : Nat) : Int) := by omega
 have := varText_loop n.toNat [] (by omega) (by simp; omega)
 rw [List.nil_append, ← e] at this
 refine Ev.congr (fun k => ?_) this
 unfold impl_VarText.f
 rw [within_f, decide_eq_true ⟨h0, h1⟩]
 rfl
theorem varText_no {n : Int} (h : ¬ (0 ≤ n ∧ n ≤ 1000000000)) : Ev (fun k => impl_VarText.f k n) (⟨#[]⟩, false) := by
 refine Ev.congr (fun k => ?_) (Ev.now _)
 unfold impl_VarText.f
 rw [within_f, decide_eq_false h]
 rfl
def Has (t : ByteArray) (p : Nat) (l : List Int) : Prop := p + l.length ≤ t.size ∧ ∀ j, j < l.length → bt t ((p + j : Nat) : Int) = rd l (j : Int)
theorem Has.left {t : ByteArray} {p : Nat} {a b : List Int} (h : Has t p (a ++ b)) : Has t p a := by
 obtain ⟨h1, h2⟩ := h
 rw [List.length_append] at h1
 refine ⟨by omega, fun j hj => ?_⟩
 rw [h2 j (by rw [List.length_append]; omega), rd_nat (by rw [List.length_append]; omega), rd_nat hj, List.getElem_append_left hj]
theorem Has.right {t : ByteArray} {p : Nat} {a b : List Int} (h : Has t p (a ++ b)) : Has t (p + a.length) b := by
 obtain ⟨h1, h2⟩ := h
 rw [List.length_append] at h1
 refine ⟨by omega, fun j hj => ?_⟩
 have := h2 (a.length + j) (by rw [List.length_append]; omega)
 rw [← Nat.add_assoc] at this
 rw [this, rd_nat (by rw [List.length_append]; omega), rd_nat hj, List.getElem_append_right (by omega)]
 congr 1; omega
theorem Has.tail {t : ByteArray} {p : Nat} {x : Int} {b : List Int} (h : Has t p (x :: b)) : Has t (p + 1) b := Has.right (a := [x]) h
theorem Has.head {t : ByteArray} {p : Nat} {x : Int} {b : List Int} (h : Has t p (x :: b)) : bt t (p : Int) = x := by
 have := h.2 0 (by simp)
 rw [Nat.add_zero] at this
 rw [this]; rfl
theorem has_strOfNums (l : List Int) (hl : ∀ x ∈ l, 0 ≤ x ∧ x < 256) : Has (strOfNums l) 0 l := by
 refine ⟨by rw [strOfNums_size]; omega, fun j hj => ?_⟩
 rw [Nat.zero_add, rd_nat hj]
 unfold bt
 have h : ((j : Int).toNat) < (strOfNums l).size := by rw [strOfNums_size]; omega
 rw [dif_pos h]
 have e : ((strOfNums l)[(j : Int).toNat]'h) = UInt8.ofNat (l[j]).toNat := by
  show (strOfNums l).data[(j : Int).toNat] = _
  simp [strOfNums]
 rw [e]
 have := hl _ (List.getElem_mem hj)
 simp
 omega
theorem readVar_loop (t : ByteArray) (a : Nat) (ht : (t.size : Int) ≤ 140737488351232) : ∀ (m i : Nat) (acc : Nat), Has t (a + i) (varI m) → i + (varI m).length ≤ 5 → acc + m * 128 ^ i ≤ 1000000000 → (0 < i → 0 < m) → acc < 128 ^ i →
  Ev (fun k => impl_ReadVar.l0 k t (a : Int) (acc : Int) (i : Int)) (((acc + m * 128 ^ i : Nat) : Int), ((a + i + (varI m).length : Nat) : Int), true) := by
 intro m
 induction m using Nat.strongRecOn with
 | _ m ih =>
  intro i acc hh hi hb hp ha
  have hlen := varI_pos m
  have hsz : a + i < t.size := by have := hh.1; omega
  have hi5 : i < 5 := by omega
  have hpow : (2 : Int) ^ (min (7 * (i : Int)).toNat (IntKind.bits .i64)) = ((128 ^ i : Nat) : Int) := by
   have e : min (7 * (i : Int)).toNat (IntKind.bits .i64) = 7 * i := by have : IntKind.bits .i64 = 64 := rfl; omega
   rw [e, Int.pow_mul]; simp
  have hle : 128 ^ i ≤ 128 ^ 4 := Nat.pow_le_pow_right (by decide) (by omega)
  have h128 : (128 : Nat) ^ 4 = 268435456 := by decide
  have shl_e : ∀ c : Nat, c < 128 → shl .i64 (Int.tmod (c : Int) 128) (7 * (i : Int)) = ((c * 128 ^ i : Nat) : Int) := by
   intro c hc
   unfold shl
   rw [hpow, Int.tmod_eq_emod_of_nonneg (by omega)]
   have : ((c : Int) % 128) = (c : Int) := by omega
   rw [this]
   have hm : c * 128 ^ i ≤ 127 * 268435456 := Nat.mul_le_mul (by omega) (by omega)
   have e : (c : Int) * ((128 ^ i : Nat) : Int) = ((c * 128 ^ i : Nat) : Int) := by rw [Int.natCast_mul]
   rw [e]
   rw [IntKind.wrap_i64]; omega
  have mulp : ∀ c : Nat, c < 128 → c * 128 ^ i ≤ 127 * 268435456 := fun c hc => Nat.mul_le_mul (by omega) (by omega)
  by_cases c : 127 < m
  ·
   rw [varI_big c] at hh hi ⊢
   rw [List.length_cons] at hi
   have e128 : acc + m * 128 ^ i = (acc + m % 128 * 128 ^ i) + m / 128 * 128 ^ (i + 1) := by
    have h1 : m / 128 * 128 ^ (i + 1) = (m / 128 * 128) * 128 ^ i := by rw [Nat.pow_succ, Nat.mul_comm (128 ^ i) 128, Nat.mul_assoc]
    rw [h1, Nat.add_assoc, ← Nat.add_mul]
    congr 2; omega
   have hacc : acc + m % 128 * 128 ^ i < 128 ^ (i + 1) := by
    have : m % 128 * 128 ^ i ≤ 127 * 128 ^ i := Nat.mul_le_mul_right _ (by omega)
    rw [Nat.pow_succ]; omega
   have := ih (m / 128) (by omega) (i + 1) (acc + m % 128 * 128 ^ i) (by have := hh.tail; rw [Nat.add_assoc] at this; exact this) (by omega) (by rw [← e128]; exact hb) (by omega) hacc
   rw [← e128] at this
   have e5 : a + (i + 1) + (varI (m / 128)).length = a + i + (varI (m / 128)).length + 1 := by omega
   rw [e5] at this
   rw [List.length_cons, ← Nat.add_assoc]
   refine Ev.step (fun k => ?_) (Ev.step (g := fun k => impl_ReadVar.j1 k t (a : Int) (acc : Int) (i : Int) true) (fun k => ?_) this)
   ·
    simp only [impl_ReadVar.l0]
    rw [if_pos (by omega), w64 (by omega) (by omega), decide_eq_true (by omega)]
   ·
    simp only [impl_ReadVar.j1]
    rw [if_pos trivial, w64 (n := (a : Int) + i) (by omega) (by omega), if_pos (by omega), if_pos (by omega), w64 (n := 7 * (i : Int)) (by omega) (by omega), if_pos (by omega)]
    have hbt : bt t ((a : Int) + (i : Int)) = ((m % 128 + 128 : Nat) : Int) := by have := hh.head; rw [← this]; congr 1
    rw [hbt, w64 (n := ((m % 128 + 128 : Nat) : Int)) (by omega) (by omega), if_pos (by omega)]
    have e6 : Int.tmod ((m % 128 + 128 : Nat) : Int) 128 = Int.tmod ((m % 128 : Nat) : Int) 128 := by
     rw [Int.tmod_eq_emod_of_nonneg (by omega), Int.tmod_eq_emod_of_nonneg (by omega)]; omega
    rw [e6, shl_e _ (by omega)]
    have := mulp (m % 128) (by omega)
    rw [w64 (n := (acc : Int) + _) (by omega) (by omega), w64 (n := (i : Int) + 1) (by omega) (by omega)]
    congr 1
  ·
   rw [varI_small c] at hh hi ⊢
   have hbt : bt t ((a : Int) + (i : Int)) = (m : Int) := by have := hh.head; rw [← this]; congr 1
   have hm := mulp m (by omega)
   refine Ev.step (f := fun k => impl_ReadVar.j1 k t (a : Int) (acc : Int) (i : Int) true) (fun k => ?_) (Ev.step (f := fun _ => some (((acc + m * 128 ^ i : Nat) : Int), ((a + i + 1 : Nat) : Int), true)) (fun k => ?_) (Ev.now _))
   ·
    simp only [impl_ReadVar.l0]
    rw [if_pos (by omega), w64 (by omega) (by omega), decide_eq_true (by omega)]
   ·
    simp only [impl_ReadVar.j1]
    rw [if_pos trivial, w64 (n := (a : Int) + i) (by omega) (by omega), if_pos (by omega), if_pos (by omega), w64 (n := 7 * (i : Int)) (by omega) (by omega), if_pos (by omega)]
    rw [hbt, w64 (n := (m : Int)) (by omega) (by omega), if_neg (by omega), shl_e _ (by omega), w64 (n := (acc : Int) + _) (by omega) (by omega), w64 (n := (a : Int) + i + 1) (by omega) (by omega)]
    have e1 : ((acc : Int) + ((m * 128 ^ i : Nat) : Int)) = ((acc + m * 128 ^ i : Nat) : Int) := by omega
    have e2 : ((a : Int) + (i : Int) + 1) = ((a + i + 1 : Nat) : Int) := by omega
    rw [e1, e2]
    by_cases c2 : 0 < i
    ·
     rw [if_pos (by omega), if_neg (by have := hp c2; omega), if_neg (by omega)]
    ·
     rw [if_neg (by omega), if_neg (by omega)]
theorem readVar_ok {t : ByteArray} {a m : Nat} (ht : (t.size : Int) ≤ 140737488351232) (hm : m ≤ 1000000000) (hh : Has t a (varI m)) :
  Ev (fun k => impl_ReadVar.f k t (a : Int)) ((m : Int), ((a + (varI m).length : Nat) : Int), true) := by
 have hl := varI_len 4 m (by omega)
 have := readVar_loop t a ht m 0 0 hh (by omega) (by omega) (by omega) (by omega)
 simp only [Nat.pow_zero, Nat.mul_one, Nat.zero_add, Nat.add_zero] at this
 refine Ev.congr (fun k => ?_) this
 unfold impl_ReadVar.f
 rw [within_f, decide_eq_true ⟨by omega, by have := hh.1; omega⟩]
 rfl
end Go.Proofs.Ytfddealjbpdehaa.MB
