/-
  The reference's decimal text of a whole number is the library's.
-/
import Derived.Test.YtfddealjbpdehaaDoorQ1Ax1
namespace Go.Proofs.YtfddealjbpdehaaDoor.M
set_option linter.unusedVariables false
set_option linter.unusedSimpArgs false
open Go.RowKit Go.Proofs.YtfddealjbpdehaaDoor.A Go.Proofs.YtfddealjbpdehaaDoorW.PrintWords Go.Proofs.YtfddealjbpdehaaDoorW.PrintLast Go.Proofs.YtfddealjbpdehaaDoorW.PrintMore
theorem w64 {n : Int} (h0 : -9223372036854775808 ≤ n) (h1 : n ≤ 9223372036854775807) : wrap64 n = n := by unfold wrap64; omega
def bs (l : List UInt8) : ByteArray := ⟨l.toArray⟩
theorem bs_append (a b : List UInt8) : bs a ++ bs b = bs (a ++ b) := by
 have : (bs a ++ bs b).data = (bs (a ++ b)).data := by simp [bs]
 cases h1 : bs a ++ bs b; cases h2 : bs (a ++ b)
 rw [h1, h2] at this; exact congrArg ByteArray.mk this
theorem bs_size (a : List UInt8) : (bs a).size = a.length := by simp [bs, ByteArray.size]
theorem bs_ofNums (xs : List Int) : strOfNums xs = bs (xs.map fun n => UInt8.ofNat n.toNat) := rfl
theorem figure_ok {d : Nat} (h : d < 10) : spec_l01Figure.f (d : Int) = some ((48 + d : Nat) : Int) := by
 unfold spec_l01Figure.f
 rw [if_pos (by omega), w64 (by omega) (by omega)]
 congr 1; omega
theorem dec_big {u : Nat} (h : ¬ u < 10) : Lib.decDigits u = Lib.decDigits (u / 10) ++ [UInt8.ofNat (48 + u % 10)] := by rw [Lib.decDigits, dif_neg h]
theorem dec_small {u : Nat} (h : u < 10) : Lib.decDigits u = [UInt8.ofNat (48 + u)] := by rw [Lib.decDigits, dif_pos h]
theorem dec_len : ∀ (d u : Nat), u < 10 ^ (d + 1) → (Lib.decDigits u).length ≤ d + 1 := by
 intro d
 induction d with
 | zero => intro u h; rw [dec_small (by omega)]; simp
 | succ d ih =>
  intro u h
  by_cases c : u < 10
  ·
   rw [dec_small c]; simp
  ·
   have := ih (u / 10) (by rw [Nat.div_lt_iff_lt_mul (by omega)]; rw [Nat.pow_succ] at h; exact h)
   rw [dec_big c, List.length_append]; simp; omega
def figs (u : Nat) : List UInt8 := if u = 0 then [] else Lib.decDigits u
theorem figs_step {u : Nat} (h : u ≠ 0) : figs u = figs (u / 10) ++ [UInt8.ofNat (48 + u % 10)] := by
 unfold figs
 rw [if_neg h]
 by_cases c : u < 10
 ·
  have e : u / 10 = 0 := by omega
  have e2 : u % 10 = u := by omega
  rw [dec_small c, e, e2]; rfl
 ·
  rw [if_neg (by omega), dec_big c]
def sgn (neg : Bool) (l : List UInt8) : List UInt8 := if neg = true then 45 :: l else l
theorem decimal_loop (neg : Bool) : ∀ (d : Nat) (x : Int) (s : List UInt8), x.natAbs < 10 ^ d → -9223372036854775808 ≤ x → x ≤ 9223372036854775807 → s.length + d ≤ 40 →
  Ev (fun k => spec_Decimal.l0 k x neg (bs s)) (bs (sgn neg (figs x.natAbs ++ s))) := by
 intro d
 have zero : ∀ (s : List UInt8), s.length ≤ 40 → Ev (fun k => spec_Decimal.l0 k 0 neg (bs s)) (bs (sgn neg (figs (0 : Int).natAbs ++ s))) := by
  intro s hs
  refine Ev.step (f := fun _ => some (bs (sgn neg s))) (fun k => ?_) (Ev.now _)
  simp only [spec_Decimal.l0]
  rw [if_pos trivial]
  cases neg with
  | false => rfl
  | true =>
   rw [if_pos rfl, if_pos (by rw [bs_size]; omega)]
   exact congrArg some (bs_append [45] s)
 induction d with
 | zero =>
  intro x s hx h0 h1 hs
  have e : x = 0 := by omega
  subst e
  exact zero s (by omega)
 | succ d ih =>
  intro x s hx h0 h1 hs
  by_cases z : x = 0
  ·
   subst z
   exact zero s (by omega)
  ·
   have hdiv : (Int.tdiv x 10).natAbs = x.natAbs / 10 := by rw [Int.natAbs_tdiv]; rfl
   have hmod : (Int.tmod x 10).natAbs = x.natAbs % 10 := by rw [Int.natAbs_tmod]; rfl
   have hlt : (Int.tdiv x 10).natAbs < 10 ^ d := by rw [hdiv, Nat.div_lt_iff_lt_mul (by omega)]; rw [Nat.pow_succ] at hx; exact hx
   have this := ih (Int.tdiv x 10) (UInt8.ofNat (48 + x.natAbs % 10) :: s) hlt (by omega) (by omega) (by rw [List.length_cons]; omega)
   rw [hdiv] at this
   have e : figs (x.natAbs / 10) ++ UInt8.ofNat (48 + x.natAbs % 10) :: s = figs x.natAbs ++ s := by rw [figs_step (u := x.natAbs) (by omega)]; simp
   rw [e] at this
   refine Ev.step (fun k => ?_) this
   have one : strOfNums [((48 + x.natAbs % 10 : Nat) : Int)] ++ bs s = bs (UInt8.ofNat (48 + x.natAbs % 10) :: s) := by rw [bs_ofNums, bs_append]; rfl
   have sz : (strOfNums [((48 + x.natAbs % 10 : Nat) : Int)]).size + (bs s).size ≤ 9223372036854775807 := by rw [bs_ofNums, bs_size, bs_size]; simp; omega
   simp only [spec_Decimal.l0]
   rw [if_neg z]
   by_cases c : Int.tmod x 10 < 0
   ·
    rw [if_pos c, w64 (n := -Int.tmod x 10) (by omega) (by omega)]
    have e2 : -Int.tmod x 10 = ((x.natAbs % 10 : Nat) : Int) := by omega
    rw [e2, figure_ok (by omega)]
    simp only [Option.bind_some]
    rw [if_pos sz, one, w64 (n := Int.tdiv x 10) (by omega) (by omega)]
   ·
    rw [if_neg c]
    have e2 : Int.tmod x 10 = ((x.natAbs % 10 : Nat) : Int) := by omega
    rw [e2, figure_ok (by omega)]
    simp only [Option.bind_some]
    rw [if_pos sz, one, w64 (n := Int.tdiv x 10) (by omega) (by omega)]
theorem itoa_nonneg {n : Int} (h : 0 ≤ n) : Lib.itoa n = Lib.decDigits n.toNat := by unfold Lib.itoa; rw [if_neg (by omega)]
theorem specDecimal_ok {n : Int} (h0 : -9223372036854775808 ≤ n) (h1 : n ≤ 9223372036854775807) : Ev (fun k => spec_Decimal.f k n) (bs (Lib.itoa n)) := by
 by_cases z : n = 0
 ·
  subst z
  refine Ev.congr (fun k => ?_) (Ev.now _)
  unfold spec_Decimal.f
  rw [if_pos rfl, itoa_nonneg (by omega)]
  rw [show (0 : Int).toNat = 0 from rfl, dec_small (by omega)]; rfl
 ·
  have := decimal_loop (decide (n < 0)) 20 n [] (by omega) h0 h1 (by simp)
  have e : sgn (decide (n < 0)) (figs n.natAbs ++ []) = Lib.itoa n := by
   rw [List.append_nil]
   unfold figs
   rw [if_neg (by omega)]
   by_cases c : n < 0
   ·
    rw [decide_eq_true c]; unfold sgn Lib.itoa; rw [if_pos rfl, if_pos c]
   ·
    rw [decide_eq_false c]; unfold sgn Lib.itoa; rw [if_neg (by decide), if_neg c]; congr 1; omega
  rw [e] at this
  refine Ev.congr (fun k => ?_) this
  unfold spec_Decimal.f
  rw [if_neg z]; rfl
def tol (n : Int) : ByteArray := bs (Lib.decDigits n.toNat)
theorem tol_size {n : Int} (h1 : n ≤ 9223372036854775807) : (tol n).size ≤ 20 := by
 unfold tol
 rw [bs_size]
 exact dec_len 19 _ (by omega)
theorem specNum_ok {n : Int} (h0 : -9223372036854775808 ≤ n) (h1 : n ≤ 9223372036854775807) : Ev (fun k => spec_l32Num.f k n) (tol n) := by
 unfold tol
 by_cases c : n < 0
 ·
  refine Ev.congr (fun k => ?_) (Ev.now _)
  unfold spec_l32Num.f
  rw [if_pos c, show n.toNat = 0 from by omega, dec_small (by omega)]; rfl
 ·
  have := specDecimal_ok h0 h1
  rw [itoa_nonneg (by omega)] at this
  exact Ev.congr (fun k => by unfold spec_l32Num.f; rw [if_neg c]) (Ev.bind this (Ev.now _))
theorem decimal_ok {n : Int} (h0 : -9223372036854775808 ≤ n) (h1 : n ≤ 9223372036854775807) : impl_Decimal.f n = some (bs (Lib.itoa n)) := by
 unfold impl_Decimal.f strconv_Itoa.f
 rw [if_pos ⟨h0, h1⟩]; rfl
theorem told_ok {n : Int} (h0 : -9223372036854775808 ≤ n) (h1 : n ≤ 9223372036854775807) : impl_told.f n = some (tol n) := by
 unfold impl_told.f tol
 have e : mx n 0 = (n.toNat : Int) := by unfold mx; split <;> omega
 rw [e, decimal_ok (by omega) (by omega), itoa_nonneg (by omega), Int.toNat_natCast]; rfl
end Go.Proofs.YtfddealjbpdehaaDoor.M
