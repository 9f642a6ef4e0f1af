/-
  What is shown of a client is what the reference shows: over numbers and texts alone.
-/
import Derived.Test.YtfddealjbpdehaaDoorQ1Ax2
import Derived.Test.YtfddealjbpdehaaDoorQ1MDec
namespace Go.Proofs.YtfddealjbpdehaaDoor.M
set_option linter.unusedVariables false
set_option linter.unusedSimpArgs false
open Go.RowKit Go.Proofs.YtfddealjbpdehaaDoor.A Go.Proofs.YtfddealjbpdehaaDoorW.PrintWords Go.Proofs.YtfddealjbpdehaaDoorW.PrintLast Go.Proofs.YtfddealjbpdehaaDoorW.PrintMore
theorem within_f (a b c : Int) : impl_within.f a b c = some (decide (b ≤ a ∧ a ≤ c)) := by
 unfold impl_within.f
 by_cases h : a ≥ b
 ·
  rw [if_pos h]; congr 1; exact decide_eq_decide.mpr ⟨fun x => ⟨h, x⟩, fun x => x.2⟩
 ·
  rw [if_neg h]; congr 1; exact (decide_eq_false (fun x => h x.1)).symm
theorem specIn_f (a b c : Int) : spec_l01In.f a b c = some (decide (b ≤ a ∧ a ≤ c)) := by
 unfold spec_l01In.f
 by_cases h : a ≥ b
 ·
  rw [if_pos h]; congr 1; exact decide_eq_decide.mpr ⟨fun x => ⟨h, x⟩, fun x => x.2⟩
 ·
  rw [if_neg h]; congr 1; exact (decide_eq_false (fun x => h x.1)).symm
def states : List ByteArray := [(⟨#[105, 100, 108, 101]⟩ : ByteArray), (⟨#[104, 101, 108, 108, 111]⟩ : ByteArray), (⟨#[119, 104, 111]⟩ : ByteArray), (⟨#[111, 112, 101, 110]⟩ : ByteArray), (⟨#[102, 97, 105, 108, 101, 100]⟩ : ByteArray)]
def stateText (n : Int) : ByteArray := if 0 ≤ n ∧ n ≤ 4 then rdOf ByteArray.empty states n else ⟨#[63]⟩
def clientText (name state lease : Int) : ByteArray :=
 (((((((⟨#[99, 108, 105, 101, 110, 116, 32]⟩ : ByteArray) ++ tol name) ++ (⟨#[32]⟩ : ByteArray)) ++ stateText state) ++ (⟨#[32]⟩ : ByteArray)) ++ tol lease) ++ (⟨#[10]⟩ : ByteArray))
theorem sz (l : Array UInt8) : (⟨l⟩ : ByteArray).size = l.size := rfl
theorem state_size (n : Int) : (stateText n).size ≤ 6 := by
 unfold stateText
 by_cases h : 0 ≤ n ∧ n ≤ 4
 ·
  rw [if_pos h]
  have : n = 0 ∨ n = 1 ∨ n = 2 ∨ n = 3 ∨ n = 4 := by omega
  rcases this with rfl | rfl | rfl | rfl | rfl <;> decide
 ·
  rw [if_neg h]; decide
theorem ifp {α : Type} {c : Prop} [Decidable c] {f g : Nat → Option α} {r : α} (h : c) (hf : Ev f r) : Ev (fun k => if c then f k else g k) r := Ev.congr (fun _ => if_pos h) hf
theorem ifn {α : Type} {c : Prop} [Decidable c] {f g : Nat → Option α} {r : α} (h : ¬ c) (hg : Ev g r) : Ev (fun k => if c then f k else g k) r := Ev.congr (fun _ => if_neg h) hg
section
variable {a0 a1 a2 a3 a4 a6 a7 a8 a9 a10 a11 a12 a13 a14 a15 a16 a17 a18 a19 a20 a21 a22 : Int} {a5 : Bool}
theorem specClient_ok (h0 : -9223372036854775808 ≤ a0 ∧ a0 ≤ 9223372036854775807) (h10 : -9223372036854775808 ≤ a10 ∧ a10 ≤ 9223372036854775807) :
  Ev (fun k => spec_ShowClient.f k a0 a1 a2 a3 a4 a5 a6 a7 a8 a9 a10 a11 a12 a13 a14 a15 a16 a17 a18 a19 a20 a21 a22) (clientText a0 a3 a10) := by
 have s0 := tol_size h0.2
 have s1 := tol_size h10.2
 have s2 := state_size a3
 simp only [spec_ShowClient.f, specIn_f, Option.bind_some]
 by_cases c : 0 ≤ a3 ∧ a3 ≤ 4
 ·
  have e : stateText a3 = rdOf ByteArray.empty states a3 := if_pos c
  unfold clientText
  rw [e] at s2 ⊢
  unfold states at s2 ⊢
  refine ifp (decide_eq_true c) (ifp c.1 (ifp (by simp only [List.length_cons, List.length_nil]; omega) (Ev.bind (specNum_ok h0.1 h0.2) ?_)))
  refine ifp (by omega) (ifp (by omega) (ifp (by omega) (ifp (by omega) (Ev.bind (specNum_ok h10.1 h10.2) (ifp (by omega) (ifp (by omega) (Ev.now _)))))))
 ·
  have e : stateText a3 = ⟨#[63]⟩ := if_neg c
  unfold clientText
  rw [e]
  refine ifn (by simpa using c) (Ev.bind (specNum_ok h0.1 h0.2) ?_)
  refine ifp (by omega) (ifp (by omega) (ifp (by omega) (ifp (by omega) (Ev.bind (specNum_ok h10.1 h10.2) (ifp (by omega) (ifp (by omega) (Ev.now _)))))))
theorem client_ok (h0 : -9223372036854775808 ≤ a0 ∧ a0 ≤ 9223372036854775807) (h10 : -9223372036854775808 ≤ a10 ∧ a10 ≤ 9223372036854775807) :
  impl_ShowClient.f a0 a1 a2 a3 a4 a5 a6 a7 a8 a9 a10 a11 a12 a13 a14 a15 a16 a17 a18 a19 a20 a21 a22 = some (clientText a0 a3 a10) := by
 have s0 := tol_size h0.2
 have s1 := tol_size h10.2
 have s2 := state_size a3
 unfold impl_ShowClient.f clientText
 rw [within_f, told_ok h0.1 h0.2, told_ok h10.1 h10.2]
 simp only [Option.bind_some]
 by_cases c : 0 ≤ a3 ∧ a3 ≤ 4
 ·
  have e : stateText a3 = rdOf ByteArray.empty states a3 := if_pos c
  rw [e] at s2 ⊢
  unfold states at s2 ⊢
  rw [if_pos (decide_eq_true c), if_pos c.1, if_pos (by simp only [List.length_cons, List.length_nil]; omega), if_pos (by omega), if_pos (by omega), if_pos (by omega), if_pos (by omega),
   if_pos (by omega), if_pos (by omega)]
 ·
  have e : stateText a3 = ⟨#[63]⟩ := if_neg c
  rw [e]
  rw [if_neg (by simpa using c), if_pos (by omega), if_pos (by omega), if_pos (by omega), if_pos (by omega),
   if_pos (by omega), if_pos (by omega)]
end
end Go.Proofs.YtfddealjbpdehaaDoor.M
