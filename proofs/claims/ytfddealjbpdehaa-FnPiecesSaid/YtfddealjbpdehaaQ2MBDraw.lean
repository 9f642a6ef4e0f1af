/-
  What the drawing functions of the reference give, told as plain facts on numbers and lists.
-/
import Derived.Test.YtfddealjbpdehaaQ2Bx2
namespace Go.Proofs.Ytfddealjbpdehaa.MB
set_option linter.unusedVariables false
set_option linter.unusedSimpArgs false
open Go.RowKit Go.Proofs.Ytfddealjbpdehaa.B Go.Proofs.YtfddealjbpdehaaW.PrintWords Go.Proofs.YtfddealjbpdehaaW.PrintLast
theorem w64 {n : Int} (h0 : -9223372036854775808 ≤ n) (h1 : n ≤ 9223372036854775807) : wrap64 n = n := by unfold wrap64; omega
theorem and_le (x : Int) (m : Nat) (hm : m < 9223372036854775808) : 0 ≤ Go.bits .and .i64 x (m : Int) ∧ Go.bits .and .i64 x (m : Int) ≤ m := by
 have e : (BitVec.ofInt 64 (m : Int)).toNat = m := by
  rw [BitVec.toNat_ofInt]
  omega
 have h : (BitVec.ofInt 64 x &&& BitVec.ofInt 64 (m : Int)).toNat ≤ m := by
  rw [BitVec.toNat_and, e]
  exact Nat.and_le_right
 show 0 ≤ IntKind.i64.wrap ((BitVec.ofInt 64 x &&& BitVec.ofInt 64 (m : Int)).toNat : Int) ∧ IntKind.i64.wrap ((BitVec.ofInt 64 x &&& BitVec.ofInt 64 (m : Int)).toNat : Int) ≤ m
 rw [IntKind.wrap_i64]
 omega
theorem and255 (x : Int) : 0 ≤ Go.bits .and .i64 x 255 ∧ Go.bits .and .i64 x 255 ≤ 255 := and_le x 255 (by decide)
def Cur (b : List Int) (i : Int) : Prop := 0 ≤ i ∧ i ≤ (b.length : Int) ∧ (b.length : Int) ≤ 1048576
theorem byte_ok {b : List Int} {i : Int} (h : Int) (hc : Cur b i) : ∃ v j h', spec_l01Byte.f b i h = some (v, j, h') ∧ 0 ≤ v ∧ v ≤ 255 ∧ Cur b j := by
 obtain ⟨h0, h1, h2⟩ := hc
 unfold spec_l01Byte.f
 by_cases c : i < (b.length : Int)
 ·
  rw [if_pos c, if_pos h0]
  exact ⟨_, _, _, rfl, (and255 _).1, (and255 _).2, by rw [w64 (by omega) (by omega)]; exact ⟨by omega, by omega, h2⟩⟩
 ·
  rw [if_neg c]
  exact ⟨_, _, _, rfl, (and255 _).1, (and255 _).2, h0, h1, h2⟩
theorem below_ok {b : List Int} {i : Int} (h n : Int) (hc : Cur b i) : ∃ v j h', spec_l01Below.f b i h n = some (v, j, h') ∧ 0 ≤ v ∧ (n ≤ 0 → v = 0) ∧ (0 < n → v < n) ∧ Cur b j := by
 unfold spec_l01Below.f
 by_cases c : n ≤ 0
 ·
  rw [if_pos c]
  exact ⟨_, _, _, rfl, by omega, fun _ => rfl, fun _ => by omega, hc⟩
 rw [if_neg c]
 have hn : n ≠ 0 := by omega
 by_cases c2 : n ≤ 256
 ·
  rw [if_pos c2]
  obtain ⟨v, j, h', e, v0, v1, hj⟩ := byte_ok h hc
  rw [e]
  simp only [Option.bind_some, if_neg hn]
  have t : Int.tmod v n = v % n := Int.tmod_eq_emod_of_nonneg v0
  exact ⟨_, _, _, rfl, by rw [t]; exact Int.emod_nonneg _ hn, fun _ => by omega, fun _ => by rw [t]; exact Int.emod_lt_of_pos _ (by omega), hj⟩
 ·
  rw [if_neg c2]
  obtain ⟨x, j, h', e, x0, x1, hj⟩ := byte_ok h hc
  rw [e]; simp only [Option.bind_some]
  obtain ⟨y, j, h', e, y0, y1, hj⟩ := byte_ok h' hj
  rw [e]; simp only [Option.bind_some]
  obtain ⟨z, j, h', e, z0, z1, hj⟩ := byte_ok h' hj
  rw [e]; simp only [Option.bind_some]
  obtain ⟨u, j, h', e, u0, u1, hj⟩ := byte_ok h' hj
  rw [e]; simp only [Option.bind_some, if_neg hn]
  rw [w64 (n := x * 16777216) (by omega) (by omega), w64 (n := y * 65536) (by omega) (by omega), w64 (n := x * 16777216 + y * 65536) (by omega) (by omega), w64 (n := z * 256) (by omega) (by omega),
   w64 (n := x * 16777216 + y * 65536 + z * 256) (by omega) (by omega), w64 (n := x * 16777216 + y * 65536 + z * 256 + u) (by omega) (by omega)]
  have t : Int.tmod (x * 16777216 + y * 65536 + z * 256 + u) n = (x * 16777216 + y * 65536 + z * 256 + u) % n := Int.tmod_eq_emod_of_nonneg (by omega)
  exact ⟨_, _, _, rfl, by rw [t]; exact Int.emod_nonneg _ hn, fun _ => by omega, fun _ => by rw [t]; exact Int.emod_lt_of_pos _ (by omega), hj⟩
theorem rd_mem {l : List Int} {i : Int} (h0 : 0 ≤ i) (h1 : i < (l.length : Int)) : rd l i ∈ l := by
 unfold rd
 rw [List.getD_eq_getElem?_getD, List.getElem?_eq_getElem (by omega), Option.getD_some]
 exact List.getElem_mem _
theorem pickInt_ok {b : List Int} {i : Int} (h : Int) (l : List Int) (hc : Cur b i) (hl : l ≠ []) : ∃ v j h', spec_l01PickInt.f b i h l = some (v, j, h') ∧ v ∈ l ∧ Cur b j := by
 have hp : 0 < l.length := List.length_pos_iff.mpr hl
 obtain ⟨v, j, h', e, v0, _, v1, hj⟩ := below_ok h (l.length : Int) hc
 have v2 := v1 (by omega)
 unfold spec_l01PickInt.f
 rw [e]
 simp only [Option.bind_some]
 rw [if_pos v0, if_pos v2]
 exact ⟨_, _, _, rfl, rd_mem v0 v2, hj⟩
theorem new_ok (b : List Int) (hb : (b.length : Int) ≤ 1048576) : ∃ h, Ev (fun k => spec_l01New.f k b) (b, 0, h) := by
 have loop : ∀ (d : Nat) (x i : Int), 0 ≤ i → (b.length : Int) - i ≤ d → ∃ h, Ev (fun k => spec_l01New.l0 k b x i) (b, 0, h) := by
  intro d
  induction d with
  | zero =>
   intro x i h0 hd
   exact ⟨x, Ev.step (f := fun _ => some (b, 0, x)) (fun k => by simp only [spec_l01New.l0]; rw [if_neg (by omega)]) (Ev.now _)⟩
  | succ d ih =>
   intro x i h0 hd
   by_cases c : i < (b.length : Int)
   ·
    by_cases c2 : i < 4000
    ·
     obtain ⟨h, hh⟩ := ih (Go.bits .and .i64 (wrap64 ((wrap64 ((wrap64 (x * 131)) + (wrap64 (rd b i)))) + 7)) 1073741823) (i + 1) (by omega) (by omega)
     refine ⟨h, Ev.step (fun k => ?_) hh⟩
     simp only [spec_l01New.l0]; rw [if_pos c, if_pos c2, if_pos h0, w64 (n := i + 1) (by omega) (by omega)]
    ·
     exact ⟨x, Ev.step (f := fun _ => some (b, 0, x)) (fun k => by simp only [spec_l01New.l0]; rw [if_pos c, if_neg c2]) (Ev.now _)⟩
   ·
    exact ⟨x, Ev.step (f := fun _ => some (b, 0, x)) (fun k => by simp only [spec_l01New.l0]; rw [if_neg c]) (Ev.now _)⟩
 exact loop b.length _ 0 (by omega) (by omega)
theorem cur_start {b : List Int} (hb : (b.length : Int) ≤ 1048576) : Cur b 0 := ⟨by omega, by omega, hb⟩
theorem places_ok (b : List Int) (hb : (b.length : Int) ≤ 1048576) : ∃ p : List Int, Ev (fun k => spec_DrawPlaces.f k b) p ∧ p.length = 12 ∧ ∀ x ∈ p, 0 ≤ x ∧ x < 10000 := by
 have loop : ∀ (d : Nat) (l : List Int) (n i h : Int), Cur b i → 0 ≤ n → n + d = 12 → (l.length : Int) = n → (∀ x ∈ l, 0 ≤ x ∧ x < 10000) →
   ∃ p : List Int, Ev (fun k => spec_DrawPlaces.l0 k l n b i h) p ∧ p.length = 12 ∧ ∀ x ∈ p, 0 ≤ x ∧ x < 10000 := by
  intro d
  induction d with
  | zero =>
   intro l n i h hc h0 hd hl hp
   exact ⟨l, Ev.step (f := fun _ => some l) (fun k => by simp only [spec_DrawPlaces.l0]; rw [if_neg (by omega)]) (Ev.now _), by omega, hp⟩
  | succ d ih =>
   intro l n i h hc h0 hd hl hp
   obtain ⟨v, j, h', e, v0, _, v1, hj⟩ := below_ok h 10000 hc
   have v2 := v1 (by omega)
   obtain ⟨p, hp1, hp2⟩ := ih (l ++ [v]) (n + 1) j h' hj (by omega) (by omega) (by rw [List.length_append]; simp; omega) (fun x hx => by
    rcases List.mem_append.mp hx with hx | hx
    ·
     exact hp x hx
    ·
     rw [List.mem_singleton.mp hx]; exact ⟨v0, v2⟩)
   refine ⟨p, Ev.step (fun k => ?_) hp1, hp2⟩
   simp only [spec_DrawPlaces.l0]; rw [if_pos (by omega), e]; simp only [Option.bind_some]; rw [if_pos (by omega), w64 (n := n + 1) (by omega) (by omega)]
 obtain ⟨h, hh⟩ := new_ok b hb
 obtain ⟨v, j, h', e, _, _, hj⟩ := byte_ok h (cur_start hb)
 obtain ⟨p, hp1, hp2⟩ := loop 12 [] 0 j h' hj (by omega) (by omega) rfl (fun x hx => by cases hx)
 refine ⟨p, ?_, hp2⟩
 refine Ev.congr (fun k => rfl) (Ev.bind hh ?_)
 refine Ev.congr (fun k => ?_) hp1
 show (spec_l01Byte.f b 0 h).bind _ = _
 rw [e]; rfl
end Go.Proofs.Ytfddealjbpdehaa.MB
