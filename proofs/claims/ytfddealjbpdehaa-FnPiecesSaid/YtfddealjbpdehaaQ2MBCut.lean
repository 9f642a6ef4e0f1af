/-
  The pieces that a text is cut into: plain facts.
-/
import Derived.Test.YtfddealjbpdehaaQ2Bx3
import Derived.Test.YtfddealjbpdehaaQ2MBText
namespace Go.Proofs.Ytfddealjbpdehaa.MB
set_option linter.unusedVariables false
set_option linter.unusedSimpArgs false
open Go.RowKit Go.Proofs.Ytfddealjbpdehaa.B Go.Proofs.YtfddealjbpdehaaW.PrintWords Go.Proofs.YtfddealjbpdehaaW.PrintLast Go.Proofs.YtfddealjbpdehaaW.PrintMore
theorem ifp {α : Type} {c : Prop} [Decidable c] {f g : Nat → Option α} {r : α} (h : c) (hf : Ev f r) : Ev (fun k => if c then f k else g k) r := Ev.congr (fun _ => if_pos h) hf
theorem ifn {α : Type} {c : Prop} [Decidable c] {f g : Nat → Option α} {r : α} (h : ¬ c) (hg : Ev g r) : Ev (fun k => if c then f k else g k) r := Ev.congr (fun _ => if_neg h) hg
theorem Ev.next {α β : Type} {g : Nat → Option α} {h : Nat → Option β} {F : Nat → β → Option α} {b : β} {r : α} (hh : Ev h b) (e : ∀ k, g (k + 1) = (h k).bind (F k)) (kk : Ev (fun k => F k b) r) : Ev g r :=
 Ev.step e (Ev.bind hh kk)
def piece (t : ByteArray) (id : Int) (a b : Nat) : S36 := ⟨id, (t.size : Int), (a : Int), t.extract a b⟩
def GoodP (t : ByteArray) (id : Int) (p : S36) : Prop := ∃ a b : Nat, a ≤ b ∧ b ≤ t.size ∧ b ≤ a + 40 ∧ p = piece t id a b
def Brings (t : ByteArray) (id : Int) (p : S36) (j : Nat) : Prop := ∃ a b : Nat, a ≤ j ∧ j < b ∧ b ≤ t.size ∧ p = piece t id a b
theorem cut_loop (t : ByteArray) (id : Int) (sz : Nat) (ht : t.size ≤ 200) (h1 : 1 ≤ sz) (h2 : sz ≤ 40) :
  ∀ (d a : Nat) (acc : List S36), t.size + 1 - a ≤ d → a ≤ 240 → acc.length ≤ a → (∀ p ∈ acc, GoodP t id p) → (∀ j, j < a → j < t.size → ∃ p ∈ acc, Brings t id p j) → (0 < a → acc ≠ []) →
   ∃ L, Ev (fun k => impl_CutParts.l0 k id t (sz : Int) acc (a : Int)) (L, true) ∧ L ≠ [] ∧ L.length ≤ 440 ∧ (∀ p ∈ L, GoodP t id p) ∧ (∀ j, j < t.size → ∃ p ∈ L, Brings t id p j) := by
 intro d
 induction d with
 | zero =>
  intro a acc hd ha hl hg hb hn
  refine ⟨acc, Ev.step (f := fun _ => some (acc, true)) (fun k => ?_) (Ev.now _), hn (by omega), by omega, hg, fun j hj => hb j (by omega) hj⟩
  simp only [impl_CutParts.l0]
  rw [if_neg (by omega), if_neg (by omega)]
 | succ d ih =>
  intro a acc hd ha hl hg hb hn
  by_cases c : a < t.size ∨ a = 0
  ·
   have hmin : (mn (wrap64 ((a : Int) + (sz : Int))) (t.size : Int)) = ((min (a + sz) t.size : Nat) : Int) := by
    rw [w64 (by omega) (by omega)]; unfold mn; split <;> omega
   have hab : a ≤ min (a + sz) t.size := by omega
   obtain ⟨L, hL, hrest⟩ := ih (a + sz) (acc ++ [piece t id a (min (a + sz) t.size)]) (by omega) (by omega) (by rw [List.length_append]; simp; omega)
    (fun p hp => by
     rcases List.mem_append.mp hp with hp | hp
     ·
      exact hg p hp
     ·
      rw [List.mem_singleton.mp hp]; exact ⟨a, min (a + sz) t.size, hab, by omega, by omega, rfl⟩)
    (fun j hj hjt => by
     by_cases cj : j < a
     ·
      obtain ⟨p, hp, hb'⟩ := hb j cj hjt
      exact ⟨p, List.mem_append_left _ hp, hb'⟩
     ·
      exact ⟨_, List.mem_append_right _ (List.mem_singleton.mpr rfl), a, min (a + sz) t.size, by omega, by omega, by omega, rfl⟩)
    (fun _ => by simp)
   refine ⟨L, Ev.step (fun k => ?_) hL, hrest⟩
   simp only [impl_CutParts.l0]
   have tail : (if 0 ≤ (a : Int) then (if (a : Int) ≤ (mn (wrap64 ((a : Int) + (sz : Int))) (t.size : Int)) then (if (mn (wrap64 ((a : Int) + (sz : Int))) (t.size : Int)) ≤ (t.size : Int) then (if acc.length < 3518437208883 then (impl_CutParts.l0 k id t (sz : Int) (acc ++ [(⟨id, (t.size : Int), (a : Int), t.extract ((a : Int)).toNat ((mn (wrap64 ((a : Int) + (sz : Int))) (t.size : Int))).toNat⟩ : S36)]) (wrap64 ((a : Int) + (sz : Int)))) else none) else none) else none) else none)
     = impl_CutParts.l0 k id t (sz : Int) (acc ++ [piece t id a (min (a + sz) t.size)]) (((a + sz : Nat)) : Int) := by
    rw [hmin, if_pos (by omega), if_pos (by omega), if_pos (by omega), if_pos (by omega), w64 (by omega) (by omega)]
    rfl
   by_cases c2 : (a : Int) < (t.size : Int)
   ·
    rw [if_pos c2]; exact tail
   ·
    rw [if_neg c2, if_pos (by omega)]; exact tail
  ·
   refine ⟨acc, Ev.step (f := fun _ => some (acc, true)) (fun k => ?_) (Ev.now _), hn (by omega), by omega, hg, fun j hj => hb j (by omega) hj⟩
   simp only [impl_CutParts.l0]
   rw [if_neg (by omega), if_neg (by omega)]
theorem cut_ok (t : ByteArray) (id : Int) (sz : Nat) (ht : t.size ≤ 200) (h1 : 1 ≤ sz) (h2 : sz ≤ 40) (i0 : 0 ≤ id) (i1 : id ≤ 65535) :
  ∃ L, Ev (fun k => impl_CutParts.f k id t (sz : Int)) (L, true) ∧ L ≠ [] ∧ L.length ≤ 440 ∧ (∀ p ∈ L, GoodP t id p) ∧ (∀ j, j < t.size → ∃ p ∈ L, Brings t id p j) := by
 obtain ⟨L, hL, hrest⟩ := cut_loop t id sz ht h1 h2 (t.size + 1) 0 [] (by omega) (by omega) (by simp) (fun p hp => by cases hp) (fun j hj => by omega) (fun h => by omega)
 refine ⟨L, ?_, hrest⟩
 simp only [impl_CutParts.f, within_f, Option.bind_some]
 refine ifp (decide_eq_true ⟨i0, i1⟩) (ifp (decide_eq_true ⟨by omega, by omega⟩) ?_)
 refine Ev.step (fun k => ?_) hL
 simp only [impl_CutParts.j0]
 rw [if_neg (by simp; omega)]
 rfl
theorem pieceOk_ok {t : ByteArray} {id : Int} {p : S36} (ht : t.size ≤ 200) (i0 : 0 ≤ id) (i1 : id ≤ 65535) (h : GoodP t id p) : impl_PieceOk.f p.f0 p.f1 p.f2 p.f3 = some true := by
 obtain ⟨a, b, hab, hb, _, rfl⟩ := h
 have hs : (t.extract a b).size = b - a := by rw [ByteArray.size_extract]; omega
 simp only [impl_PieceOk.f, within_f, Option.bind_some, piece]
 rw [if_pos (decide_eq_true ⟨i0, i1⟩), if_pos (decide_eq_true ⟨by omega, by omega⟩), hs, w64 (by omega) (by omega), decide_eq_true ⟨by omega, by omega⟩]
end Go.Proofs.Ytfddealjbpdehaa.MB
