/-
  A datum of structs in structs, read out of its cells: each cell is a leaf of the type.
-/
import Derived.Lib.SmallJoins
import Derived.ChangeSame
namespace Go.Proofs.YtfddealjbpdehaaDoor.Leaf
open Go.Joins Go.ChangeShapes Go.WideShapes Go.RowKit
set_option linter.unusedVariables false
section
variable {H : Type} {enc : TypeId × Value → H} {P : Program} {w : World} {base : Nat} {spare : Nat → Bool} {held : Bool}
def leaves (P : Program) : Nat → TypeId → List TypeId
 | 0, t => [t]
 | m + 1, t => match P.underlying t with
  | some (.struct fs) => fs.toList.flatMap fun f => leaves P m f.type
  | _ => [t]
def inRow (P : Program) : Nat → List Field → Bool
 | _, [] => true
 | o, f :: r => f.offset == o && inRow P (o + P.cellsOf f.type) r
def rowSize (P : Program) (l : List Field) : Nat := (l.map fun f => P.cellsOf f.type).sum
def flatOk (P : Program) : Nat → TypeId → Bool
 | 0, t => P.cellsOf t == 1
 | m + 1, t => match P.underlying t with
  | some (.struct fs) => inRow P 0 fs.toList && P.cellsOf t == rowSize P fs.toList && fs.toList.all fun f => flatOk P m f.type
  | _ => P.cellsOf t == 1
def Reads (enc : TypeId × Value → H) (P : Program) (w : World) (base : Nat) (spare : Nat → Bool) (held : Bool) (t : TypeId) (v : Value) : Prop :=
 ∃ n y, DataW.trod enc P w base spare held n t [v] = some y
inductive All2 {α β : Type} (R : α → β → Prop) : List α → List β → Prop
 | nil : All2 R [] []
 | cons {a b l m} : R a b → All2 R l m → All2 R (a :: l) (b :: m)
theorem All2.append {α β : Type} {R : α → β → Prop} {l l' : List α} {m m' : List β} (h : All2 R l m) (h' : All2 R l' m') : All2 R (l ++ l') (m ++ m') := by
 induction h with
 | nil => exact h'
 | cons a _ ih => exact .cons a ih
theorem All2.head {α β : Type} {R : α → β → Prop} {a : α} {l : List α} {m : List β} (h : All2 R (a :: l) m) : ∃ b r, m = b :: r ∧ R a b ∧ All2 R l r := by
 cases h with
 | cons h1 h2 => exact ⟨_, _, rfl, h1, h2⟩
theorem All2.none {α β : Type} {R : α → β → Prop} {m : List β} (h : All2 R [] m) : m = [] := by cases h; rfl
theorem one_of {t : TypeId} {cs : List Value} (hl : cs.length = 1) (h : ∃ n y, DataW.trod enc P w base spare held n t cs = some y) : All2 (Reads enc P w base spare held) [t] cs := by
 match cs, hl with
 | [c], _ => exact .cons h .nil
theorem rows {m : Nat} (ih : ∀ (t : TypeId) (cs : List Value), flatOk P m t = true → cs.length = P.cellsOf t → (∃ n y, DataW.trod enc P w base spare held n t cs = some y) → All2 (Reads enc P w base spare held) (leaves P m t) cs) (cs : List Value) :
  ∀ (l : List Field) (o : Nat), inRow P o l = true → o + rowSize P l ≤ cs.length → (l.all fun f => flatOk P m f.type) = true →
   (∀ f ∈ l, ∃ n y, DataW.trod enc P w base spare held n f.type ((cs.drop f.offset).take (P.cellsOf f.type)) = some y) →
   All2 (Reads enc P w base spare held) (l.flatMap fun f => leaves P m f.type) ((cs.drop o).take (rowSize P l))
 | [], o, _, _, _, _ => by simp only [List.flatMap_nil, rowSize, List.map_nil, List.sum_nil, List.take_zero]; exact .nil
 | f :: r, o, hr, hz, hk, hf => by
  simp only [inRow, Bool.and_eq_true, beq_iff_eq] at hr
  obtain ⟨ho, hr⟩ := hr
  simp only [List.all_cons, Bool.and_eq_true] at hk
  have hs : rowSize P (f :: r) = P.cellsOf f.type + rowSize P r := by simp [rowSize]
  rw [hs] at hz ⊢
  rw [List.take_add, List.drop_drop, List.flatMap_cons]
  refine All2.append ?_ (rows ih cs r (o + P.cellsOf f.type) hr (by omega) hk.2 fun g hg => hf g (List.mem_cons_of_mem _ hg))
  have h1 := hf f List.mem_cons_self
  rw [ho] at h1
  exact ih _ _ hk.1 (by rw [List.length_take, List.length_drop]; omega) h1
theorem flat : ∀ (m : Nat) (t : TypeId) (cs : List Value), flatOk P m t = true → cs.length = P.cellsOf t → (∃ n y, DataW.trod enc P w base spare held n t cs = some y) → All2 (Reads enc P w base spare held) (leaves P m t) cs
 | 0, t, cs, h, hl, hr => by
  simp only [flatOk, beq_iff_eq] at h
  exact one_of (hl.trans h) hr
 | m + 1, t, cs, h, hl, hr => by
  unfold flatOk at h
  unfold leaves
  split at h
  ·
   rename_i fs hu
   simp only [Bool.and_eq_true, beq_iff_eq] at h
   obtain ⟨⟨h1, h2⟩, h3⟩ := h
   obtain ⟨n, y, hy⟩ := hr
   obtain ⟨xs, k, _, _, hlen, hxl, hg⟩ := DataW.trod_struct hu hy
   have := rows (flat m) cs fs.toList 0 h1 (by omega) h3 fun f hf => by
    obtain ⟨i, hi, he⟩ := List.mem_iff_getElem.mp hf
    have hi2 : i < fs.size := by simpa using hi
    have g := hg i f (by rw [Array.getElem?_eq_getElem hi2]; exact congrArg some (by simpa using he))
    have hx : xs[i]? = some (xs[i]'(by omega)) := List.getElem?_eq_getElem (by omega)
    exact ⟨k, _, g.trans hx⟩
   rw [List.drop_zero, List.take_of_length_le (by omega)] at this
   exact this
  ·
   simp only [beq_iff_eq] at h
   exact one_of (hl.trans h) hr
theorem reads_int {t : TypeId} {k : IntKind} {v : Value} (ht : P.underlying t = some (.int k)) (h : Reads enc P w base spare held t v) : ∃ n, v = .int k n ∧ (Lit.int k n).wf = true := by
 obtain ⟨n, y, hy⟩ := h
 obtain ⟨m, e, _, hw⟩ := DataW.trod_int ht hy
 simp only [List.cons.injEq, and_true] at e
 exact ⟨m, e, hw⟩
theorem reads_bool {t : TypeId} {v : Value} (ht : P.underlying t = some .bool) (h : Reads enc P w base spare held t v) : ∃ b, v = .bool b := by
 obtain ⟨n, y, hy⟩ := h
 obtain ⟨m, e, _⟩ := DataW.trod_bool ht hy
 simp only [List.cons.injEq, and_true] at e
 exact ⟨m, e⟩
end
end Go.Proofs.YtfddealjbpdehaaDoor.Leaf
