/-
  slices.Sort and slices.Compact over a slice of whole numbers of the call's own.
-/
import Derived.Test.YtfddealjbpdehaaQ3ShelfSort
import Derived.Test.YtfddealjbpdehaaQ3WMore
import Derived.Sort.OwnSortedInts
import Derived.Lib.RowBridge
namespace Go.Proofs.Ytfddealjbpdehaa.GS
open Go.RowKit Go.Sort Go.Proofs.YtfddealjbpdehaaW.PrintWords Go.Proofs.YtfddealjbpdehaaW.PrintLast Go.Proofs.YtfddealjbpdehaaW.PrintMore
set_option linter.unusedVariables false
set_option linter.unusedSimpArgs false
def sorted (xs : List Int) : List Int := xs.mergeSort fun x y => decide (x ≤ y)
theorem sorted_length (xs : List Int) : (sorted xs).length = xs.length := by unfold sorted; simp
theorem encs_int (xs : List Int) : encs (Value.int .i64) xs = xs.map (Value.int .i64) := rfl
theorem same_grown (w : World) (row : Option Nat) : w.grownBy w row := ⟨rfl, rfl, rfl, Nat.le_refl _, fun _ _ _ => rfl⟩
theorem sort_any {u : Value} {xs : List Int} {W : World} {base : Nat} {ok : Nat → Prop} (ho : Kd.R (Kd.int .i64) 3 W base ok u xs) (hl : xs.length < 4611686018427387904) :
  Calls Try.prog 121 #[u] W fun e w' => e = .returned (.tuple #[]) ∧ Kd.R (Kd.int .i64) 3 w' base ok u (sorted xs) ∧ W.grownBy w' u.ownBlock := by
 have own := Kd.own_of_R ho
 rw [encs_int] at own
 rcases own.2 with ⟨hnil, hx⟩ | ⟨g, cap, cur, hv, hbase, hb, h1, h2, h3, h4⟩
 ·
  obtain ⟨A, c, hA⟩ := Kd.R_slice ho
  have hx0 : xs = [] := by
   have := hx
   simpa using this
  subst hx0
  subst hA
  refine (Try.slices_Sort_int_none A c W).mono ?_
  rintro e w' ⟨rfl, rfl⟩
  have e0 : sorted [] = [] := by simp [sorted]
  exact ⟨rfl, by rw [e0]; exact ho, same_grown _ _⟩
 ·
  subst hv
  have h4' : cur.toList.take xs.length = xs.map (Value.int .i64) := by simpa using h4
  refine (Try.slices_Sort_int g 0 cap xs W (holds_of_blockI hb h4') (Array.getElem?_eq_some_iff.1 hb).1 hl).mono ?_
  rintro e w' ⟨rfl, n, os, rfl⟩
  refine ⟨rfl, ?_, grownBy_sortedI _⟩
  have hs := ownsRow_sortedI (n := n) (os := os) (ts := sorted xs) (ss := xs) (sorted_length xs) hbase hb h1 h2 h3
  have e1 : (Value.slice (some ⟨g, 0, none⟩) xs.length cap) = .slice (some ⟨g, 0, none⟩) (sorted xs).length cap := by rw [sorted_length]
  refine Kd.R_of_own ?_ (fun k hk => ho.1 k hk)
  rw [sorted_length, encs_int]
  exact hs
theorem compact_any {u : Value} {xs : List Int} {W : World} {base : Nat} {ok : Nat → Prop} (ho : Kd.R (Kd.int .i64) 3 W base ok u xs) (hl : xs.length < 4611686018427387904) :
  Calls Try.prog 122 #[u] W fun e w' => ∃ v : Value, e = .returned v ∧ v.ownBlock = u.ownBlock ∧ Kd.R (Kd.int .i64) 3 w' base ok v (Lib.compact xs) ∧ W.grownBy w' u.ownBlock := by
 have own := Kd.own_of_R ho
 rw [encs_int] at own
 rcases own.2 with ⟨hnil, hx⟩ | ⟨g, cap, cur, hv, hbase, hb, h1, h2, h3, h4⟩
 ·
  obtain ⟨A, c, hA⟩ := Kd.R_slice ho
  have hx0 : xs = [] := by
   have := hx
   simpa using this
  subst hx0
  subst hA
  refine (Try.slices_Compact_int_empty A c W).mono ?_
  rintro e w' ⟨rfl, rfl⟩
  have e0 : Lib.compact ([] : List Int) = [] := by rfl
  exact ⟨_, rfl, rfl, by rw [e0]; exact ho, same_grown _ _⟩
 ·
  subst hv
  have h4' : cur.toList.take xs.length = xs.map (Value.int .i64) := by simpa using h4
  have hle := Lib.compact_length_le xs
  refine (Try.slices_Compact_int g 0 cap xs W (holds_of_blockI hb h4') (by omega) h1).mono ?_
  rintro e w' ⟨rfl, n, rfl⟩
  have hgrow : ∀ (w : World), grow w #[] = w := fun w => by unfold grow; simp
  have hgb : W.grownBy (putRow (Value.int .i64) (Sort.ahead W n) g 0 (Lib.compact xs ++ List.replicate (xs.length - (Lib.compact xs).length) 0).toArray) (some g) := by
   have := grownBy_sortedI (w := W) (g := g) (n := n) (os := #[]) (Lib.compact xs ++ List.replicate (xs.length - (Lib.compact xs).length) 0).toArray
   rwa [hgrow] at this
  refine ⟨_, rfl, rfl, ?_, hgb⟩
  refine Kd.R_of_own ?_ (fun k hk => ho.1 k hk)
  rw [encs_int]
  have hblk := heap_sortedI (n := n) (os := #[]) (Lib.compact xs ++ List.replicate (xs.length - (Lib.compact xs).length) 0).toArray hb
  rw [hgrow] at hblk
  refine ⟨by simp, .inr ⟨g, cap, _, rfl, hbase, hblk, by omega, h2, by simp [putCells, h3], ?_⟩⟩
  have ht := take_putCellsI cur (Lib.compact xs ++ List.replicate (xs.length - (Lib.compact xs).length) 0) (by simp; omega)
  have e2 := congrArg (List.take (Lib.compact xs).length) ht
  rw [List.take_take, List.map_append, List.take_append_of_le_length (by simp)] at e2
  rw [Nat.mul_one, List.length_append, List.length_replicate] at *
  have e3 : min (Lib.compact xs).length ((Lib.compact xs).length + (xs.length - (Lib.compact xs).length)) = (Lib.compact xs).length := by omega
  rw [e3] at e2
  rw [e2, List.take_of_length_le (by simp)]
end Go.Proofs.Ytfddealjbpdehaa.GS
namespace Go.Proofs.Ytfddealjbpdehaa.GS
def flat (xs : List Int) : List Int := Lib.compact (sorted xs)
end Go.Proofs.Ytfddealjbpdehaa.GS
