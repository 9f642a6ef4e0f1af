/-
  The decimal text of a whole number, as Go's library makes it, where its table of powers stands in memory.
-/
import Derived.Test.YtfddealjbpdehaaDoorQ1Shelf
import Derived.Test.YtfddealjbpdehaaDoorQ1WMore
import Derived.Lib.SmallJoins
import Derived.Sort.Grow
namespace Go.Proofs.YtfddealjbpdehaaDoor.A
open Go.RowKit Go.Proofs.YtfddealjbpdehaaDoorW.PrintWords Go.Proofs.YtfddealjbpdehaaDoorW.PrintLast
def TabW (w : World) : Prop := Lib.TabIs Tryd.prog w "internal/strconv.uint64pow10" .u64 Lib.pow10Tab
theorem TabW.below {w w' : World} (h : TabW w) (hb : Below w.heap.size w w') : TabW w' := by
 have ⟨g, hg⟩ : ∃ g, Tryd.prog.globalNamed "internal/strconv.uint64pow10" = some g := Option.isSome_iff_exists.mp (by kernel_rfl)
 exact Joins.tab_stays hg h hb (Nat.le_refl _)
theorem below_grow {B : Nat} {w W : World} (h : Below B w W) (os : Array Obj) (hB : B ≤ W.heap.size) : Below B w (Sort.grow W os) :=
 ⟨h.os, h.tape, h.output, Nat.le_trans h.size (by simp [Sort.grow]), fun i hi => by
  have : i < W.heap.size := by omega
  simp only [Sort.grow]
  rw [Array.getElem?_append_left this]
  exact h.block i hi⟩
def strconv_Itoa.f (a0 : Int) : Option (ByteArray) := if -9223372036854775808 ≤ a0 ∧ a0 ≤ 9223372036854775807 then some ⟨(Lib.itoa a0).toArray⟩ else none
theorem strconv_Itoa.calls (a0 : Int) (r : ByteArray) (w : World) (hT : TabW w) (h : strconv_Itoa.f a0 = some r) :
  Calls Tryd.prog 86 #[.int .i64 a0] w fun e w' => e = .returned (.string r) ∧ Below w.heap.size w w' := by
 unfold strconv_Itoa.f at h
 by_cases c : -9223372036854775808 ≤ a0 ∧ a0 ≤ 9223372036854775807
 ·
  rw [if_pos c] at h
  obtain rfl := Option.some.inj h
  refine (Tryd.strconv_Itoa a0 c.1 c.2 w hT).mono ?_
  rintro e w' ⟨rfl, k, os, rfl⟩
  exact ⟨rfl, below_grow (pw_below_drewN (Below.refl _ _) k) os (Nat.le_refl _)⟩
 ·
  rw [if_neg c] at h
  cases h
end Go.Proofs.YtfddealjbpdehaaDoor.A
