/-
  Texts as lists of bytes: plain facts.
-/
import Derived.Test.YtfddealjbpdehaaQ2MBVar
import Derived.Lib.Strings
namespace Go.Proofs.Ytfddealjbpdehaa.MB
set_option linter.unusedVariables false
set_option linter.unusedSimpArgs false
open Go.RowKit Go.Proofs.Ytfddealjbpdehaa.B Go.Proofs.YtfddealjbpdehaaW.PrintWords Go.Proofs.YtfddealjbpdehaaW.PrintLast Go.Proofs.YtfddealjbpdehaaW.PrintMore
theorem ba_ext {a b : ByteArray} (h : a.data.toList = b.data.toList) : a = b := by
 cases a with | mk x => cases b with | mk y => exact congrArg ByteArray.mk (Array.toList_inj.mp h)
theorem ba_size (a : ByteArray) : a.size = a.data.toList.length := by rw [Array.length_toList]; rfl
theorem toList_eq {a b : ByteArray} (h : a = b) : (a.toList == b.toList) = true := by rw [h]; exact beq_self_eq_true _
def nums (a : ByteArray) : List Int := a.data.toList.map fun x => ((x.toNat : Nat) : Int)
theorem nums_byte (a : ByteArray) : ∀ x ∈ nums a, 0 ≤ x ∧ x < 256 := by
 intro x hx
 obtain ⟨y, _, rfl⟩ := List.mem_map.mp hx
 have := y.toNat_lt
 omega
theorem nums_len (a : ByteArray) : (nums a).length = a.size := by rw [ba_size]; simp [nums]
theorem nums_back (a : ByteArray) : strOfNums (nums a) = a := by
 apply ba_ext
 have e : ((fun n : Int => UInt8.ofNat n.toNat) ∘ fun x : UInt8 => ((x.toNat : Nat) : Int)) = id := by funext x; simp
 show ((nums a).map fun n : Int => UInt8.ofNat n.toNat).toArray.toList = _
 unfold nums
 rw [List.map_map, e, List.map_id]
theorem son_append (a b : List Int) : strOfNums a ++ strOfNums b = strOfNums (a ++ b) := by
 apply ba_ext
 unfold strOfNums
 simp
theorem son_nil : (⟨#[]⟩ : ByteArray) = strOfNums [] := rfl
theorem son_extract (a b c : List Int) : (strOfNums (a ++ b ++ c)).extract a.length (a.length + b.length) = strOfNums b := by
 apply ba_ext
 rw [Lib.extract_data]
 unfold strOfNums
 simp
theorem bt_nat {a : ByteArray} {j : Nat} (h : j < a.size) : bt a (j : Int) = ((a.data.toList[j]'(by rw [← ba_size]; exact h)).toNat : Int) := by
 unfold bt
 rw [dif_pos (by simpa using h)]
 rfl
theorem ba_ext_bt {a b : ByteArray} (hs : a.size = b.size) (h : ∀ j : Nat, j < a.size → bt a (j : Int) = bt b (j : Int)) : a = b := by
 apply ba_ext
 apply List.ext_getElem (by rw [← ba_size, ← ba_size]; exact hs)
 intro j h1 h2
 have := h j (by rw [ba_size]; exact h1)
 rw [bt_nat (by rw [ba_size]; exact h1), bt_nat (by rw [ba_size]; exact h2)] at this
 exact UInt8.toNat_inj.mp (by omega)
theorem bt_extract {t : ByteArray} {a b j : Nat} (hb : b ≤ t.size) (hj : a + j < b) : bt (t.extract a b) (j : Int) = bt t ((a + j : Nat) : Int) := by
 have h1 : j < (t.extract a b).size := by rw [ByteArray.size_extract]; omega
 rw [bt_nat h1, bt_nat (by omega)]
 congr 2
 simp only [Lib.extract_data]
 simp
theorem bt_append_left {a b : ByteArray} {j : Nat} (h : j < a.size) : bt (a ++ b) (j : Int) = bt a (j : Int) := by
 rw [bt_nat (by rw [ByteArray.size_append]; omega), bt_nat h]
 congr 2
 simp only [ByteArray.data_append, Array.toList_append]
 rw [List.getElem_append_left]
theorem bt_append_right {a b : ByteArray} {j : Nat} (h : j < b.size) : bt (a ++ b) ((a.size + j : Nat) : Int) = bt b (j : Int) := by
 rw [bt_nat (by rw [ByteArray.size_append]; omega), bt_nat h]
 congr 2
 simp only [ByteArray.data_append, Array.toList_append]
 rw [List.getElem_append_right (by rw [← ba_size]; omega)]
 congr 1
 rw [← ba_size]; omega
end Go.Proofs.Ytfddealjbpdehaa.MB
