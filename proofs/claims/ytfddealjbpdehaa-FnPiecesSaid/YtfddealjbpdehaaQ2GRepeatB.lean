/-
  The contract of strings.Repeat at this dump: the library's, laid in plain words (lay-plain.mjs), and as the print takes it.
-/
import Derived.Shelf.Strings.Repeat
import Derived.Test.YtfddealjbpdehaaProg
import Derived.Below
namespace Go.Proofs
open Go.Shelf
def Try.lays105_ren : Go.Shelf.Ren := ⟨fun | 105 => 91 | 212 => 143 | 99 => 144 | 165 => 145 | 166 => 146 | 170 => 147 | 169 => 148 | 263 => 159 | 264 => 160 | 206 => 161 | 240 => 162 | 241 => 163 | 276 => 175 | 277 => 176 | n => n, fun | 9 => 9 | 3 => 3 | 4 => 4 | 20 => 20 | 0 => 0 | 46 => 66 | 109 => 133 | 5 => 5 | 72 => 137 | 76 => 141 | 51 => 116 | 146 => 151 | 53 => 153 | 148 => 154 | 70 => 135 | 37 => 22 | 75 => 140 | 127 => 156 | 164 => 168 | 80 => 144 | n => n, fun | n => n⟩
theorem Try.lays105 : Go.Proofs.Lays.n105 Try.prog Try.lays105_ren := {
 mixed := by kernel_rfl
 f99 := Try.func144.trans (congrArg some (by kernel_rfl))
 f105 := Try.func91.trans (congrArg some (by kernel_rfl))
 f165 := Try.func145.trans (congrArg some (by kernel_rfl))
 f166 := Try.func146.trans (congrArg some (by kernel_rfl))
 f169 := Try.func148.trans (congrArg some (by kernel_rfl))
 f170 := Try.func147.trans (congrArg some (by kernel_rfl))
 f206 := Try.func161.trans (congrArg some (by kernel_rfl))
 f212 := Try.func143.trans (congrArg some (by kernel_rfl))
 f240 := Try.func162.trans (congrArg some (by kernel_rfl))
 f241 := Try.func163.trans (congrArg some (by kernel_rfl))
 f263 := Try.func159.trans (congrArg some (by kernel_rfl))
 f264 := Try.func160.trans (congrArg some (by kernel_rfl))
 f276 := Try.func175.trans (congrArg some (by kernel_rfl))
 f277 := Try.func176.trans (congrArg some (by kernel_rfl))
 t0 := Try.underlying0
 a0 := Try.isAgg0
 z0 := Try.sizeOf0
 v0 := Try.zeroValue0
 t3 := Try.underlying3
 a3 := Try.isAgg3
 z3 := Try.sizeOf3
 v3 := Try.zeroValue3
 t4 := Try.underlying4
 a4 := Try.isAgg4
 z4 := Try.sizeOf4
 v4 := Try.zeroValue4
 t5 := Try.underlying5
 a5 := Try.isAgg5
 z5 := Try.sizeOf5
 v5 := Try.zeroValue5
 t9 := Try.underlying9
 a9 := Try.isAgg9
 z9 := Try.sizeOf9
 v9 := Try.zeroValue9
 t20 := Try.underlying20
 a20 := Try.isAgg20
 z20 := Try.sizeOf20
 v20 := Try.zeroValue20
 t37 := Try.underlying22
 a37 := Try.isAgg22
 z37 := Try.sizeOf22
 v37 := Try.zeroValue22
 t46 := Try.underlying66
 a46 := Try.isAgg66
 z46 := Try.sizeOf66
 v46 := Try.zeroValue66
 t51 := Try.underlying116
 a51 := Try.isAgg116
 z51 := Try.sizeOf116
 v51 := Try.zeroValue116
 t53 := Try.underlying153
 a53 := Try.isAgg153
 z53 := Try.sizeOf153
 v53 := Try.zeroValue153
 t70 := Try.underlying135
 a70 := Try.isAgg135
 z70 := Try.sizeOf135
 v70 := Try.zeroValue135
 t72 := Try.underlying137
 a72 := Try.isAgg137
 z72 := Try.sizeOf137
 v72 := Try.zeroValue137
 t75 := Try.underlying140
 a75 := Try.isAgg140
 z75 := Try.sizeOf140
 v75 := Try.zeroValue140
 t76 := Try.underlying141
 a76 := Try.isAgg141
 z76 := Try.sizeOf141
 v76 := Try.zeroValue141
 t109 := Try.underlying133
 a109 := Try.isAgg133
 z109 := Try.sizeOf133
 v109 := Try.zeroValue133
 t127 := Try.underlying156
 a127 := Try.isAgg156
 z127 := Try.sizeOf156
 v127 := Try.zeroValue156
 t146 := Try.underlying151
 a146 := Try.isAgg151
 z146 := Try.sizeOf151
 v146 := Try.zeroValue151
 t148 := Try.underlying154
 a148 := Try.isAgg154
 z148 := Try.sizeOf154
 v148 := Try.zeroValue154
 t164 := Try.underlying168
 a164 := Try.isAgg168
 z164 := Try.sizeOf168
 v164 := Try.zeroValue168 }
theorem Try.Builder_Extra_105 : Builder.Extra Try.prog Try.lays105_ren := {
 sizeBuilder := by kernel_rfl
 liesBuilder := by kernel_rfl
 t5 := Try.underlying5
 a5 := Try.isAgg5
 z5 := Try.sizeOf5
 v5 := Try.zeroValue5
 infoByte := by kernel_rfl
 cellsByte := by kernel_rfl
 sizeByte := by kernel_rfl
 neB5 := by decide }
open Go.RowKit Go.Lib in
open Go.RowKit Go.Lib in
theorem Try.strings_Repeat (s : ByteArray) (c : Nat) (w : World) (hc : c ≤ 9223372036854775807) (hlen : s.size * c ≤ 140737488355328) :
  Calls Try.prog 91 #[.string s, .int .i64 c] w fun e w' => e = .returned (.string ⟨(Lib.repeatL s.data.toList c).toArray⟩) ∧ Below w.heap.size w w' := Any.strings_Repeat Try.lays105 Try.Builder_Extra_105 s c w hc hlen
end Go.Proofs
namespace Go.Proofs.Ytfddealjbpdehaa.B
open Go.RowKit
def strings_Repeat.f (a0 : ByteArray) (a1 : Int) : Option (ByteArray) := if 0 ≤ a1 ∧ a1 ≤ 9223372036854775807 ∧ a0.size * a1.toNat ≤ 140737488355328 then some ⟨(Lib.repeatL a0.data.toList a1.toNat).toArray⟩ else none
theorem strings_Repeat.calls (a0 : ByteArray) (a1 : Int) (r : ByteArray) (w : World) (h : strings_Repeat.f a0 a1 = some r) :
  Calls Try.prog 91 #[.string a0, .int .i64 a1] w fun e w' => e = .returned (.string r) ∧ Below w.heap.size w w' := by
 unfold strings_Repeat.f at h
 by_cases c : 0 ≤ a1 ∧ a1 ≤ 9223372036854775807 ∧ a0.size * a1.toNat ≤ 140737488355328
 ·
  rw [if_pos c] at h
  obtain rfl := Option.some.inj h
  have e : a1 = ((a1.toNat : Nat) : Int) := by omega
  have := Try.strings_Repeat a0 a1.toNat w (by omega) c.2.2
  rw [← e] at this
  exact this
 ·
  rw [if_neg c] at h
  cases h
end Go.Proofs.Ytfddealjbpdehaa.B
