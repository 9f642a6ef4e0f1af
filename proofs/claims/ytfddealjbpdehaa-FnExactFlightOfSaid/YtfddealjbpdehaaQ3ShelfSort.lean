/-
  The contracts of slices.Sort and slices.Compact at this dump: the library's, laid in plain words (lay-plain.mjs).
-/
import Derived.Shelf.Sort.Plain
import Derived.Shelf.Slices.CompactI
import Derived.Ground.Names2Prog
import Derived.Shelf.Slices.In.SortNone
import Derived.Test.YtfddealjbpdehaaProg
namespace Go.Proofs
open Go.Shelf Go.RowKit Go.Lib Go.Sort
def Try.lays189_ren : Go.Shelf.Ren := ⟨fun | 189 => 121 | 125 => 156 | 257 => 155 | 128 => 173 | 129 => 174 | 294 => 164 | 295 => 165 | 296 => 166 | 297 => 167 | 298 => 168 | 299 => 169 | 216 => 170 | 300 => 171 | 301 => 172 | 328 => 177 | 329 => 178 | 330 => 179 | 331 => 180 | 332 => 181 | 215 => 182 | 343 => 183 | n => n, fun | 28 => 25 | 3 => 3 | 46 => 66 | 0 => 0 | 51 => 116 | 53 => 153 | 4 => 4 | 183 => 159 | 182 => 158 | 131 => 164 | 5 => 5 | 9 => 9 | 218 => 171 | 222 => 175 | 228 => 178 | 229 => 179 | n => n, fun | n => n⟩
theorem Try.lays189 : Go.Proofs.Lays.n189 Try.prog Try.lays189_ren := {
 mixed := by kernel_rfl
 f125 := Try.func156.trans (congrArg some (by kernel_rfl))
 f128 := Try.func173.trans (congrArg some (by kernel_rfl))
 f129 := Try.func174.trans (congrArg some (by kernel_rfl))
 f189 := Try.func121.trans (congrArg some (by kernel_rfl))
 f215 := Try.func182.trans (congrArg some (by kernel_rfl))
 f216 := Try.func170.trans (congrArg some (by kernel_rfl))
 f257 := Try.func155.trans (congrArg some (by kernel_rfl))
 f294 := Try.func164.trans (congrArg some (by kernel_rfl))
 f295 := Try.func165.trans (congrArg some (by kernel_rfl))
 f296 := Try.func166.trans (congrArg some (by kernel_rfl))
 f297 := Try.func167.trans (congrArg some (by kernel_rfl))
 f298 := Try.func168.trans (congrArg some (by kernel_rfl))
 f299 := Try.func169.trans (congrArg some (by kernel_rfl))
 f300 := Try.func171.trans (congrArg some (by kernel_rfl))
 f301 := Try.func172.trans (congrArg some (by kernel_rfl))
 f328 := Try.func177.trans (congrArg some (by kernel_rfl))
 f329 := Try.func178.trans (congrArg some (by kernel_rfl))
 f330 := Try.func179.trans (congrArg some (by kernel_rfl))
 f331 := Try.func180.trans (congrArg some (by kernel_rfl))
 f332 := Try.func181.trans (congrArg some (by kernel_rfl))
 f343 := Try.func183.trans (congrArg some (by kernel_rfl))
 t0 := Try.underlying0
 a0 := Try.isAgg0
 z0 := Try.sizeOf0
 v0 := Try.zeroValue0
 t3 := Try.underlying3
 a3 := Try.isAgg3
 z3 := Try.sizeOf3
 v3 := Try.zeroValue3
 t4 := Try.underlying4
 a4 := Try.isAgg4
 z4 := Try.sizeOf4
 v4 := Try.zeroValue4
 t5 := Try.underlying5
 a5 := Try.isAgg5
 z5 := Try.sizeOf5
 v5 := Try.zeroValue5
 t9 := Try.underlying9
 a9 := Try.isAgg9
 z9 := Try.sizeOf9
 v9 := Try.zeroValue9
 t28 := Try.underlying25
 a28 := Try.isAgg25
 z28 := Try.sizeOf25
 v28 := Try.zeroValue25
 t46 := Try.underlying66
 a46 := Try.isAgg66
 z46 := Try.sizeOf66
 v46 := Try.zeroValue66
 t51 := Try.underlying116
 a51 := Try.isAgg116
 z51 := Try.sizeOf116
 v51 := Try.zeroValue116
 t53 := Try.underlying153
 a53 := Try.isAgg153
 z53 := Try.sizeOf153
 v53 := Try.zeroValue153
 t131 := Try.underlying164
 a131 := Try.isAgg164
 z131 := Try.sizeOf164
 v131 := Try.zeroValue164
 t182 := Try.underlying158
 a182 := Try.isAgg158
 z182 := Try.sizeOf158
 v182 := Try.zeroValue158
 t183 := Try.underlying159
 a183 := Try.isAgg159
 z183 := Try.sizeOf159
 v183 := Try.zeroValue159
 t218 := Try.underlying171
 a218 := Try.isAgg171
 z218 := Try.sizeOf171
 v218 := Try.zeroValue171
 t222 := Try.underlying175
 a222 := Try.isAgg175
 z222 := Try.sizeOf175
 v222 := Try.zeroValue175
 t228 := Try.underlying178
 a228 := Try.isAgg178
 z228 := Try.sizeOf178
 v228 := Try.zeroValue178
 t229 := Try.underlying179
 a229 := Try.isAgg179
 z229 := Try.sizeOf179
 v229 := Try.zeroValue179 }
open Go.Sort Go.RowKit in
theorem Try.slices_Sort_int (blk off cap : Nat) (zs : List Int) (w : World) (hH : Holds (Value.int .i64) w blk off zs.toArray) (hblk : blk < w.heap.size) (hsz : zs.length < 4611686018427387904) :
  Calls Try.prog 121 #[.slice (some ⟨blk, off, none⟩) zs.length cap] w fun e w' =>
   e = .returned (.tuple #[]) ∧ ∃ n os, w' = grow (putRow (Value.int .i64) (Sort.ahead w n) blk off (zs.mergeSort fun x y => decide (x ≤ y)).toArray) os := Any.slices_Sort_int Try.lays189 blk off cap zs w hH hblk hsz
def Try.laysNm220_ren : Go.Shelf.Ren := ⟨fun | 20 => 122 | n => n, fun | 22 => 25 | 3 => 3 | 4 => 4 | 0 => 0 | n => n, fun | n => n⟩
theorem Try.laysNm220 : Go.Proofs.Lays2.n20 Try.prog Try.laysNm220_ren := {
 mixed := by kernel_rfl
 f20 := Try.func122.trans (congrArg some (by kernel_rfl))
 t0 := Try.underlying0
 a0 := Try.isAgg0
 z0 := Try.sizeOf0
 v0 := Try.zeroValue0
 t3 := Try.underlying3
 a3 := Try.isAgg3
 z3 := Try.sizeOf3
 v3 := Try.zeroValue3
 t4 := Try.underlying4
 a4 := Try.isAgg4
 z4 := Try.sizeOf4
 v4 := Try.zeroValue4
 t22 := Try.underlying25
 a22 := Try.isAgg25
 z22 := Try.sizeOf25
 v22 := Try.zeroValue25
 i3 := by kernel_rfl }
theorem Try.slices_Compact_int (blk off cap : Nat) (zs : List Int) (w : World) (hH : Holds (Value.int .i64) w blk off zs.toArray) (hsz : zs.length ≤ 9223372036854775807) (hcap : zs.length ≤ cap) :
  Calls Try.prog 122 #[.slice (some ⟨blk, off, none⟩) zs.length cap] w fun e w' => e = .returned (.slice (some ⟨blk, off, none⟩) (Lib.compact zs).length cap) ∧ ∃ q, w' = putRow (Value.int .i64) (Sort.ahead w q) blk off (Lib.compact zs ++ List.replicate (zs.length - (Lib.compact zs).length) 0).toArray := Any.slices_Compact_int Try.laysNm220 blk off cap zs w hH hsz hcap
theorem Try.slices_Compact_int_empty (a : Option Addr) (cap : Nat) (w : World) :
  Calls Try.prog 122 #[.slice a 0 cap] w fun e w' => e = .returned (.slice a 0 cap) ∧ w' = w := Any.slices_Compact_int_empty Try.laysNm220 a cap w
theorem Try.slices_Sort_int_none (p : Option Addr) (cap : Nat) (w : World) :
  Calls Try.prog 121 #[.slice p 0 cap] w fun e w' => e = .returned (.tuple #[]) ∧ w' = w := Any.slices_Sort_int_none Try.lays189 p cap w
end Go.Proofs
