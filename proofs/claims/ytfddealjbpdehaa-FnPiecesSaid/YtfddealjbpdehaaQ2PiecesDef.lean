-- Written by a program of this session (wip/trim.py) out of the texts that the kit's print and wip/myprint.py write for this claim.
import Derived.Test.YtfddealjbpdehaaQ2Bx0
import Derived.Test.YtfddealjbpdehaaQ2Bx1
import Derived.Test.YtfddealjbpdehaaQ2Bx2
import Derived.Test.YtfddealjbpdehaaQ2Bx3
import Derived.Test.YtfddealjbpdehaaQ2Bx4
import Derived.Test.YtfddealjbpdehaaQ2Bx5
import Derived.Test.YtfddealjbpdehaaQ2Bx6
import Derived.Test.YtfddealjbpdehaaQ2Bx7
namespace Go.Proofs.Ytfddealjbpdehaa.B
open Go.RowKit Go.Proofs.YtfddealjbpdehaaW.PrintWords Go.Proofs.YtfddealjbpdehaaW.PrintLast Go.Proofs.YtfddealjbpdehaaW.PrintMore
attribute [local go_sem] max2_int min2_int max_two min_two max_three min_three max_four min_four
set_option linter.unusedVariables false
set_option linter.unusedSimpArgs false
attribute [local go_sem high] eqA36
mutual
def laws_FnPieces.j0 : Nat → ByteArray → List Int → List (S36) → Bool → Option (Bool)
 | 0, _, _, _, _ => none
 | k + 1, x3, x4, x5, x46 => if x46 = true then (none) else (if 2 < (x4.length : Int) then (if (x5.length : Int) = 0 then (none) else (if 0 ≤ (Int.tmod (rd x4 2) (x5.length : Int)) then (if (Int.tmod (rd x4 2) (x5.length : Int)) < (x5.length : Int) then ((impl_BoxOf.f k ((rd_T36 x5 (Int.tmod (rd x4 2) (x5.length : Int))).f0) ((rd_T36 x5 (Int.tmod (rd x4 2) (x5.length : Int))).f1) ((rd_T36 x5 (Int.tmod (rd x4 2) (x5.length : Int))).f2) ((rd_T36 x5 (Int.tmod (rd x4 2) (x5.length : Int))).f3)).bind fun bt309 => (laws_FnPieces.l0 k x3 x4 x5 bt309.2.2.2.2 (wrap64 ((x5.length : Int) - 1)) bt309.1 bt309.2.1 bt309.2.2.1 bt309.2.2.2.1)) else (none)) else (none))) else (none))
def laws_FnPieces.l0 : Nat → ByteArray → List Int → List (S36) → Bool → Int → Int → Int → ByteArray → List Bool → Option (Bool)
 | 0, _, _, _, _, _, _, _, _, _ => none
 | k + 1, x3, x4, x5, x8, x9, x317000, x317001, x317002, x317003 => if x9 ≥ 0 then (if 0 ≤ x9 then (if x9 < (x5.length : Int) then ((impl_PartText.f k ((rd_T36 x5 x9).f0) ((rd_T36 x5 x9).f1) ((rd_T36 x5 x9).f2) ((rd_T36 x5 x9).f3)).bind fun bt320 => ((impl_ReadPart.f k bt320.1).bind fun bt322 => (if bt320.2 = true then (if bt322.2.2.2.2 = true then (if (!(bt322.1 == ((rd_T36 x5 x9).f0)) || (!(bt322.2.1 == ((rd_T36 x5 x9).f1)) || (!(bt322.2.2.1 == ((rd_T36 x5 x9).f2)) || (!(bt322.2.2.2.1.toList == (((rd_T36 x5 x9).f3).toList)))))) = true then (none) else ((impl_PieceOk.f bt322.1 bt322.2.1 bt322.2.2.1 bt322.2.2.2.1).bind fun t329 => (laws_FnPieces.j2 k x3 x4 x5 x8 x9 (!t329) x317000 x317001 x317002 x317003))) else (none)) else (none)))) else (none)) else (none)) else ((impl_BoxWhole.f k x317000 x317001 x317002 x317003).bind fun bt317 => (if x8 = true then (if bt317.2 = true then (some (bt317.1.toList == x3.toList)) else (none)) else (none)))
def laws_FnPieces.j2 : Nat → ByteArray → List Int → List (S36) → Bool → Int → Bool → Int → Int → ByteArray → List Bool → Option (Bool)
 | 0, _, _, _, _, _, _, _, _, _, _ => none
 | k + 1, x3, x4, x5, x8, x9, x98, x317000, x317001, x317002, x317003 => if x98 = true then (none) else (if 0 ≤ x9 then (if x9 < (x5.length : Int) then ((impl_BoxPut.f k x317000 x317001 x317002 x317003 ((rd_T36 x5 x9).f0) ((rd_T36 x5 x9).f1) ((rd_T36 x5 x9).f2) ((rd_T36 x5 x9).f3)).bind fun bt331 => (if 3 < (x4.length : Int) then (if (x5.length : Int) = 0 then (none) else (if 0 ≤ (Int.tmod (rd x4 3) (x5.length : Int)) then (if (Int.tmod (rd x4 3) (x5.length : Int)) < (x5.length : Int) then ((impl_BoxPut.f k bt331.1 bt331.2.1 bt331.2.2.1 bt331.2.2.2.1 ((rd_T36 x5 (Int.tmod (rd x4 3) (x5.length : Int))).f0) ((rd_T36 x5 (Int.tmod (rd x4 3) (x5.length : Int))).f1) ((rd_T36 x5 (Int.tmod (rd x4 3) (x5.length : Int))).f2) ((rd_T36 x5 (Int.tmod (rd x4 3) (x5.length : Int))).f3)).bind fun bt341 => (if bt331.2.2.2.2 = 0 then (if bt341.2.2.2.2 = 0 then (laws_FnPieces.l0 k x3 x4 x5 x8 (wrap64 (x9 - 1)) bt341.1 bt341.2.1 bt341.2.2.1 bt341.2.2.2.1) else (none)) else (none))) else (none)) else (none))) else (none))) else (none)) else (none))
end
def laws_FnPieces.f (k : Nat) (l0 : List Int) : Option (Bool) := (laws_big.f l0).bind fun t296 => (if t296 = true then (some true) else ((spec_DrawTextOf.f k l0).bind fun t297 => ((spec_DrawPlaces.f k l0).bind fun t298 => (if 0 < (t298.length : Int) then (if 1 < (t298.length : Int) then ((impl_CutParts.f k (Int.tmod (rd t298 0) 60000) t297 (wrap64 (1 + (Int.tmod (rd t298 1) 40)))).bind fun bt303 => (if bt303.2 = true then (laws_FnPieces.j0 k t297 t298 bt303.1 ((bt303.1.length : Int) == 0)) else (none))) else (none)) else (none)))))
theorem laws_FnPieces.mono_l : ∀ k, (∀ y0 y1 y2 y3, LeO (laws_FnPieces.j0 k y0 y1 y2 y3) (laws_FnPieces.j0 (k + 1) y0 y1 y2 y3)) ∧ (∀ y0 y1 y2 y3 y4 y5 y6 y7 y8, LeO (laws_FnPieces.l0 k y0 y1 y2 y3 y4 y5 y6 y7 y8) (laws_FnPieces.l0 (k + 1) y0 y1 y2 y3 y4 y5 y6 y7 y8)) ∧ (∀ y0 y1 y2 y3 y4 y5 y6 y7 y8 y9, LeO (laws_FnPieces.j2 k y0 y1 y2 y3 y4 y5 y6 y7 y8 y9) (laws_FnPieces.j2 (k + 1) y0 y1 y2 y3 y4 y5 y6 y7 y8 y9))
 | 0 => ⟨fun _ _ _ _ r h => by simp [laws_FnPieces.j0] at h, fun _ _ _ _ _ _ _ _ _ r h => by simp [laws_FnPieces.l0] at h, fun _ _ _ _ _ _ _ _ _ _ r h => by simp [laws_FnPieces.j2] at h⟩
 | k + 1 => by
  obtain ⟨ih0, ih1, ih2⟩ := laws_FnPieces.mono_l k
  refine ⟨?_, ?_, ?_⟩
  ·
   intro y0 y1 y2 y3
   unfold laws_FnPieces.j0
   repeat' first
   | (with_reducible exact ih0 _ _ _ _)
   | (with_reducible exact ih1 _ _ _ _ _ _ _ _ _)
   | (with_reducible exact ih2 _ _ _ _ _ _ _ _ _ _)
   | (with_reducible exact impl_BoxOf.mono _ _ _ _ _)
   | (with_reducible exact impl_BoxPut.mono _ _ _ _ _ _ _ _ _)
   | (with_reducible exact impl_BoxWhole.mono _ _ _ _ _)
   | (with_reducible exact impl_CutParts.mono _ _ _ _)
   | (with_reducible exact impl_PartText.mono _ _ _ _ _)
   | (with_reducible exact impl_ReadPart.mono _ _)
   | (with_reducible exact spec_DrawPlaces.mono _ _)
   | (with_reducible exact spec_DrawTextOf.mono _ _)
   | (with_reducible exact LeO.refl _)
   | (with_reducible exact LeO.none _)
   | (with_reducible refine LeO.ite ?_ ?_)
   | (with_reducible refine LeO.bind ?_ (fun _ => ?_))
   | exact ih0 _ _ _ _
   | exact ih1 _ _ _ _ _ _ _ _ _
   | exact ih2 _ _ _ _ _ _ _ _ _ _
   | exact impl_BoxOf.mono _ _ _ _ _
   | exact impl_BoxPut.mono _ _ _ _ _ _ _ _ _
   | exact impl_BoxWhole.mono _ _ _ _ _
   | exact impl_CutParts.mono _ _ _ _
   | exact impl_PartText.mono _ _ _ _ _
   | exact impl_ReadPart.mono _ _
   | exact spec_DrawPlaces.mono _ _
   | exact spec_DrawTextOf.mono _ _
   | exact LeO.none _
   | refine LeO.ite ?_ ?_
   | refine LeO.bind ?_ (fun _ => ?_)
  ·
   intro y0 y1 y2 y3 y4 y5 y6 y7 y8
   unfold laws_FnPieces.l0
   repeat' first
   | (with_reducible exact ih0 _ _ _ _)
   | (with_reducible exact ih1 _ _ _ _ _ _ _ _ _)
   | (with_reducible exact ih2 _ _ _ _ _ _ _ _ _ _)
   | (with_reducible exact impl_BoxOf.mono _ _ _ _ _)
   | (with_reducible exact impl_BoxPut.mono _ _ _ _ _ _ _ _ _)
   | (with_reducible exact impl_BoxWhole.mono _ _ _ _ _)
   | (with_reducible exact impl_CutParts.mono _ _ _ _)
   | (with_reducible exact impl_PartText.mono _ _ _ _ _)
   | (with_reducible exact impl_ReadPart.mono _ _)
   | (with_reducible exact spec_DrawPlaces.mono _ _)
   | (with_reducible exact spec_DrawTextOf.mono _ _)
   | (with_reducible exact LeO.refl _)
   | (with_reducible exact LeO.none _)
   | (with_reducible refine LeO.ite ?_ ?_)
   | (with_reducible refine LeO.bind ?_ (fun _ => ?_))
   | exact ih0 _ _ _ _
   | exact ih1 _ _ _ _ _ _ _ _ _
   | exact ih2 _ _ _ _ _ _ _ _ _ _
   | exact impl_BoxOf.mono _ _ _ _ _
   | exact impl_BoxPut.mono _ _ _ _ _ _ _ _ _
   | exact impl_BoxWhole.mono _ _ _ _ _
   | exact impl_CutParts.mono _ _ _ _
   | exact impl_PartText.mono _ _ _ _ _
   | exact impl_ReadPart.mono _ _
   | exact spec_DrawPlaces.mono _ _
   | exact spec_DrawTextOf.mono _ _
   | exact LeO.none _
   | refine LeO.ite ?_ ?_
   | refine LeO.bind ?_ (fun _ => ?_)
  ·
   intro y0 y1 y2 y3 y4 y5 y6 y7 y8 y9
   unfold laws_FnPieces.j2
   repeat' first
   | (with_reducible exact ih0 _ _ _ _)
   | (with_reducible exact ih1 _ _ _ _ _ _ _ _ _)
   | (with_reducible exact ih2 _ _ _ _ _ _ _ _ _ _)
   | (with_reducible exact impl_BoxOf.mono _ _ _ _ _)
   | (with_reducible exact impl_BoxPut.mono _ _ _ _ _ _ _ _ _)
   | (with_reducible exact impl_BoxWhole.mono _ _ _ _ _)
   | (with_reducible exact impl_CutParts.mono _ _ _ _)
   | (with_reducible exact impl_PartText.mono _ _ _ _ _)
   | (with_reducible exact impl_ReadPart.mono _ _)
   | (with_reducible exact spec_DrawPlaces.mono _ _)
   | (with_reducible exact spec_DrawTextOf.mono _ _)
   | (with_reducible exact LeO.refl _)
   | (with_reducible exact LeO.none _)
   | (with_reducible refine LeO.ite ?_ ?_)
   | (with_reducible refine LeO.bind ?_ (fun _ => ?_))
   | exact ih0 _ _ _ _
   | exact ih1 _ _ _ _ _ _ _ _ _
   | exact ih2 _ _ _ _ _ _ _ _ _ _
   | exact impl_BoxOf.mono _ _ _ _ _
   | exact impl_BoxPut.mono _ _ _ _ _ _ _ _ _
   | exact impl_BoxWhole.mono _ _ _ _ _
   | exact impl_CutParts.mono _ _ _ _
   | exact impl_PartText.mono _ _ _ _ _
   | exact impl_ReadPart.mono _ _
   | exact spec_DrawPlaces.mono _ _
   | exact spec_DrawTextOf.mono _ _
   | exact LeO.none _
   | refine LeO.ite ?_ ?_
   | refine LeO.bind ?_ (fun _ => ?_)
theorem laws_FnPieces.mono : ∀ a0 k, LeO (laws_FnPieces.f k a0) (laws_FnPieces.f (k + 1) a0) := by
 intro a0 k
 obtain ⟨ih0, ih1, ih2⟩ := laws_FnPieces.mono_l k
 unfold laws_FnPieces.f
 repeat' first
   | (with_reducible exact ih0 _ _ _ _)
   | (with_reducible exact ih1 _ _ _ _ _ _ _ _ _)
   | (with_reducible exact ih2 _ _ _ _ _ _ _ _ _ _)
   | (with_reducible exact impl_BoxOf.mono _ _ _ _ _)
   | (with_reducible exact impl_BoxPut.mono _ _ _ _ _ _ _ _ _)
   | (with_reducible exact impl_BoxWhole.mono _ _ _ _ _)
   | (with_reducible exact impl_CutParts.mono _ _ _ _)
   | (with_reducible exact impl_PartText.mono _ _ _ _ _)
   | (with_reducible exact impl_ReadPart.mono _ _)
   | (with_reducible exact spec_DrawPlaces.mono _ _)
   | (with_reducible exact spec_DrawTextOf.mono _ _)
   | (with_reducible exact LeO.refl _)
   | (with_reducible exact LeO.none _)
   | (with_reducible refine LeO.ite ?_ ?_)
   | (with_reducible refine LeO.bind ?_ (fun _ => ?_))
   | exact ih0 _ _ _ _
   | exact ih1 _ _ _ _ _ _ _ _ _
   | exact ih2 _ _ _ _ _ _ _ _ _ _
   | exact impl_BoxOf.mono _ _ _ _ _
   | exact impl_BoxPut.mono _ _ _ _ _ _ _ _ _
   | exact impl_BoxWhole.mono _ _ _ _ _
   | exact impl_CutParts.mono _ _ _ _
   | exact impl_PartText.mono _ _ _ _ _
   | exact impl_ReadPart.mono _ _
   | exact spec_DrawPlaces.mono _ _
   | exact spec_DrawTextOf.mono _ _
   | exact LeO.none _
   | refine LeO.ite ?_ ?_
   | refine LeO.bind ?_ (fun _ => ?_)
def laws_FnPieces.Pure : Prop := ∀ (l0 : List Int), l0.length ≤ maxLen → l0.length * 1 ≤ 140737488351232 → (∀ x ∈ l0, (Lit.int .u8 x).wf = true) → ∃ k, laws_FnPieces.f k l0 = some true
end Go.Proofs.Ytfddealjbpdehaa.B
