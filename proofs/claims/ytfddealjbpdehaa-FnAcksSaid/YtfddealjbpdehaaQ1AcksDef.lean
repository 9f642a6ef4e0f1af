-- Written by a program of this session (wip/trim.py) out of the texts that the kit's print and wip/myprint.py write for this claim.
import Derived.Test.YtfddealjbpdehaaQ1Ax0
import Derived.Test.YtfddealjbpdehaaQ1Ax1
import Derived.Test.YtfddealjbpdehaaQ1Ax5
import Derived.Test.YtfddealjbpdehaaQ1Ax6
import Derived.Test.YtfddealjbpdehaaQ1Ax7
import Derived.Test.YtfddealjbpdehaaQ1Ax8
namespace Go.Proofs.Ytfddealjbpdehaa.A
open Go.RowKit Go.Proofs.YtfddealjbpdehaaW.PrintWords Go.Proofs.YtfddealjbpdehaaW.PrintLast Go.Proofs.YtfddealjbpdehaaW.PrintMore
attribute [local go_sem] max2_int min2_int max_two min_two max_three min_three max_four min_four
set_option linter.unusedVariables false
set_option linter.unusedSimpArgs false
def laws_FnAcks.l0 : Nat → List Int → List Int → Bool → List Int → Bool → List Int → List Int → Int → List Int → List Int → Int → List Int → List Int → Int → List Int → List Int → Int → List Int → List Int → Int → Option (Bool)
 | 0, _, _, _, _, _, _, _, _, _, _, _, _, _, _, _, _, _, _, _, _ => none
 | k + 1, x0, x4, x6, x7, x8, x11, x13, x14, x402000, x402001, x402002, x419000, x419001, x419002, x430000, x430001, x430002, x441000, x441001, x441002 => if x14 < (x11.length : Int) then (if x14 ≥ (x4.length : Int) then (none) else (if 0 ≤ x14 then (if x14 < (x4.length : Int) then (if (rd x11 x14) = (rd x4 x14) then (laws_FnAcks.l0 k x0 x4 x6 x7 x8 x11 x13 (wrap64 (x14 + 1)) x402000 x402001 x402002 x419000 x419001 x419002 x430000 x430001 x430002 x441000 x441001 x441002) else (none)) else (none)) else (none))) else ((spec_DrawPlaces.f k x0).bind fun t443 => (if 0 < (t443.length : Int) then ((impl_AckedBy.f k x402000 x402001 x402002 (([Int.tmod (rd t443 0) 4] : List Int))).bind fun bt450 => (if x6 = true then (if x8 = true then ((laws_sameInts.f k x7 x4).bind fun t458 => (if t458 = true then ((impl_LeftOf.f k x419000 x419001 x419002).bind fun t459 => (if (t459.length : Int) = 0 then (if (x13.length : Int) = 0 then ((laws_sameFlight.f k x441000 x441001 x441002 x419000 x419001 x419002).bind fun t462 => (if t462 = true then (if (x11.length : Int) = (x4.length : Int) then (if x430002 = (wrap64 (x402002 + 1)) then ((impl_FlightOk.f k x402000 x402001 x402002).bind fun t463 => (if t463 = true then ((impl_FlightOk.f k bt450.1 bt450.2.1 bt450.2.2).bind fun t464 => (if t464 = true then ((impl_LeftOf.f k bt450.1 bt450.2.1 bt450.2.2).bind fun t465 => (if (t465.length : Int) ≤ (x4.length : Int) then (some ((wrap64 ((x4.length : Int) + (x402001.length : Int))) == (x402000.length : Int))) else (none))) else (none))) else (none))) else (if (x11.length : Int) = 0 then (if x430002 = x402002 then ((impl_FlightOk.f k x402000 x402001 x402002).bind fun t468 => (if t468 = true then ((impl_FlightOk.f k bt450.1 bt450.2.1 bt450.2.2).bind fun t469 => (if t469 = true then ((impl_LeftOf.f k bt450.1 bt450.2.1 bt450.2.2).bind fun t470 => (if (t470.length : Int) ≤ (x4.length : Int) then (some ((wrap64 ((x4.length : Int) + (x402001.length : Int))) == (x402000.length : Int))) else (none))) else (none))) else (none))) else (none)) else (none))) else (if (x11.length : Int) = 0 then (if x430002 = x402002 then ((impl_FlightOk.f k x402000 x402001 x402002).bind fun t473 => (if t473 = true then ((impl_FlightOk.f k bt450.1 bt450.2.1 bt450.2.2).bind fun t474 => (if t474 = true then ((impl_LeftOf.f k bt450.1 bt450.2.1 bt450.2.2).bind fun t475 => (if (t475.length : Int) ≤ (x4.length : Int) then (some ((wrap64 ((x4.length : Int) + (x402001.length : Int))) == (x402000.length : Int))) else (none))) else (none))) else (none))) else (none)) else (none))) else (none))) else (none)) else (none))) else (none))) else (none)) else (none))) else (none)))
def laws_FnAcks.f (k : Nat) (l0 : List Int) : Option (Bool) := (laws_big.f l0).bind fun t393 => (if t393 = true then (some true) else ((spec_DrawFlight.f k l0).bind fun bt394 => ((impl_LeftOf.f k bt394.1 bt394.2.1 bt394.2.2).bind fun t402 => ((impl_AckList.f k t402).bind fun bt405 => ((impl_ReadAck.f k bt405.1).bind fun bt407 => ((impl_AckedBy.f k bt394.1 bt394.2.1 bt394.2.2 t402).bind fun bt411 => ((impl_SaidAgain.f k bt394.1 bt394.2.1 bt394.2.2).bind fun bt419 => ((impl_SaidAgain.f k bt411.1 bt411.2.1 bt411.2.2).bind fun bt430 => (laws_FnAcks.l0 k l0 t402 bt405.2 bt407.1 bt407.2 bt419.2.2.2 bt430.2.2.2 0 bt394.1 bt394.2.1 bt394.2.2 bt411.1 bt411.2.1 bt411.2.2 bt419.1 bt419.2.1 bt419.2.2.1 bt430.1 bt430.2.1 bt430.2.2.1)))))))))
theorem laws_FnAcks.mono_l : ∀ k, (∀ y0 y1 y2 y3 y4 y5 y6 y7 y8 y9 y10 y11 y12 y13 y14 y15 y16 y17 y18 y19, LeO (laws_FnAcks.l0 k y0 y1 y2 y3 y4 y5 y6 y7 y8 y9 y10 y11 y12 y13 y14 y15 y16 y17 y18 y19) (laws_FnAcks.l0 (k + 1) y0 y1 y2 y3 y4 y5 y6 y7 y8 y9 y10 y11 y12 y13 y14 y15 y16 y17 y18 y19))
 | 0 => fun _ _ _ _ _ _ _ _ _ _ _ _ _ _ _ _ _ _ _ _ r h => by simp [laws_FnAcks.l0] at h
 | k + 1 => by
  have ih0 := laws_FnAcks.mono_l k
  ·
   intro y0 y1 y2 y3 y4 y5 y6 y7 y8 y9 y10 y11 y12 y13 y14 y15 y16 y17 y18 y19
   unfold laws_FnAcks.l0
   repeat' first
   | (with_reducible exact ih0 _ _ _ _ _ _ _ _ _ _ _ _ _ _ _ _ _ _ _ _)
   | (with_reducible exact impl_AckList.mono _ _)
   | (with_reducible exact impl_AckedBy.mono _ _ _ _ _)
   | (with_reducible exact impl_FlightOk.mono _ _ _ _)
   | (with_reducible exact impl_LeftOf.mono _ _ _ _)
   | (with_reducible exact impl_ReadAck.mono _ _)
   | (with_reducible exact impl_SaidAgain.mono _ _ _ _)
   | (with_reducible exact laws_sameFlight.mono _ _ _ _ _ _ _)
   | (with_reducible exact laws_sameInts.mono _ _ _)
   | (with_reducible exact spec_DrawFlight.mono _ _)
   | (with_reducible exact spec_DrawPlaces.mono _ _)
   | (with_reducible exact LeO.refl _)
   | (with_reducible exact LeO.none _)
   | (with_reducible refine LeO.ite ?_ ?_)
   | (with_reducible refine LeO.bind ?_ (fun _ => ?_))
   | exact ih0 _ _ _ _ _ _ _ _ _ _ _ _ _ _ _ _ _ _ _ _
   | exact impl_AckList.mono _ _
   | exact impl_AckedBy.mono _ _ _ _ _
   | exact impl_FlightOk.mono _ _ _ _
   | exact impl_LeftOf.mono _ _ _ _
   | exact impl_ReadAck.mono _ _
   | exact impl_SaidAgain.mono _ _ _ _
   | exact laws_sameFlight.mono _ _ _ _ _ _ _
   | exact laws_sameInts.mono _ _ _
   | exact spec_DrawFlight.mono _ _
   | exact spec_DrawPlaces.mono _ _
   | exact LeO.none _
   | refine LeO.ite ?_ ?_
   | refine LeO.bind ?_ (fun _ => ?_)
theorem laws_FnAcks.mono : ∀ a0 k, LeO (laws_FnAcks.f k a0) (laws_FnAcks.f (k + 1) a0) := by
 intro a0 k
 have ih0 := laws_FnAcks.mono_l k
 unfold laws_FnAcks.f
 repeat' first
   | (with_reducible exact ih0 _ _ _ _ _ _ _ _ _ _ _ _ _ _ _ _ _ _ _ _)
   | (with_reducible exact impl_AckList.mono _ _)
   | (with_reducible exact impl_AckedBy.mono _ _ _ _ _)
   | (with_reducible exact impl_FlightOk.mono _ _ _ _)
   | (with_reducible exact impl_LeftOf.mono _ _ _ _)
   | (with_reducible exact impl_ReadAck.mono _ _)
   | (with_reducible exact impl_SaidAgain.mono _ _ _ _)
   | (with_reducible exact laws_sameFlight.mono _ _ _ _ _ _ _)
   | (with_reducible exact laws_sameInts.mono _ _ _)
   | (with_reducible exact spec_DrawFlight.mono _ _)
   | (with_reducible exact spec_DrawPlaces.mono _ _)
   | (with_reducible exact LeO.refl _)
   | (with_reducible exact LeO.none _)
   | (with_reducible refine LeO.ite ?_ ?_)
   | (with_reducible refine LeO.bind ?_ (fun _ => ?_))
   | exact ih0 _ _ _ _ _ _ _ _ _ _ _ _ _ _ _ _ _ _ _ _
   | exact impl_AckList.mono _ _
   | exact impl_AckedBy.mono _ _ _ _ _
   | exact impl_FlightOk.mono _ _ _ _
   | exact impl_LeftOf.mono _ _ _ _
   | exact impl_ReadAck.mono _ _
   | exact impl_SaidAgain.mono _ _ _ _
   | exact laws_sameFlight.mono _ _ _ _ _ _ _
   | exact laws_sameInts.mono _ _ _
   | exact spec_DrawFlight.mono _ _
   | exact spec_DrawPlaces.mono _ _
   | exact LeO.none _
   | refine LeO.ite ?_ ?_
   | refine LeO.bind ?_ (fun _ => ?_)
def laws_FnAcks.Pure : Prop := ∀ (l0 : List Int), l0.length ≤ maxLen → l0.length * 1 ≤ 140737488351232 → (∀ x ∈ l0, (Lit.int .u8 x).wf = true) → ∃ k, laws_FnAcks.f k l0 = some true
end Go.Proofs.Ytfddealjbpdehaa.A
