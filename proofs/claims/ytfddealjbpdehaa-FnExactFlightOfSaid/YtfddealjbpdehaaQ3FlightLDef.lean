-- Written by a program of this session (wip/trim.py) out of the texts that the kit's print and wip/myprint.py write for this claim.
import Derived.Test.YtfddealjbpdehaaQ3Fx0
import Derived.Test.YtfddealjbpdehaaQ3Fx1
import Derived.Test.YtfddealjbpdehaaQ3Fx2
import Derived.Test.YtfddealjbpdehaaQ3GFlightF
namespace Go.Proofs.Ytfddealjbpdehaa.F
open Go.RowKit Go.Proofs.YtfddealjbpdehaaW.PrintWords Go.Proofs.YtfddealjbpdehaaW.PrintLast Go.Proofs.YtfddealjbpdehaaW.PrintMore
attribute [local go_sem] max2_int min2_int max_two min_two max_three min_three max_four min_four
set_option linter.unusedVariables false
set_option linter.unusedSimpArgs false
def laws_FnExactFlightOf.j0 : Nat → List Int → Bool → List Int → List Int → Int → List Int → List Int → Int → Option (Bool)
 | 0, _, _, _, _, _, _, _, _ => none
 | k + 1, x0, x39, x170000, x170001, x170002, x181000, x181001, x181002 => if x39 = true then (none) else ((laws_markFlight.f k x181000 x181001 x181002 1).bind fun bt189 => ((laws_heldFlight.f k bt189.2.1 bt189.2.2 x181002 1).bind fun t192 => (if t192 < 0 then (none) else (if t192 = bt189.1 then ((laws_toIntS.f k x0).bind fun t193 => ((impl_FlightOf.f t193).bind fun bt196 => ((laws_eqFlight.f k bt196.1 bt196.2.1 bt196.2.2 x170000 x170001 x170002).bind fun t204 => (if t204 = true then ((laws_heldFlight.f k bt189.2.1 bt189.2.2 x181002 1).bind fun t205 => (if t205 < 0 then (none) else (if t205 = bt189.1 then (some true) else (none)))) else (none))))) else (none)))))
def laws_FnExactFlightOf.f (k : Nat) (l0 : List Int) : Option (Bool) := if (l0.length : Int) > 1048576 then (some true) else ((laws_toIntS.f k l0).bind fun t159 => ((spec_FlightOf.f k t159).bind fun bt162 => ((laws_toIntS.f k l0).bind fun t170 => ((impl_FlightOf.f t170).bind fun bt173 => ((laws_eqFlight.f k bt173.1 bt173.2.1 bt173.2.2 bt162.1 bt162.2.1 bt162.2.2).bind fun t181 => (if t181 = true then ((laws_toIntS.f k l0).bind fun t182 => ((laws_eqIntS.f k t170 t182).bind fun t185 => (if t185 = true then ((laws_markIntS.f k t170 1).bind fun bt186 => (if bt186.1 < 0 then (none) else ((laws_eqFlight.f k bt173.1 bt173.2.1 bt173.2.2 bt162.1 bt162.2.1 bt162.2.2).bind fun t188 => (laws_FnExactFlightOf.j0 k l0 (!t188) bt162.1 bt162.2.1 bt162.2.2 bt173.1 bt173.2.1 bt173.2.2)))) else (none)))) else (none)))))))
theorem laws_FnExactFlightOf.mono_l : ∀ k, (∀ y0 y1 y2 y3 y4 y5 y6 y7, LeO (laws_FnExactFlightOf.j0 k y0 y1 y2 y3 y4 y5 y6 y7) (laws_FnExactFlightOf.j0 (k + 1) y0 y1 y2 y3 y4 y5 y6 y7))
 | 0 => fun _ _ _ _ _ _ _ _ r h => by simp [laws_FnExactFlightOf.j0] at h
 | k + 1 => by
  have ih0 := laws_FnExactFlightOf.mono_l k
  ·
   intro y0 y1 y2 y3 y4 y5 y6 y7
   unfold laws_FnExactFlightOf.j0
   repeat' first
   | (with_reducible exact ih0 _ _ _ _ _ _ _ _)
   | (with_reducible exact laws_eqFlight.mono _ _ _ _ _ _ _)
   | (with_reducible exact laws_eqIntS.mono _ _ _)
   | (with_reducible exact laws_heldFlight.mono _ _ _ _ _)
   | (with_reducible exact laws_markFlight.mono _ _ _ _ _)
   | (with_reducible exact laws_markIntS.mono _ _ _)
   | (with_reducible exact laws_toIntS.mono _ _)
   | (with_reducible exact spec_FlightOf.mono _ _)
   | (with_reducible exact LeO.refl _)
   | (with_reducible exact LeO.none _)
   | (with_reducible refine LeO.ite ?_ ?_)
   | (with_reducible refine LeO.bind ?_ (fun _ => ?_))
   | exact ih0 _ _ _ _ _ _ _ _
   | exact laws_eqFlight.mono _ _ _ _ _ _ _
   | exact laws_eqIntS.mono _ _ _
   | exact laws_heldFlight.mono _ _ _ _ _
   | exact laws_markFlight.mono _ _ _ _ _
   | exact laws_markIntS.mono _ _ _
   | exact laws_toIntS.mono _ _
   | exact spec_FlightOf.mono _ _
   | exact LeO.none _
   | refine LeO.ite ?_ ?_
   | refine LeO.bind ?_ (fun _ => ?_)
theorem laws_FnExactFlightOf.mono : ∀ a0 k, LeO (laws_FnExactFlightOf.f k a0) (laws_FnExactFlightOf.f (k + 1) a0) := by
 intro a0 k
 have ih0 := laws_FnExactFlightOf.mono_l k
 unfold laws_FnExactFlightOf.f
 repeat' first
   | (with_reducible exact ih0 _ _ _ _ _ _ _ _)
   | (with_reducible exact laws_eqFlight.mono _ _ _ _ _ _ _)
   | (with_reducible exact laws_eqIntS.mono _ _ _)
   | (with_reducible exact laws_heldFlight.mono _ _ _ _ _)
   | (with_reducible exact laws_markFlight.mono _ _ _ _ _)
   | (with_reducible exact laws_markIntS.mono _ _ _)
   | (with_reducible exact laws_toIntS.mono _ _)
   | (with_reducible exact spec_FlightOf.mono _ _)
   | (with_reducible exact LeO.refl _)
   | (with_reducible exact LeO.none _)
   | (with_reducible refine LeO.ite ?_ ?_)
   | (with_reducible refine LeO.bind ?_ (fun _ => ?_))
   | exact ih0 _ _ _ _ _ _ _ _
   | exact laws_eqFlight.mono _ _ _ _ _ _ _
   | exact laws_eqIntS.mono _ _ _
   | exact laws_heldFlight.mono _ _ _ _ _
   | exact laws_markFlight.mono _ _ _ _ _
   | exact laws_markIntS.mono _ _ _
   | exact laws_toIntS.mono _ _
   | exact spec_FlightOf.mono _ _
   | exact LeO.none _
   | refine LeO.ite ?_ ?_
   | refine LeO.bind ?_ (fun _ => ?_)
def laws_FnExactFlightOf.Pure : Prop := ∀ (l0 : List Int), l0.length ≤ maxLen → l0.length * 8 ≤ 140737488351232 → (∀ x ∈ l0, (Lit.int .i64 x).wf = true) → ∃ k, laws_FnExactFlightOf.f k l0 = some true
end Go.Proofs.Ytfddealjbpdehaa.F
