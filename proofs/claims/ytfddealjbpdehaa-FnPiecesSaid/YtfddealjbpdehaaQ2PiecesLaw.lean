-- Written by a program of this session (wip/trim.py) out of the texts that the kit's print and wip/myprint.py write for this claim.
import Derived.Test.YtfddealjbpdehaaQ2PiecesDef
import Derived.Test.YtfddealjbpdehaaQ2Bx0
import Derived.Test.YtfddealjbpdehaaQ2Bx1
import Derived.Test.YtfddealjbpdehaaQ2Bx2
import Derived.Test.YtfddealjbpdehaaQ2Bx3
import Derived.Test.YtfddealjbpdehaaQ2Bx4
import Derived.Test.YtfddealjbpdehaaQ2Bx5
import Derived.Test.YtfddealjbpdehaaQ2Bx6
import Derived.Test.YtfddealjbpdehaaQ2Bx7
namespace Go.Proofs.Ytfddealjbpdehaa.B
open Go.RowKit Go.Proofs.YtfddealjbpdehaaW.PrintWords Go.Proofs.YtfddealjbpdehaaW.PrintLast Go.Proofs.YtfddealjbpdehaaW.PrintMore
attribute [local go_sem] max2_int min2_int max_two min_two max_three min_three max_four min_four
set_option linter.unusedVariables false
set_option linter.unusedSimpArgs false
attribute [local go_sem high] eqA36
def laws_FnPieces.T5 : Bool × List (List Nat × List Nat) := (true, [([], []), ([0], [0]), ([1], [1]), ([2], [2]), ([], []), ([], []), ([5], [5]), ([6], [6]), ([7], [7]), ([8], [8]), ([3, 4, 9], [3, 4, 9]), ([10], [10]), ([11], [11]), ([11], [11]), ([12, 10, 0, 1, 2, 3, 4, 5, 6, 7, 8, 9, 10, 11, 12], [12]), ([13, 14, 0, 1, 2, 3, 4, 5, 6, 7, 8, 9, 10, 11, 12, 13, 14], [13])])
def laws_FnPieces.B5 : List Nat := [0, 1, 3, 7, 0, 0, 32, 96, 224, 480, 1023, 2047, 4095, 4095, 8191, 32767]
theorem laws_FnPieces.tab5 : rtab .any (opsOf Try.f3 5) = laws_FnPieces.T5 := by kernel_rfl
theorem laws_FnPieces.bits5 : waitsOk laws_FnPieces.T5.2 laws_FnPieces.B5 = true := by kernel_rfl
def laws_FnPieces.T14 : Bool × List (List Nat × List Nat) := (true, [([], []), ([0], [0]), ([1], [1]), ([2], [2]), ([3, 2], [2, 3]), ([2, 4], [2, 4]), ([5, 2], [5]), ([6], [6]), ([6], [6]), ([6], [6]), ([8, 9, 6], [6, 8, 9]), ([10, 6], [6, 10]), ([7, 11, 6], [6, 7, 11]), ([6, 12], [6, 12]), ([13, 6], [13]), ([14], [14]), ([15, 14, 14], [14, 15]), ([16, 14], [14, 16]), ([14, 17], [14, 17])])
def laws_FnPieces.B14 : List Nat := [0, 1, 3, 7, 15, 31, 63, 127, 127, 127, 895, 1919, 4095, 8191, 16383, 32767, 65535, 131071, 262143]
theorem laws_FnPieces.tab14 : rtab .any (opsOf Try.f3 14) = laws_FnPieces.T14 := by kernel_rfl
theorem laws_FnPieces.bits14 : waitsOk laws_FnPieces.T14.2 laws_FnPieces.B14 = true := by kernel_rfl
def laws_FnPieces.T16 : Bool × List (List Nat × List Nat) := (true, [([], []), ([], []), ([], []), ([1, 2], [1, 2]), ([3], [3]), ([0, 4], [0, 4]), ([5], [5]), ([6], [6]), ([6], [6]), ([], []), ([9, 7, 5, 0, 1, 2, 3, 4, 5, 6, 7, 9], [7, 9]), ([8, 10, 0, 1, 2, 3, 4, 5, 6, 7, 8, 9, 10], [8])])
def laws_FnPieces.B16 : List Nat := [0, 0, 0, 6, 14, 31, 63, 127, 127, 0, 767, 2047]
theorem laws_FnPieces.tab16 : rtab .any (opsOf Try.f3 16) = laws_FnPieces.T16 := by kernel_rfl
theorem laws_FnPieces.bits16 : waitsOk laws_FnPieces.T16.2 laws_FnPieces.B16 = true := by kernel_rfl
def laws_FnPieces.T17 : Bool × List (List Nat × List Nat) := (true, [([], []), ([], []), ([], []), ([2], [2]), ([3], [3]), ([], []), ([5], [5]), ([4, 6], [4, 6]), ([1, 7], [1, 7]), ([8], [8]), ([0, 9], [0, 9]), ([10], [10]), ([11], [11]), ([11], [11]), ([], []), ([14, 12, 10, 0, 1, 2, 3, 4, 5, 6, 7, 8, 9, 10, 11, 12, 14], [12, 14]), ([13, 15, 0, 1, 2, 3, 4, 5, 6, 7, 8, 9, 10, 11, 12, 13, 14, 15], [13])])
def laws_FnPieces.B17 : List Nat := [0, 0, 0, 4, 12, 0, 32, 124, 254, 510, 1023, 2047, 4095, 4095, 0, 24575, 65535]
theorem laws_FnPieces.tab17 : rtab .any (opsOf Try.f3 17) = laws_FnPieces.T17 := by kernel_rfl
theorem laws_FnPieces.bits17 : waitsOk laws_FnPieces.T17.2 laws_FnPieces.B17 = true := by kernel_rfl
theorem far4 {W : World} {g : Nat} {a : Addr} (h : a.block ≠ g) (u0 u1 u2 u3 : Value) : ((((W.setCell ⟨g, 0, none⟩ u0).setCell ⟨g, 1, none⟩ u1).setCell ⟨g, 2, none⟩ u2).setCell ⟨g, 3, none⟩ u3).cell? a = W.cell? a :=
 (cell_far (p := ⟨g, 3, none⟩) h u3).trans ((cell_far (p := ⟨g, 2, none⟩) h u2).trans ((cell_far (p := ⟨g, 1, none⟩) h u1).trans (cell_far (p := ⟨g, 0, none⟩) h u0)))
set_option maxHeartbeats 8000000 in
set_option maxRecDepth 100000 in
theorem laws_FnPieces.calls (k : Nat) (A0 : Option Addr) (c0 : Nat) (l0 : List Int) (r : Bool) (w : World) (hr0 : Kd.C (Kd.int .u8) w A0 l0.length l0) (hc0 : l0.length ≤ c0) (h : laws_FnPieces.f k l0 = some r) :
  Calls Try.prog 3 #[.slice A0 l0.length c0] w fun e w' => e = .returned (.bool r) ∧ Below w.heap.size w w' := by
 have hu36 := Try.underlying36
 have hu32 := Try.underlying32
 have HR0 := Aside0.mk hr0
 have HC0 := Aside0.mk hc0
 clear hr0 hc0
 have HB := Aside0.mk (Below.refl w.heap.size w)
 have H : ((laws_big.f l0).bind fun t296 => (if t296 = true then (some true) else ((spec_DrawTextOf.f k l0).bind fun t297 => ((spec_DrawPlaces.f k l0).bind fun t298 => (if 0 < (t298.length : Int) then (if 1 < (t298.length : Int) then ((impl_CutParts.f k (Int.tmod (rd t298 0) 60000) t297 (wrap64 (1 + (Int.tmod (rd t298 1) 40)))).bind fun bt303 => (if bt303.2 = true then (laws_FnPieces.j0 k t297 t298 bt303.1 ((bt303.1.length : Int) == 0)) else (none))) else (none)) else (none)))))) = some r := h
 clear h
 replace H := Option.bind_eq_some_iff.mp H
 obtain ⟨t296, A20, H⟩ := H
 replace H : (if t296 = true then (some true) else ((spec_DrawTextOf.f k l0).bind fun t297 => ((spec_DrawPlaces.f k l0).bind fun t298 => (if 0 < (t298.length : Int) then (if 1 < (t298.length : Int) then ((impl_CutParts.f k (Int.tmod (rd t298 0) 60000) t297 (wrap64 (1 + (Int.tmod (rd t298 1) 40)))).bind fun bt303 => (if bt303.2 = true then (laws_FnPieces.j0 k t297 t298 bt303.1 ((bt303.1.length : Int) == 0)) else (none))) else (none)) else (none))))) = some r := H
 have A2 := Aside0.mk A20
 clear A20
 by_cases c3 : t296 = true
 ·
  subst c3
  have H1 : (some true) = some r := by rw [if_pos rfl] at H; exact H
  clear H
  have H := H1
  clear H1
  obtain rfl := Option.some.inj H
  go_enter Try.func3, Try.ntmps3
  go_wp2_with (first | ((with_reducible refine gate_callee (f := 11) rfl ?_); refine goesL_ (some 21) rfl rfl Try.func11 (by kernel_rfl) rfl #[.slice A0 l0.length c0] rfl (by (try simp only [List.map_toArray, List.map_cons, List.map_nil]); first | done | rfl | (simp only [List.length_drop, List.length_take]; rfl)) ?_; (with_reducible refine (laws_big.calls _ _ l0 true _ ?side1 ?side2 A2.out).mono ?_); (case side1 => repeat (first | exact HR0.out | (with_reducible refine Kd.C_alloc ?_ _) | (with_reducible refine Kd.C_drewN ?_ _) | (with_reducible refine Kd.C_drew ?_))); (case side2 => exact HC0.out); rintro e w' ⟨rfl, ⟨nd, rfl⟩⟩; refine ⟨_, rfl, ?_⟩))
  go_ret
  exact ⟨by first | rfl | (simp [errW_none, errW_some] <;> rfl) | (simp [*, errW_none, errW_some] <;> rfl), by repeat (first | (with_reducible first | exact HB.out | apply below_alloc | apply pw_below_drewN | apply below_drew1) | exact HB.out)⟩
 ·
  replace c3 := Bool.eq_false_iff.mpr c3
  subst c3
  have H1 : ((spec_DrawTextOf.f k l0).bind fun t297 => ((spec_DrawPlaces.f k l0).bind fun t298 => (if 0 < (t298.length : Int) then (if 1 < (t298.length : Int) then ((impl_CutParts.f k (Int.tmod (rd t298 0) 60000) t297 (wrap64 (1 + (Int.tmod (rd t298 1) 40)))).bind fun bt303 => (if bt303.2 = true then (laws_FnPieces.j0 k t297 t298 bt303.1 ((bt303.1.length : Int) == 0)) else (none))) else (none)) else (none)))) = some r := by rw [if_neg (show ¬ (false = true) by decide)] at H; exact H
  clear H
  have H := H1
  clear H1
  replace H := Option.bind_eq_some_iff.mp H
  obtain ⟨t297, A40, H⟩ := H
  replace H : ((spec_DrawPlaces.f k l0).bind fun t298 => (if 0 < (t298.length : Int) then (if 1 < (t298.length : Int) then ((impl_CutParts.f k (Int.tmod (rd t298 0) 60000) t297 (wrap64 (1 + (Int.tmod (rd t298 1) 40)))).bind fun bt303 => (if bt303.2 = true then (laws_FnPieces.j0 k t297 t298 bt303.1 ((bt303.1.length : Int) == 0)) else (none))) else (none)) else (none))) = some r := H
  have A4 := Aside0.mk A40
  clear A40
  replace H := Option.bind_eq_some_iff.mp H
  obtain ⟨t298, A50, H⟩ := H
  replace H : (if 0 < (t298.length : Int) then (if 1 < (t298.length : Int) then ((impl_CutParts.f k (Int.tmod (rd t298 0) 60000) t297 (wrap64 (1 + (Int.tmod (rd t298 1) 40)))).bind fun bt303 => (if bt303.2 = true then (laws_FnPieces.j0 k t297 t298 bt303.1 ((bt303.1.length : Int) == 0)) else (none))) else (none)) else (none)) = some r := H
  have A5 := Aside0.mk A50
  clear A50
  by_cases c6 : 0 < (t298.length : Int)
  ·
   rw [if_pos c6] at H
   have c6b0 : decide (0 < (t298.length : Int)) = true := decide_eq_true c6
   have c6b1 : decide (0 < t298.length) = true := decide_eq_true (by omega)
   clear c6
   by_cases c7 : 1 < (t298.length : Int)
   ·
    rw [if_pos c7] at H
    have c7b0 : decide (1 < (t298.length : Int)) = true := decide_eq_true c7
    have c7b1 : decide (1 < t298.length) = true := decide_eq_true (by omega)
    clear c7
    replace H := Option.bind_eq_some_iff.mp H
    obtain ⟨⟨t303, t304⟩, A80, H⟩ := H
    replace H : (if t304 = true then (laws_FnPieces.j0 k t297 t298 t303 ((t303.length : Int) == 0)) else (none)) = some r := H
    have A8 := Aside0.mk A80
    clear A80
    have HC9 := Aside0.mk H
    clear H
    go_enter Try.func3, Try.ntmps3
    try go_wp2_with (first | ((with_reducible refine gate_callee (f := 11) rfl ?_); refine goesL_ (some 21) rfl rfl Try.func11 (by kernel_rfl) rfl #[.slice A0 l0.length c0] rfl (by (try simp only [List.map_toArray, List.map_cons, List.map_nil]); first | done | rfl | (simp only [List.length_drop, List.length_take]; rfl)) ?_; (with_reducible refine (laws_big.calls _ _ l0 false _ ?side1 ?side2 A2.out).mono ?_); (case side1 => repeat (first | exact HR0.out | (with_reducible refine Kd.C_alloc ?_ _) | (with_reducible refine Kd.C_drewN ?_ _) | (with_reducible refine Kd.C_drew ?_))); (case side2 => exact HC0.out); rintro e w' ⟨rfl, ⟨nd, rfl⟩⟩; refine ⟨_, rfl, ?_⟩) | ((with_reducible refine gate_callee (f := 12) rfl ?_); refine goesL_ (some 23) rfl rfl Try.func12 (by kernel_rfl) rfl #[.slice A0 l0.length c0] rfl (by (try simp only [List.map_toArray, List.map_cons, List.map_nil]); first | done | rfl | (simp only [List.length_drop, List.length_take]; rfl)) ?_; (with_reducible refine (spec_DrawTextOf.calls k _ _ l0 t297 _ ?side1 ?side2 A4.out).mono ?_); (case side1 => repeat (first | exact HR0.out | (with_reducible refine Kd.C_alloc ?_ _) | (with_reducible refine Kd.C_drewN ?_ _) | (with_reducible refine Kd.C_drew ?_))); (case side2 => exact HC0.out); rintro e w10 ⟨rfl, hb⟩; refine ⟨_, rfl, ?_⟩; have n0_ := Aside0.mk (below_step (by repeat (first | (with_reducible first | exact HB.out | apply below_alloc | apply pw_below_drewN | apply below_drew1) | exact HB.out)) hb); clear HB; have HB := n0_; clear n0_; (try clear hb); (try clear hb2); (try clear hk); (try clear hi)) | ((with_reducible refine gate_callee (f := 13) rfl ?_); refine goesL_ (some 25) rfl rfl Try.func13 (by kernel_rfl) rfl #[.slice A0 l0.length c0] rfl (by (try simp only [List.map_toArray, List.map_cons, List.map_nil]); first | done | rfl | (simp only [List.length_drop, List.length_take]; rfl)) ?_; (with_reducible refine (spec_DrawPlaces.calls k _ _ l0 t298 _ ?side1 ?side2 A5.out).mono ?_); (case side1 => repeat (first | exact (Kd.C_below HR0.out HB.out) | (with_reducible refine Kd.C_alloc ?_ _) | (with_reducible refine Kd.C_drewN ?_ _) | (with_reducible refine Kd.C_drew ?_))); (case side2 => exact HC0.out); rintro e w11 ⟨v299, rfl, ho0, hb⟩; refine ⟨_, rfl, ?_⟩; have n0_ := Aside0.mk (Kd.R_lower ho0 (below_size (by repeat (first | (with_reducible first | exact HB.out | apply below_alloc | apply pw_below_drewN | apply below_drew1) | exact HB.out)))); have n1_ := Aside0.mk (below_step (by repeat (first | (with_reducible first | exact HB.out | apply below_alloc | apply pw_below_drewN | apply below_drew1) | exact HB.out)) hb); clear HB; have HO300 := n0_; have HB := n1_; clear n0_ n1_; (try clear hb); (try clear hb2); (try clear hk); (try clear hi); (try clear ho0)))
    have n0_ := Aside0.mk (Kd.R_drew HO300.out)
    have n1_ := Aside0.mk (below_drew1 HB.out)
    clear HO300
    clear HB
    have HO300 := n0_
    have HB := n1_
    clear n0_ n1_
    obtain ⟨Ao13, co13, eo13⟩ := Kd.R_slice HO300.out
    (first | subst eo13 | (injection eo13 with f1_ f2_ f3_; have f4_ := f1_.symm; have f5_ := f3_.symm; clear f1_ f2_ f3_; subst f4_; subst f5_))
    have p301 : 0 ≤ (0 : Int) := (by omega)
    have q301 : 0 < (t298.length : Int) := of_decide_eq_true (by first | (with_reducible assumption) | assumption)
    obtain ⟨ad301, e301, hx301_0⟩ := Kd.at_int (Kd.R_reads' HO300.out).2.2 0 p301 q301
    cases e301
    have qi301 : (0 < t298.length) = True := eq_true (by omega)
    (try rw [show ((0 : Int)).toNat = 0 from rfl] at hx301_0)
    (try rw [Addr.add_zero'] at hx301_0)
    replace p301 := eq_true p301
    replace q301 := eq_true q301
    have p302 : 0 ≤ (1 : Int) := (by omega)
    have q302 : 1 < (t298.length : Int) := of_decide_eq_true (by first | (with_reducible assumption) | assumption)
    obtain ⟨ad302, e302, hx302_0⟩ := Kd.at_int (Kd.R_reads' HO300.out).2.2 1 p302 q302
    obtain rfl : ad301 = ad302 := (by injection e302)
    (try simp only [show (1 : Int).toNat = 1 from rfl, Nat.reduceMul, Nat.reduceEqDiff, Go.Addr.add, ↓reduceIte] at hx302_0)
    have qi302 : (1 < t298.length) = True := eq_true (by omega)
    (try rw [show ((1 : Int)).toNat = 1 from rfl] at hx302_0)
    replace p302 := eq_true p302
    replace q302 := eq_true q302
    refine start_ (n := 16) (S := fun w' => w'.cell? ad301 = some (.int .i64 (rd t298 0)) ∧ w'.cell? ⟨ad301.block, ad301.off + 1, none⟩ = some (.int .i64 (rd t298 1))) (ds := []) #[false, false, false, false, false, false, false, false, false, false, false, false, false, false, false, false] (by kernel_rfl) rfl rfl ⟨hx301_0, hx302_0⟩ (fun hHeld => ?_); refine with_tabW laws_FnPieces.tab5 laws_FnPieces.bits5 (fun HT_ HW_ => ?_)
    generalize w11.drew = w12 at HO300 HB hx301_0 hx302_0 hHeld ⊢
    refine pure_ (i := 0) (N := some 27) (v := ?_) (a' := ?_) #[true, false, false, false, false, false, false, false, false, false, false, false, false, false, false, false] rfl rfl (any_of HT_.out (by kernel_rfl)) (fun _ _ _ h => h) (Or.inl ⟨by rfl, ?_⟩) ?_ ?_
    rotate_left
    ·
     intro w'
     go_simp
     with_reducible rfl
    rotate_left
    ·
     simp only [Act.put, List.setIfInBounds_toArray, List.set_cons_zero, List.set_cons_succ, i64_w, i32_w]
     rfl
    refine pure_ (i := 1) (N := some 28) (v := ?_) (a' := ?_) #[true, true, false, false, false, false, false, false, false, false, false, false, false, false, false, false] rfl rfl (any_of HT_.out (by kernel_rfl)) (fun _ _ _ h => h) (Or.inl ⟨by rfl, ?_⟩) ?_ ?_
    rotate_left
    ·
     intro w'
     go_simp
     with_reducible rfl
    rotate_left
    ·
     simp only [Act.put, List.setIfInBounds_toArray, List.set_cons_zero, List.set_cons_succ, i64_w, i32_w]
     rfl
    refine pure_ (i := 4) (N := some 31) (v := ?_) (a' := ?_) #[true, true, false, false, true, false, false, false, false, false, false, false, false, false, false, false] rfl rfl (any_of HT_.out (by kernel_rfl)) (fun _ _ _ h => h) (Or.inl ⟨by rfl, ?_⟩) ?_ ?_
    rotate_left
    ·
     intro w'
     go_simp
     with_reducible rfl
    rotate_left
    ·
     simp only [Act.put, List.setIfInBounds_toArray, List.set_cons_zero, List.set_cons_succ, i64_w, i32_w]
     rfl
    refine pure_ (i := 5) (N := some 32) (v := ?_) (a' := ?_) #[true, true, false, false, true, true, false, false, false, false, false, false, false, false, false, false] rfl rfl (any_of HT_.out (by kernel_rfl)) (fun _ _ _ h => h) (Or.inl ⟨by rfl, ?_⟩) ?_ ?_
    rotate_left
    ·
     intro w'
     go_simp
     with_reducible rfl
    rotate_left
    ·
     simp only [Act.put, List.setIfInBounds_toArray, List.set_cons_zero, List.set_cons_succ, i64_w, i32_w]
     rfl
    refine pure_ (i := 6) (N := some 33) (v := ?_) (a' := ?_) #[true, true, false, false, true, true, true, false, false, false, false, false, false, false, false, false] rfl rfl (any_of HT_.out (by kernel_rfl)) (fun _ _ _ h => h) (Or.inl ⟨by rfl, ?_⟩) ?_ ?_
    rotate_left
    ·
     intro w'
     go_simp
     with_reducible rfl
    rotate_left
    ·
     simp only [Act.put, List.setIfInBounds_toArray, List.set_cons_zero, List.set_cons_succ, i64_w, i32_w]
     rfl
    refine take_ (i := 2) (N := some 29) (v := ?_) (a' := ?_) #[true, true, true, false, true, true, true, false, false, false, false, false, false, false, false, false] rfl rfl (take_ofW HT_.out HW_.out (by kernel_rfl)) (fun _ _ _ h => h) (Or.inl ⟨by rfl, ?_⟩) hHeld ?_ ?_
    rotate_left
    ·
     rintro w' ⟨s0, s1⟩
     go_simp
     with_reducible rfl
    rotate_left
    ·
     simp only [Act.put, List.setIfInBounds_toArray, List.set_cons_zero, List.set_cons_succ, i64_w, i32_w]
     rfl
    refine pure_ (i := 3) (N := some 30) (v := ?_) (a' := ?_) #[true, true, true, true, true, true, true, false, false, false, false, false, false, false, false, false] rfl rfl (any_of HT_.out (by kernel_rfl)) (fun _ _ _ h => h) (Or.inl ⟨by rfl, ?_⟩) ?_ ?_
    rotate_left
    ·
     intro w'
     go_simp
     with_reducible rfl
    rotate_left
    ·
     simp only [Act.put, List.setIfInBounds_toArray, List.set_cons_zero, List.set_cons_succ, i64_w, i32_w]
     rfl
    refine take_ (i := 7) (N := some 34) (v := ?_) (a' := ?_) #[true, true, true, true, true, true, true, true, false, false, false, false, false, false, false, false] rfl rfl (take_ofW HT_.out HW_.out (by kernel_rfl)) (fun _ _ _ h => h) (Or.inl ⟨by rfl, ?_⟩) hHeld ?_ ?_
    rotate_left
    ·
     rintro w' ⟨s0, s1⟩
     go_simp
     with_reducible rfl
    rotate_left
    ·
     simp only [Act.put, List.setIfInBounds_toArray, List.set_cons_zero, List.set_cons_succ, i64_w, i32_w]
     rfl
    refine pure_ (i := 8) (N := some 35) (v := ?_) (a' := ?_) #[true, true, true, true, true, true, true, true, true, false, false, false, false, false, false, false] rfl rfl (any_of HT_.out (by kernel_rfl)) (fun _ _ _ h => h) (Or.inl ⟨by rfl, ?_⟩) ?_ ?_
    rotate_left
    ·
     intro w'
     go_simp
     with_reducible rfl
    rotate_left
    ·
     simp only [Act.put, List.setIfInBounds_toArray, List.set_cons_zero, List.set_cons_succ, i64_w, i32_w]
     rfl
    refine pure_ (i := 9) (N := some 36) (v := ?_) (a' := ?_) #[true, true, true, true, true, true, true, true, true, true, false, false, false, false, false, false] rfl rfl (any_of HT_.out (by kernel_rfl)) (fun _ _ _ h => h) (Or.inl ⟨by rfl, ?_⟩) ?_ ?_
    rotate_left
    ·
     intro w'
     go_simp
     with_reducible rfl
    rotate_left
    ·
     simp only [Act.put, List.setIfInBounds_toArray, List.set_cons_zero, List.set_cons_succ, i64_w, i32_w]
     rfl
    refine one_ (i := 10) (N := some 37) #[true, true, true, true, true, true, true, true, true, true, true, false, false, false, false, false] rfl rfl (one_of HT_.out (by kernel_rfl)) (by decide) (fun K hK => ?_)
    refine goes_ Try.func14 (by kernel_rfl) rfl #[.int .i64 (Int.tmod (rd t298 0) 60000), .string t297, .int .i64 (wrap64 (1 + (Int.tmod (rd t298 1) 40)))] (by rfl) rfl rfl (by (try simp only [List.map_toArray, List.map_cons, List.map_nil]); first | done | rfl | (simp only [List.length_drop, List.length_take]; rfl)) ?_
    with_reducible refine (impl_CutParts.calls k (Int.tmod (rd t298 0) 60000) t297 (wrap64 (1 + (Int.tmod (rd t298 1) 40))) t303 t304 _ A8.out).mono ?_
    rintro e w14 ⟨v305, rfl, ho0, hb⟩
    have HS0_ := (hb.cell (World.block_lt_of_cell? _ _ (hHeld.1))).trans (hHeld.1)
    have HS1_ := (hb.cell (World.block_lt_of_cell? _ _ (hHeld.2))).trans (hHeld.2)
    refine ⟨_, rfl, ?_⟩
    have n0_ := Aside0.mk (Kd.R_below (by (with_reducible repeat (first | apply Kd.R_alloc | apply Kd.R_drewN | apply Kd.R_drew)); exact HO300.out) hb)
    have n1_ := Aside0.mk (Kd.R_lower ho0 (below_size (by repeat (first | (with_reducible first | exact HB.out | apply below_alloc | apply pw_below_drewN | apply below_drew1) | exact HB.out))))
    have n2_ := Aside0.mk (below_step (by repeat (first | (with_reducible first | exact HB.out | apply below_alloc | apply pw_below_drewN | apply below_drew1) | exact HB.out)) hb)
    clear HO300
    clear HB
    have HO300 := n0_
    have HO306 := n1_
    have HB := n2_
    clear n0_ n1_ n2_
    (try clear hb)
    (try clear hb2)
    (try clear hk)
    (try clear hi)
    (try clear ho0)
    refine hK.out _ _ ⟨HS0_, HS1_⟩ (fun hHeld => ?_)
    clear hK K
    refine norm_ (a' := ?_) ?_ ?_
    rotate_left
    ·
     show Act.put _ (some 37) _ = _
     simp only [Act.put, List.setIfInBounds_toArray, List.set_cons_zero, List.set_cons_succ, i64_w, i32_w]
     rfl
    refine pure_ (i := 11) (N := some 26) (v := ?_) (a' := ?_) #[true, true, true, true, true, true, true, true, true, true, true, true, false, false, false, false] rfl rfl (any_of HT_.out (by kernel_rfl)) (fun _ _ _ h => h) (Or.inl ⟨by rfl, ?_⟩) ?_ ?_
    rotate_left
    ·
     intro w'
     go_simp
     with_reducible rfl
    rotate_left
    ·
     simp only [Act.put, List.setIfInBounds_toArray, List.set_cons_zero, List.set_cons_succ, i64_w, i32_w]
     rfl
    refine pure_ (i := 12) (N := some 38) (v := ?_) (a' := ?_) #[true, true, true, true, true, true, true, true, true, true, true, true, true, false, false, false] rfl rfl (any_of HT_.out (by kernel_rfl)) (fun _ _ _ h => h) (Or.inl ⟨by rfl, ?_⟩) ?_ ?_
    rotate_left
    ·
     intro w'
     go_simp
     with_reducible rfl
    rotate_left
    ·
     simp only [Act.put, List.setIfInBounds_toArray, List.set_cons_zero, List.set_cons_succ, i64_w, i32_w]
     rfl
    refine pure_ (i := 13) (N := some 39) (v := ?_) (a' := ?_) #[true, true, true, true, true, true, true, true, true, true, true, true, true, true, false, false] rfl rfl (any_of HT_.out (by kernel_rfl)) (fun _ _ _ h => h) (Or.inl ⟨by rfl, ?_⟩) ?_ ?_
    rotate_left
    ·
     intro w'
     go_simp
     with_reducible rfl
    rotate_left
    ·
     simp only [Act.put, List.setIfInBounds_toArray, List.set_cons_zero, List.set_cons_succ, i64_w, i32_w]
     rfl
    refine pure_ (i := 14) (N := some 5) (v := ?_) (a' := ?_) #[true, true, true, true, true, true, true, true, true, true, true, true, true, true, true, false] rfl rfl (any_of HT_.out (by kernel_rfl)) (fun _ _ _ h => h) (Or.inl ⟨by rfl, ?_⟩) ?_ ?_
    rotate_left
    ·
     intro w'
     go_simp
     with_reducible rfl
    rotate_left
    ·
     simp only [Act.put, List.setIfInBounds_toArray, List.set_cons_zero, List.set_cons_succ, i64_w, i32_w]
     rfl
    refine pure_ (i := 15) (N := some 6) (v := ?_) (a' := ?_) #[true, true, true, true, true, true, true, true, true, true, true, true, true, true, true, true] rfl rfl (any_of HT_.out (by kernel_rfl)) (fun _ _ _ h => h) (Or.inl ⟨by rfl, ?_⟩) ?_ ?_
    rotate_left
    ·
     intro w'
     go_simp
     with_reducible rfl
    rotate_left
    ·
     simp only [Act.put, List.setIfInBounds_toArray, List.set_cons_zero, List.set_cons_succ, i64_w, i32_w]
     rfl
    refine done_ (done_of HT_.out (by kernel_rfl)) ?_
    go_upto_region 6 with (fail)
    go_cut [46] (fun v46 wc => ∃ (kq : Nat) (x46_8 : Bool), v46 = .bool x46_8 ∧ Aside0 (laws_FnPieces.j0 kq t297 t298 t303 x46_8 = some r) ∧ Aside0 (kq ≤ k) ∧ Aside0 (Kd.R (Kd.int .i64) 3 wc w.heap.size (fun _ => True) (.slice (some ad301) t298.length co13) t298) ∧ Aside0 (Kd.R k36 36 wc w.heap.size (fun _ => True) v305 t303) ∧ Aside0 (Below w.heap.size w wc))
    case first =>
     have H := HC9.out
     clear HC9
     by_cases c15 : t304 = true
     ·
      subst c15
      have H1 : (laws_FnPieces.j0 k t297 t298 t303 ((t303.length : Int) == 0)) = some r := by rw [if_pos rfl] at H; exact H
      clear H
      have H := H1
      clear H1
      have H' := Aside0.mk H
      clear H
      obtain ⟨Ao16, co16, eo16⟩ := Kd.R_slice HO306.out
      subst eo16
      go_wp2
      go_meet
      case rel => exact ⟨_, (((t303.length : Int) == 0)), (by first | rfl | (simp; done) | (simp [*]; done)), H', ⟨by first | omega | exact Nat.le_refl _⟩, ⟨by (with_reducible repeat (first | apply Kd.R_alloc | apply Kd.R_drewN | apply Kd.R_drew)); exact HO300.out⟩, ⟨by (with_reducible repeat (first | apply Kd.R_alloc | apply Kd.R_drewN | apply Kd.R_drew)); exact HO306.out⟩, ⟨by repeat (first | (with_reducible first | exact HB.out | apply below_alloc | apply pw_below_drewN | apply below_drew1) | exact HB.out)⟩⟩
     ·
      replace c15 := Bool.eq_false_iff.mpr c15
      subst c15
      have H1 : (none) = some r := by rw [if_neg (show ¬ (false = true) by decide)] at H; exact H
      clear H
      have H := H1
      clear H1
      exact absurd H (by simp)
    case rest =>
     clear HC9
     try clear c1
     try clear p2
     try clear c3
     try clear p3
     try clear q3
     try clear hx3
     try clear qi3
     try clear c6
     try clear c6b0
     try clear c6b1
     try clear p6
     try clear c7
     try clear c7b0
     try clear c7b1
     try clear c11
     try clear c12
     try clear c13
     try clear c14
     try clear c15
     try clear hx301_0
     try clear hx302_0
     try clear p301
     try clear p302
     try clear q301
     try clear q302
     obtain ⟨kq, x46_8, rfl, HA, HJ8, HO_4, HO_5, HB⟩ := hcut
     cases kq with
     | zero => exact absurd HA.out (by simp [laws_FnPieces.j0])
     | succ kj8 =>
      have H := HA.out
      clear HA
      simp only [laws_FnPieces.j0] at H
      by_cases c17 : x46_8 = true
      ·
       subst c17
       have H1 : (none) = some r := by rw [if_pos rfl] at H; exact H
       clear H
       have H := H1
       clear H1
       exact absurd H (by simp)
      ·
       replace c17 := Bool.eq_false_iff.mpr c17
       subst c17
       have H1 : (if 2 < (t298.length : Int) then (if (t303.length : Int) = 0 then (none) else (if 0 ≤ (Int.tmod (rd t298 2) (t303.length : Int)) then (if (Int.tmod (rd t298 2) (t303.length : Int)) < (t303.length : Int) then ((impl_BoxOf.f kj8 ((rd_T36 t303 (Int.tmod (rd t298 2) (t303.length : Int))).f0) ((rd_T36 t303 (Int.tmod (rd t298 2) (t303.length : Int))).f1) ((rd_T36 t303 (Int.tmod (rd t298 2) (t303.length : Int))).f2) ((rd_T36 t303 (Int.tmod (rd t298 2) (t303.length : Int))).f3)).bind fun bt309 => (laws_FnPieces.l0 kj8 t297 t298 t303 bt309.2.2.2.2 (wrap64 ((t303.length : Int) - 1)) bt309.1 bt309.2.1 bt309.2.2.1 bt309.2.2.2.1)) else (none)) else (none))) else (none)) = some r := by rw [if_neg (show ¬ (false = true) by decide)] at H; exact H
       clear H
       have H := H1
       clear H1
       by_cases c18 : 2 < (t298.length : Int)
       ·
        rw [if_pos c18] at H
        have c18b0 : decide (2 < (t298.length : Int)) = true := decide_eq_true c18
        have c18b1 : decide (2 < t298.length) = true := decide_eq_true (by omega)
        clear c18
        by_cases c19 : (t303.length : Int) = 0
        ·
         rw [if_pos c19] at H
         exact absurd H (by simp)
        ·
         rw [if_neg c19] at H
         have c19b0 : ((t303.length : Int) == 0) = false := beq_eq_false_iff_ne.mpr c19
         have c19b1 : ((t303.length : Int) != 0) = true := bne_iff_ne.mpr c19
         have c19b2 : ¬ (t303 = []) := fun h_ => c19 (by rw [h_]; rfl)
         obtain ⟨ji20, hji20⟩ : ∃ j_ : Int, (Int.tmod (rd t298 2) (t303.length : Int)) = j_ := ⟨_, rfl⟩
         replace H : (if 0 ≤ (ji20) then (if (ji20) < (t303.length : Int) then ((impl_BoxOf.f kj8 ((rd_T36 t303 (ji20)).f0) ((rd_T36 t303 (ji20)).f1) ((rd_T36 t303 (ji20)).f2) ((rd_T36 t303 (ji20)).f3)).bind fun bt309 => (laws_FnPieces.l0 kj8 t297 t298 t303 bt309.2.2.2.2 (wrap64 ((t303.length : Int) - 1)) bt309.1 bt309.2.1 bt309.2.2.1 bt309.2.2.2.1)) else (none)) else (none)) = some r := by first | (rw [hji20] at H; exact H) | (simp only [hji20] at H ⊢; exact H)
         by_cases c21 : 0 ≤ (ji20)
         ·
          rw [if_pos c21] at H
          have c21b0 : decide (0 ≤ (ji20)) = true := decide_eq_true c21
          clear c21
          by_cases c22 : (ji20) < (t303.length : Int)
          ·
           rw [if_pos c22] at H
           have c22b0 : decide ((ji20) < (t303.length : Int)) = true := decide_eq_true c22
           clear c22
           replace H := Option.bind_eq_some_iff.mp H
           obtain ⟨⟨t309, t310, t311, t312, t315⟩, A230, H⟩ := H
           replace H : (laws_FnPieces.l0 kj8 t297 t298 t303 t315 (wrap64 ((t303.length : Int) - 1)) t309 t310 t311 t312) = some r := H
           have A23 := Aside0.mk A230
           clear A230
           have H' := Aside0.mk H
           clear H
           have p307 : 0 ≤ (2 : Int) := (by omega)
           have q307 : 2 < (t298.length : Int) := of_decide_eq_true (by first | (with_reducible assumption) | assumption)
           obtain ⟨ad307, e307, hx307_0⟩ := Kd.at_int (Kd.R_reads' HO_4.out).2.2 2 p307 q307
           obtain rfl : ad301 = ad307 := (by injection e307)
           (try simp only [show (2 : Int).toNat = 2 from rfl, Nat.reduceMul, Nat.reduceEqDiff, Go.Addr.add, ↓reduceIte] at hx307_0)
           have qi307 : (2 < t298.length) = True := eq_true (by omega)
           (try rw [show ((2 : Int)).toNat = 2 from rfl] at hx307_0)
           replace p307 := eq_true p307
           replace q307 := eq_true q307
           obtain ⟨Ao24, co24, eo24⟩ := Kd.R_slice HO_5.out
           subst eo24
           have p308 : 0 ≤ ((ji20) : Int) := of_decide_eq_true (by first | (with_reducible assumption) | assumption)
           have q308 : (ji20) < (t303.length : Int) := of_decide_eq_true (by first | (with_reducible assumption) | assumption)
           obtain ⟨ad308, e308, hx308_0, hx308_1, hx308_2, hx308_3⟩ := at_T36 (Kd.R_reads' HO_5.out).2.2 (ji20) p308 q308
           cases e308
           replace p308 := eq_true p308
           replace q308 := eq_true q308
           go_wp2_with (first | ((with_reducible refine gate_callee (f := 15) rfl ?_); refine goesL_ (some 57) rfl rfl Try.func15 (by kernel_rfl) rfl #[.agg #[.int .i64 ((rd_T36 t303 (ji20)).f0), .int .i64 ((rd_T36 t303 (ji20)).f1), .int .i64 ((rd_T36 t303 (ji20)).f2), .string ((rd_T36 t303 (ji20)).f3)]] rfl (by (try simp only [List.map_toArray, List.map_cons, List.map_nil]); first | done | (simp only [hji20]; rfl) | rfl | (simp only [List.length_drop, List.length_take]; rfl)) ?_; (with_reducible refine (impl_BoxOf.calls kj8 ((rd_T36 t303 (ji20)).f0) ((rd_T36 t303 (ji20)).f1) ((rd_T36 t303 (ji20)).f2) ((rd_T36 t303 (ji20)).f3) t309 t310 t311 t312 t315 _ A23.out).mono ?_); rintro e w25 ⟨v313, rfl, ho0, hb⟩; refine ⟨_, rfl, ?_⟩; have n0_ := Aside0.mk (Kd.R_below (by (with_reducible repeat (first | apply Kd.R_alloc | apply Kd.R_drewN | apply Kd.R_drew)); exact HO_4.out) hb); have n1_ := Aside0.mk (Kd.R_below (by (with_reducible repeat (first | apply Kd.R_alloc | apply Kd.R_drewN | apply Kd.R_drew)); exact HO_5.out) hb); have n2_ := Aside0.mk (Kd.R_lower ho0 (below_size (by repeat (first | (with_reducible first | exact HB.out | apply below_alloc | apply pw_below_drewN | apply below_drew1) | exact HB.out)))); have n3_ := Aside0.mk (below_step (by repeat (first | (with_reducible first | exact HB.out | apply below_alloc | apply pw_below_drewN | apply below_drew1) | exact HB.out)) hb); clear HO_4; clear HO_5; clear HB; have HO_4 := n0_; have HO_5 := n1_; have HO314 := n2_; have HB := n3_; clear n0_ n1_ n2_ n3_; (try clear hb); (try clear hb2); (try clear hk); (try clear hi); (try clear ho0)) | ((with_reducible refine gate_dst (N := 7) rfl ?_); (try (refine gate_guard (by rfl) ?_; dsimp only)); refine box_event ?hg (N := 7) ?hd (cs := #[.int .i64 0, .int .i64 0, .string (⟨#[]⟩ : ByteArray), .slice none 0 0]) (t := 32) ?hr ?_; (case hd => rfl); (case hg => rfl); (case hr => first | (go_simp; done) | (go_simp; rfl)); intro gb316 hg w26 hbox hb; have n0_ := Aside0.mk (Kd.R_below (by (with_reducible repeat (first | apply Kd.R_alloc | apply Kd.R_drewN | apply Kd.R_drew)); exact HO_4.out) hb); have n1_ := Aside0.mk (Kd.R_below (by (with_reducible repeat (first | apply Kd.R_alloc | apply Kd.R_drewN | apply Kd.R_drew)); exact HO_5.out) hb); have n2_ := Aside0.mk (Kd.R_below (by (with_reducible repeat (first | apply Kd.R_alloc | apply Kd.R_drewN | apply Kd.R_drew)); exact HO314.out) hb); have n3_ := Aside0.mk (below_step (by repeat (first | (with_reducible first | exact HB.out | apply below_alloc | apply pw_below_drewN | apply below_drew1) | exact HB.out)) hb); have n4_ := Aside0.mk (hbox); have n5_ := Aside0.mk ((by rw [hg]; exact (below_size (by repeat (first | (with_reducible first | exact HB.out | apply below_alloc | apply pw_below_drewN | apply below_drew1) | exact HB.out))) : w.heap.size ≤ gb316)); have n6_ := Aside0.mk ((by rw [hg]; exact (below_size (by repeat (first | (with_reducible first | exact HB.out | apply below_alloc | apply pw_below_drewN | apply below_drew1) | exact HB.out))) : w.heap.size ≤ gb316)); clear HO_4; clear HO_5; clear HO314; clear HB; have HO_4 := n0_; have HO_5 := n1_; have HO314 := n2_; have HB := n3_; have BK316 := n4_; have GW316 := n5_; have GE316 := n6_; clear n0_ n1_ n2_ n3_ n4_ n5_ n6_; clear hb hbox hg; have hcz27_0 : w26.cell? ⟨gb316, 0, none⟩ = some (.int .i64 0) := (blk_cell BK316.out 0).trans rfl; have hcz27_1 : w26.cell? ⟨gb316, 1, none⟩ = some (.int .i64 0) := (blk_cell BK316.out 1).trans rfl; have hcz27_2 : w26.cell? ⟨gb316, 2, none⟩ = some (.string (⟨#[]⟩ : ByteArray)) := (blk_cell BK316.out 2).trans rfl; have hcz27_3 : w26.cell? ⟨gb316, 3, none⟩ = some (.slice none 0 0) := (blk_cell BK316.out 3).trans rfl; have hfz27_0 := blk_frozen BK316.out 0; have hfz27_1 := blk_frozen BK316.out 1; have hfz27_2 := blk_frozen BK316.out 2; have hfz27_3 := blk_frozen BK316.out 3; obtain ⟨Ao28, co28, eo28⟩ := Kd.R_slice HO314.out; subst eo28))
           go_loopg [9] kj8 (fun kq v9 w' => ∃ (x9_2 : Int) (x317000_2 : Int) (x317001_2 : Int) (x317002_2 : ByteArray) (x317003_2 : List Bool) (u317003 : Value), v9 = .int .i64 x9_2 ∧ Aside0 (laws_FnPieces.l0 kq t297 t298 t303 t315 x9_2 x317000_2 x317001_2 x317002_2 x317003_2 = some r) ∧ Aside0 (kq ≤ kj8) ∧ Aside0 (Kd.R (Kd.int .i64) 3 w' w.heap.size (fun _ => True) (.slice (some ad301) t298.length co13) t298) ∧ Aside0 (Kd.R k36 36 w' w.heap.size (fun _ => True) (.slice (some ad308) t303.length co24) t303) ∧ Aside0 (Kd.R Kd.bool 4 w' w.heap.size (fun _ => True) u317003 x317003_2) ∧ Aside0 (w'.heap[gb316]? = some (.cells #[.int .i64 x317000_2, .int .i64 x317001_2, .string x317002_2, u317003] 32 (0, 0))) ∧ Aside0 (Below w.heap.size w w'))
           case atStart => exact ⟨(wrap64 ((t303.length : Int) - 1)), (t309), (t310), (t311), (t312), (.slice Ao28 t312.length co28), (by first | rfl | (simp; done) | (simp [*]; done)), H', ⟨Nat.le_refl _⟩, ⟨by (with_reducible repeat (first | apply Kd.R_alloc | apply Kd.R_drewN | apply Kd.R_drew)); exact Kd.R_mono (Kd.R_far (p := ⟨gb316, 3, none⟩) (Kd.R_far (p := ⟨gb316, 2, none⟩) (Kd.R_far (p := ⟨gb316, 1, none⟩) (Kd.R_far (p := ⟨gb316, 0, none⟩) (Kd.R_types HO_4.out BK316.out (by decide)) (fun _ hk => hk.2) (.int .i64 t309)) (fun _ hk => hk.2) (.int .i64 t310)) (fun _ hk => hk.2) (.string t311)) (fun _ hk => hk.2) (.slice Ao28 t312.length co28)) (fun _ hk => trivial)⟩, ⟨by (with_reducible repeat (first | apply Kd.R_alloc | apply Kd.R_drewN | apply Kd.R_drew)); exact Kd.R_mono (Kd.R_far (p := ⟨gb316, 3, none⟩) (Kd.R_far (p := ⟨gb316, 2, none⟩) (Kd.R_far (p := ⟨gb316, 1, none⟩) (Kd.R_far (p := ⟨gb316, 0, none⟩) (Kd.R_types HO_5.out BK316.out (by decide)) (fun _ hk => hk.2) (.int .i64 t309)) (fun _ hk => hk.2) (.int .i64 t310)) (fun _ hk => hk.2) (.string t311)) (fun _ hk => hk.2) (.slice Ao28 t312.length co28)) (fun _ hk => trivial)⟩, ⟨by (with_reducible repeat (first | apply Kd.R_alloc | apply Kd.R_drewN | apply Kd.R_drew)); exact Kd.R_mono (Kd.R_far (p := ⟨gb316, 3, none⟩) (Kd.R_far (p := ⟨gb316, 2, none⟩) (Kd.R_far (p := ⟨gb316, 1, none⟩) (Kd.R_far (p := ⟨gb316, 0, none⟩) (Kd.R_types HO314.out BK316.out (by decide)) (fun _ hk => hk.2) (.int .i64 t309)) (fun _ hk => hk.2) (.int .i64 t310)) (fun _ hk => hk.2) (.string t311)) (fun _ hk => hk.2) (.slice Ao28 t312.length co28)) (fun _ hk => trivial)⟩, ⟨by (with_reducible repeat (first | refine blk_drewN ?_ _ | refine blk_drew ?_ | refine blk_alloc ?_ _)); refine blk_put (cs := #[.int .i64 t309, .int .i64 t310, .string t311, .slice none 0 0]) ?_ 3 _ rfl; (with_reducible repeat (first | refine blk_drewN ?_ _ | refine blk_drew ?_ | refine blk_alloc ?_ _)); refine blk_put (cs := #[.int .i64 t309, .int .i64 t310, .string (⟨#[]⟩ : ByteArray), .slice none 0 0]) ?_ 2 _ rfl; (with_reducible repeat (first | refine blk_drewN ?_ _ | refine blk_drew ?_ | refine blk_alloc ?_ _)); refine blk_put (cs := #[.int .i64 t309, .int .i64 0, .string (⟨#[]⟩ : ByteArray), .slice none 0 0]) ?_ 1 _ rfl; (with_reducible repeat (first | refine blk_drewN ?_ _ | refine blk_drew ?_ | refine blk_alloc ?_ _)); refine blk_put (cs := #[.int .i64 0, .int .i64 0, .string (⟨#[]⟩ : ByteArray), .slice none 0 0]) ?_ 0 _ rfl; (with_reducible repeat (first | refine blk_drewN ?_ _ | refine blk_drew ?_ | refine blk_alloc ?_ _)); exact BK316.out⟩, ⟨by repeat (first | (with_reducible first | exact HB.out | apply below_alloc | apply pw_below_drewN | apply below_drew1 | refine below_set ?_ GE316.out) | exact HB.out)⟩⟩
           case round =>
            clear H'
            try clear c1
            try clear c2
            try clear p2
            try clear c3
            try clear p3
            try clear q3
            try clear hx3
            try clear qi3
            try clear c6
            try clear c6b0
            try clear c6b1
            try clear p6
            try clear c7
            try clear c7b0
            try clear c7b1
            try clear c11
            try clear c12
            try clear c13
            try clear c14
            try clear c15
            try clear c17
            try clear c18
            try clear c18b0
            try clear c18b1
            try clear c19
            try clear c19b0
            try clear c19b1
            try clear c19b2
            try clear c21
            try clear c21b0
            try clear c22
            try clear c22b0
            try clear hcz27_0
            try clear hcz27_1
            try clear hcz27_2
            try clear hcz27_3
            try clear hfz27_0
            try clear hfz27_1
            try clear hfz27_2
            try clear hfz27_3
            try clear hx301_0
            try clear hx302_0
            try clear hx307_0
            try clear hx308_0
            try clear hx308_1
            try clear hx308_2
            try clear hx308_3
            try clear p2
            try clear p3
            try clear p301
            try clear p302
            try clear p307
            try clear p308
            try clear p6
            try clear q3
            try clear q301
            try clear q302
            try clear q307
            try clear q308
            obtain ⟨x9_2, x317000_2, x317001_2, x317002_2, x317003_2, u317003, rfl, HA, HK2, HO_4, HO_5, HO_317003, BK316, HB⟩ := hrel
            cases gk with
            | zero => exact absurd HA.out (by simp [laws_FnPieces.l0])
            | succ k2 =>
             have H := HA.out
             clear HA
             simp only [laws_FnPieces.l0] at H
             by_cases c29 : x9_2 ≥ 0
             ·
              rw [if_pos c29] at H
              have c29b0 : decide (0 ≤ x9_2) = true := decide_eq_true c29
              clear c29
              by_cases c30 : 0 ≤ x9_2
              ·
               rw [if_pos c30] at H
               have c30b0 : decide (0 ≤ x9_2) = true := decide_eq_true c30
               clear c30
               by_cases c31 : x9_2 < (t303.length : Int)
               ·
                rw [if_pos c31] at H
                have c31b0 : decide (x9_2 < (t303.length : Int)) = true := decide_eq_true c31
                clear c31
                replace H := Option.bind_eq_some_iff.mp H
                obtain ⟨⟨t320, t321⟩, A320, H⟩ := H
                replace H : ((impl_ReadPart.f k2 t320).bind fun bt322 => (if t321 = true then (if bt322.2.2.2.2 = true then (if (!(bt322.1 == ((rd_T36 t303 x9_2).f0)) || (!(bt322.2.1 == ((rd_T36 t303 x9_2).f1)) || (!(bt322.2.2.1 == ((rd_T36 t303 x9_2).f2)) || (!(bt322.2.2.2.1.toList == (((rd_T36 t303 x9_2).f3).toList)))))) = true then (none) else ((impl_PieceOk.f bt322.1 bt322.2.1 bt322.2.2.1 bt322.2.2.2.1).bind fun t329 => (laws_FnPieces.j2 k2 t297 t298 t303 t315 x9_2 (!t329) x317000_2 x317001_2 x317002_2 x317003_2))) else (none)) else (none))) = some r := H
                have A32 := Aside0.mk A320
                clear A320
                replace H := Option.bind_eq_some_iff.mp H
                obtain ⟨⟨t322, t323, t324, t325, t326⟩, A330, H⟩ := H
                replace H : (if t321 = true then (if t326 = true then (if (!(t322 == ((rd_T36 t303 x9_2).f0)) || (!(t323 == ((rd_T36 t303 x9_2).f1)) || (!(t324 == ((rd_T36 t303 x9_2).f2)) || (!(t325.toList == (((rd_T36 t303 x9_2).f3).toList)))))) = true then (none) else ((impl_PieceOk.f t322 t323 t324 t325).bind fun t329 => (laws_FnPieces.j2 k2 t297 t298 t303 t315 x9_2 (!t329) x317000_2 x317001_2 x317002_2 x317003_2))) else (none)) else (none)) = some r := H
                have A33 := Aside0.mk A330
                clear A330
                have HC34 := Aside0.mk H
                clear H
                have p319 : 0 ≤ (x9_2 : Int) := of_decide_eq_true (by first | (with_reducible assumption) | assumption)
                have q319 : x9_2 < (t303.length : Int) := of_decide_eq_true (by first | (with_reducible assumption) | assumption)
                obtain ⟨ad319, e319, hx319_0, hx319_1, hx319_2, hx319_3⟩ := at_T36 (Kd.R_reads' HO_5.out).2.2 x9_2 p319 q319
                obtain rfl : ad308 = ad319 := (by injection e319)
                replace p319 := eq_true p319
                replace q319 := eq_true q319
                go_upto_region 14 with (first | ((with_reducible refine gate_callee (f := 16) rfl ?_); refine goesL_ (some 72) rfl rfl Try.func16 (by kernel_rfl) rfl #[.agg #[.int .i64 ((rd_T36 t303 x9_2).f0), .int .i64 ((rd_T36 t303 x9_2).f1), .int .i64 ((rd_T36 t303 x9_2).f2), .string ((rd_T36 t303 x9_2).f3)]] rfl (by (try simp only [List.map_toArray, List.map_cons, List.map_nil]); first | done | rfl | (simp only [List.length_drop, List.length_take]; rfl)) ?_; (with_reducible refine (impl_PartText.calls k2 ((rd_T36 t303 x9_2).f0) ((rd_T36 t303 x9_2).f1) ((rd_T36 t303 x9_2).f2) ((rd_T36 t303 x9_2).f3) t320 t321 _ A32.out).mono ?_); rintro e w35 ⟨rfl, hb⟩; refine ⟨_, rfl, ?_⟩; have n0_ := Aside0.mk (Kd.R_below (by (with_reducible repeat (first | apply Kd.R_alloc | apply Kd.R_drewN | apply Kd.R_drew)); exact HO_4.out) hb); have n1_ := Aside0.mk (Kd.R_below (by (with_reducible repeat (first | apply Kd.R_alloc | apply Kd.R_drewN | apply Kd.R_drew)); exact HO_5.out) hb); have n2_ := Aside0.mk (Kd.R_below (by (with_reducible repeat (first | apply Kd.R_alloc | apply Kd.R_drewN | apply Kd.R_drew)); exact HO_317003.out) hb); have n3_ := Aside0.mk (blk_below (g := gb316) (o := .cells #[.int .i64 x317000_2, .int .i64 x317001_2, .string x317002_2, u317003] 32 (0, 0)) (by (with_reducible repeat (first | refine blk_drewN ?_ _ | refine blk_drew ?_ | refine blk_alloc ?_ _)); exact BK316.out) hb); have n4_ := Aside0.mk (below_step (by repeat (first | (with_reducible first | exact HB.out | apply below_alloc | apply pw_below_drewN | apply below_drew1 | refine below_set ?_ GE316.out) | exact HB.out)) hb); clear HO_4; clear HO_5; clear HO_317003; clear BK316; clear HB; have HO_4 := n0_; have HO_5 := n1_; have HO_317003 := n2_; have BK316 := n3_; have HB := n4_; clear n0_ n1_ n2_ n3_ n4_; (try clear hb); (try clear hb2); (try clear hk); (try clear hi)) | ((with_reducible refine gate_callee (f := 17) rfl ?_); refine goesL_ (some 77) rfl rfl Try.func17 (by kernel_rfl) rfl #[.string t320] rfl (by (try simp only [List.map_toArray, List.map_cons, List.map_nil]); first | done | rfl | (simp only [List.length_drop, List.length_take]; rfl)) ?_; (with_reducible refine (impl_ReadPart.calls k2 t320 t322 t323 t324 t325 t326 _ A33.out).mono ?_); rintro e w36 ⟨rfl, hb⟩; refine ⟨_, rfl, ?_⟩; have n0_ := Aside0.mk (Kd.R_below (by (with_reducible repeat (first | apply Kd.R_alloc | apply Kd.R_drewN | apply Kd.R_drew)); exact HO_4.out) hb); have n1_ := Aside0.mk (Kd.R_below (by (with_reducible repeat (first | apply Kd.R_alloc | apply Kd.R_drewN | apply Kd.R_drew)); exact HO_5.out) hb); have n2_ := Aside0.mk (Kd.R_below (by (with_reducible repeat (first | apply Kd.R_alloc | apply Kd.R_drewN | apply Kd.R_drew)); exact HO_317003.out) hb); have n3_ := Aside0.mk (blk_below (g := gb316) (o := .cells #[.int .i64 x317000_2, .int .i64 x317001_2, .string x317002_2, u317003] 32 (0, 0)) (by (with_reducible repeat (first | refine blk_drewN ?_ _ | refine blk_drew ?_ | refine blk_alloc ?_ _)); exact BK316.out) hb); have n4_ := Aside0.mk (below_step (by repeat (first | (with_reducible first | exact HB.out | apply below_alloc | apply pw_below_drewN | apply below_drew1 | refine below_set ?_ GE316.out) | exact HB.out)) hb); clear HO_4; clear HO_5; clear HO_317003; clear BK316; clear HB; have HO_4 := n0_; have HO_5 := n1_; have HO_317003 := n2_; have BK316 := n3_; have HB := n4_; clear n0_ n1_ n2_ n3_ n4_; (try clear hb); (try clear hb2); (try clear hk); (try clear hi)) | ((with_reducible refine gate_dst (N := 12) rfl ?_); (try (refine gate_guard (by rfl) ?_; dsimp only)); refine box_event ?hg (N := 12) ?hd (cs := #[.int .i64 0, .int .i64 0, .int .i64 0, .string (⟨#[]⟩ : ByteArray)]) (t := 36) ?hr ?_; (case hd => rfl); (case hg => rfl); (case hr => first | (go_simp; done) | (go_simp; rfl)); intro gb327 hg w37 hbox hb; have n0_ := Aside0.mk (Kd.R_below (by (with_reducible repeat (first | apply Kd.R_alloc | apply Kd.R_drewN | apply Kd.R_drew)); exact HO_4.out) hb); have n1_ := Aside0.mk (Kd.R_below (Kd.R_elderB (by (with_reducible repeat (first | apply Kd.R_alloc | apply Kd.R_drewN | apply Kd.R_drew)); exact HO_5.out) gb327 (Nat.le_of_eq hg.symm)) hb); have n2_ := Aside0.mk (Kd.R_below (by (with_reducible repeat (first | apply Kd.R_alloc | apply Kd.R_drewN | apply Kd.R_drew)); exact HO_317003.out) hb); have n3_ := Aside0.mk (blk_below (g := gb316) (o := .cells #[.int .i64 x317000_2, .int .i64 x317001_2, .string x317002_2, u317003] 32 (0, 0)) (by (with_reducible repeat (first | refine blk_drewN ?_ _ | refine blk_drew ?_ | refine blk_alloc ?_ _)); exact BK316.out) hb); have n4_ := Aside0.mk (below_step (by repeat (first | (with_reducible first | exact HB.out | apply below_alloc | apply pw_below_drewN | apply below_drew1 | refine below_set ?_ GE316.out) | exact HB.out)) hb); have n5_ := Aside0.mk (hbox); have n6_ := Aside0.mk ((by rw [hg]; exact (below_size (by repeat (first | (with_reducible first | exact HB.out | apply below_alloc | apply pw_below_drewN | apply below_drew1 | refine below_set ?_ GE316.out) | exact HB.out))) : w.heap.size ≤ gb327)); have n7_ := Aside0.mk ((by rw [hg]; exact (below_size (by repeat (first | (with_reducible first | exact HB.out | apply below_alloc | apply pw_below_drewN | apply below_drew1 | refine below_set ?_ GE316.out) | exact HB.out))) : w.heap.size ≤ gb327)); have n8_ := Aside0.mk ((by rw [hg]; exact Nat.ne_of_lt (blk_lt (g := gb316) (o := .cells #[.int .i64 x317000_2, .int .i64 x317001_2, .string x317002_2, u317003] 32 (0, 0)) (by (with_reducible repeat (first | refine blk_drewN ?_ _ | refine blk_drew ?_ | refine blk_alloc ?_ _)); exact BK316.out)) : gb316 ≠ gb327)); have n9_ := Aside0.mk ((by rw [hg]; exact Nat.ne_of_gt (blk_lt (g := gb316) (o := .cells #[.int .i64 x317000_2, .int .i64 x317001_2, .string x317002_2, u317003] 32 (0, 0)) (by (with_reducible repeat (first | refine blk_drewN ?_ _ | refine blk_drew ?_ | refine blk_alloc ?_ _)); exact BK316.out)) : gb327 ≠ gb316)); clear HO_4; clear HO_5; clear HO_317003; clear BK316; clear HB; have HO_4 := n0_; have HO_5 := n1_; have HO_317003 := n2_; have BK316 := n3_; have HB := n4_; have BK327 := n5_; have GW327 := n6_; have GE327 := n7_; have NB316_327 := n8_; have NB327_316 := n9_; clear n0_ n1_ n2_ n3_ n4_ n5_ n6_ n7_ n8_ n9_; clear hb hbox hg; have hnb38 := NB327_316.out; have hnc38 := NB316_327.out; have hcz39_0 : w37.cell? ⟨gb327, 0, none⟩ = some (.int .i64 0) := (blk_cell BK327.out 0).trans rfl; have hcz39_1 : w37.cell? ⟨gb327, 1, none⟩ = some (.int .i64 0) := (blk_cell BK327.out 1).trans rfl; have hcz39_2 : w37.cell? ⟨gb327, 2, none⟩ = some (.int .i64 0) := (blk_cell BK327.out 2).trans rfl; have hcz39_3 : w37.cell? ⟨gb327, 3, none⟩ = some (.string (⟨#[]⟩ : ByteArray)) := (blk_cell BK327.out 3).trans rfl; have hfz39_0 := blk_frozen BK327.out 0; have hfz39_1 := blk_frozen BK327.out 1; have hfz39_2 := blk_frozen BK327.out 2; have hfz39_3 := blk_frozen BK327.out 3))
                (try simp only [Act.put, List.setIfInBounds_toArray, List.set_cons_zero, List.set_cons_succ])
                go_cut [98] (fun v98 wc => ∃ (kq : Nat) (x98_33 : Bool), v98 = .bool x98_33 ∧ Aside0 (laws_FnPieces.j2 kq t297 t298 t303 t315 x9_2 x98_33 x317000_2 x317001_2 x317002_2 x317003_2 = some r) ∧ Aside0 (kq ≤ k2) ∧ Aside0 (Kd.R (Kd.int .i64) 3 wc w.heap.size (fun _ => True) (.slice (some ad301) t298.length co13) t298) ∧ Aside0 (Kd.R k36 36 wc w.heap.size (fun k_ => k_ ≠ gb327) (.slice (some ad308) t303.length co24) t303) ∧ Aside0 (Kd.R Kd.bool 4 wc w.heap.size (fun _ => True) u317003 x317003_2) ∧ Aside0 (wc.heap[gb316]? = some (.cells #[.int .i64 x317000_2, .int .i64 x317001_2, .string x317002_2, u317003] 32 (0, 0))) ∧ Aside0 (wc.heap[gb327]? = some (.cells #[.int .i64 t322, .int .i64 t323, .int .i64 t324, .string t325] 36 (0, 0))) ∧ Aside0 (Below w.heap.size w wc))
                case first =>
                 have H := HC34.out
                 clear HC34
                 by_cases c40 : t321 = true
                 ·
                  subst c40
                  have H1 : (if t326 = true then (if (!(t322 == ((rd_T36 t303 x9_2).f0)) || (!(t323 == ((rd_T36 t303 x9_2).f1)) || (!(t324 == ((rd_T36 t303 x9_2).f2)) || (!(t325.toList == (((rd_T36 t303 x9_2).f3).toList)))))) = true then (none) else ((impl_PieceOk.f t322 t323 t324 t325).bind fun t329 => (laws_FnPieces.j2 k2 t297 t298 t303 t315 x9_2 (!t329) x317000_2 x317001_2 x317002_2 x317003_2))) else (none)) = some r := by rw [if_pos rfl] at H; exact H
                  clear H
                  have H := H1
                  clear H1
                  by_cases c41 : t326 = true
                  ·
                   subst c41
                   have H1 : (if (!(t322 == ((rd_T36 t303 x9_2).f0)) || (!(t323 == ((rd_T36 t303 x9_2).f1)) || (!(t324 == ((rd_T36 t303 x9_2).f2)) || (!(t325.toList == (((rd_T36 t303 x9_2).f3).toList)))))) = true then (none) else ((impl_PieceOk.f t322 t323 t324 t325).bind fun t329 => (laws_FnPieces.j2 k2 t297 t298 t303 t315 x9_2 (!t329) x317000_2 x317001_2 x317002_2 x317003_2))) = some r := by rw [if_pos rfl] at H; exact H
                   clear H
                   have H := H1
                   clear H1
                   by_cases c42 : (!(t322 == ((rd_T36 t303 x9_2).f0)) || (!(t323 == ((rd_T36 t303 x9_2).f1)) || (!(t324 == ((rd_T36 t303 x9_2).f2)) || (!(t325.toList == (((rd_T36 t303 x9_2).f3).toList)))))) = true
                   ·
                    rw [if_pos c42] at H
                    exact absurd H (by simp)
                   ·
                    rw [if_neg c42] at H
                    have c42b0 : (!(t322 == ((rd_T36 t303 x9_2).f0)) || (!(t323 == ((rd_T36 t303 x9_2).f1)) || (!(t324 == ((rd_T36 t303 x9_2).f2)) || (!(t325.toList == (((rd_T36 t303 x9_2).f3).toList)))))) = false := by simpa using c42
                    clear c42
                    (first | rw [c42b0] | (simp only [i64_w, i32_w]; rw [c42b0]) | skip)
                    replace H := Option.bind_eq_some_iff.mp H
                    obtain ⟨t329, A430, H⟩ := H
                    replace H : (laws_FnPieces.j2 k2 t297 t298 t303 t315 x9_2 (!t329) x317000_2 x317001_2 x317002_2 x317003_2) = some r := H
                    have A43 := Aside0.mk A430
                    clear A430
                    have H' := Aside0.mk H
                    clear H
                    try go_wp2
                    have n0_ : Aside0 (Kd.R (Kd.int .i64) 3 ((((w37.setCell ⟨gb327, 0, none⟩ (.int .i64 t322)).setCell ⟨gb327, 1, none⟩ (.int .i64 t323)).setCell ⟨gb327, 2, none⟩ (.int .i64 t324)).setCell ⟨gb327, 3, none⟩ (.string t325)) w.heap.size (fun _ => True) (.slice (some ad301) t298.length co13) t298) := ⟨by (with_reducible repeat (first | apply Kd.R_alloc | apply Kd.R_drewN | apply Kd.R_drew)); exact Kd.R_mono (Kd.R_far (p := ⟨gb327, 3, none⟩) (Kd.R_far (p := ⟨gb327, 2, none⟩) (Kd.R_far (p := ⟨gb327, 1, none⟩) (Kd.R_far (p := ⟨gb327, 0, none⟩) (Kd.R_types HO_4.out BK327.out (by decide)) (fun _ hk => hk.2) (.int .i64 t322)) (fun _ hk => hk.2) (.int .i64 t323)) (fun _ hk => hk.2) (.int .i64 t324)) (fun _ hk => hk.2) (.string t325)) (fun _ hk => trivial)⟩
                    have n1_ : Aside0 (Kd.R k36 36 ((((w37.setCell ⟨gb327, 0, none⟩ (.int .i64 t322)).setCell ⟨gb327, 1, none⟩ (.int .i64 t323)).setCell ⟨gb327, 2, none⟩ (.int .i64 t324)).setCell ⟨gb327, 3, none⟩ (.string t325)) w.heap.size (fun k_ => k_ ≠ gb327) (.slice (some ad308) t303.length co24) t303) := ⟨by (with_reducible repeat (first | apply Kd.R_alloc | apply Kd.R_drewN | apply Kd.R_drew)); exact Kd.R_mono (Kd.R_far (p := ⟨gb327, 3, none⟩) (Kd.R_far (p := ⟨gb327, 2, none⟩) (Kd.R_far (p := ⟨gb327, 1, none⟩) (Kd.R_far (p := ⟨gb327, 0, none⟩) (Kd.R_mono HO_5.out (fun k_ hk => (⟨hk, hk.2⟩ : _ ∧ k_ ≠ gb327))) (fun _ hk => hk.2) (.int .i64 t322)) (fun _ hk => hk.2) (.int .i64 t323)) (fun _ hk => hk.2) (.int .i64 t324)) (fun _ hk => hk.2) (.string t325)) (fun _ hk => hk.1.2)⟩
                    have n2_ : Aside0 (Kd.R Kd.bool 4 ((((w37.setCell ⟨gb327, 0, none⟩ (.int .i64 t322)).setCell ⟨gb327, 1, none⟩ (.int .i64 t323)).setCell ⟨gb327, 2, none⟩ (.int .i64 t324)).setCell ⟨gb327, 3, none⟩ (.string t325)) w.heap.size (fun _ => True) u317003 x317003_2) := ⟨by (with_reducible repeat (first | apply Kd.R_alloc | apply Kd.R_drewN | apply Kd.R_drew)); exact Kd.R_mono (Kd.R_far (p := ⟨gb327, 3, none⟩) (Kd.R_far (p := ⟨gb327, 2, none⟩) (Kd.R_far (p := ⟨gb327, 1, none⟩) (Kd.R_far (p := ⟨gb327, 0, none⟩) (Kd.R_types HO_317003.out BK327.out (by decide)) (fun _ hk => hk.2) (.int .i64 t322)) (fun _ hk => hk.2) (.int .i64 t323)) (fun _ hk => hk.2) (.int .i64 t324)) (fun _ hk => hk.2) (.string t325)) (fun _ hk => trivial)⟩
                    have n3_ : Aside0 (((((w37.setCell ⟨gb327, 0, none⟩ (.int .i64 t322)).setCell ⟨gb327, 1, none⟩ (.int .i64 t323)).setCell ⟨gb327, 2, none⟩ (.int .i64 t324)).setCell ⟨gb327, 3, none⟩ (.string t325)).heap[gb316]? = some (.cells #[.int .i64 x317000_2, .int .i64 x317001_2, .string x317002_2, u317003] 32 (0, 0))) := ⟨by (with_reducible repeat (first | refine blk_drewN ?_ _ | refine blk_drew ?_ | refine blk_alloc ?_ _)); refine blk_far ?_ NB316_327.out _; (with_reducible repeat (first | refine blk_drewN ?_ _ | refine blk_drew ?_ | refine blk_alloc ?_ _)); refine blk_far ?_ NB316_327.out _; (with_reducible repeat (first | refine blk_drewN ?_ _ | refine blk_drew ?_ | refine blk_alloc ?_ _)); refine blk_far ?_ NB316_327.out _; (with_reducible repeat (first | refine blk_drewN ?_ _ | refine blk_drew ?_ | refine blk_alloc ?_ _)); refine blk_far ?_ NB316_327.out _; (with_reducible repeat (first | refine blk_drewN ?_ _ | refine blk_drew ?_ | refine blk_alloc ?_ _)); exact BK316.out⟩
                    have n4_ : Aside0 (((((w37.setCell ⟨gb327, 0, none⟩ (.int .i64 t322)).setCell ⟨gb327, 1, none⟩ (.int .i64 t323)).setCell ⟨gb327, 2, none⟩ (.int .i64 t324)).setCell ⟨gb327, 3, none⟩ (.string t325)).heap[gb327]? = some (.cells #[.int .i64 t322, .int .i64 t323, .int .i64 t324, .string t325] 36 (0, 0))) := ⟨by (with_reducible repeat (first | refine blk_drewN ?_ _ | refine blk_drew ?_ | refine blk_alloc ?_ _)); refine blk_put (cs := #[.int .i64 t322, .int .i64 t323, .int .i64 t324, .string (⟨#[]⟩ : ByteArray)]) ?_ 3 _ rfl; (with_reducible repeat (first | refine blk_drewN ?_ _ | refine blk_drew ?_ | refine blk_alloc ?_ _)); refine blk_put (cs := #[.int .i64 t322, .int .i64 t323, .int .i64 0, .string (⟨#[]⟩ : ByteArray)]) ?_ 2 _ rfl; (with_reducible repeat (first | refine blk_drewN ?_ _ | refine blk_drew ?_ | refine blk_alloc ?_ _)); refine blk_put (cs := #[.int .i64 t322, .int .i64 0, .int .i64 0, .string (⟨#[]⟩ : ByteArray)]) ?_ 1 _ rfl; (with_reducible repeat (first | refine blk_drewN ?_ _ | refine blk_drew ?_ | refine blk_alloc ?_ _)); refine blk_put (cs := #[.int .i64 0, .int .i64 0, .int .i64 0, .string (⟨#[]⟩ : ByteArray)]) ?_ 0 _ rfl; (with_reducible repeat (first | refine blk_drewN ?_ _ | refine blk_drew ?_ | refine blk_alloc ?_ _)); exact BK327.out⟩
                    have n5_ : Aside0 (Below w.heap.size w ((((w37.setCell ⟨gb327, 0, none⟩ (.int .i64 t322)).setCell ⟨gb327, 1, none⟩ (.int .i64 t323)).setCell ⟨gb327, 2, none⟩ (.int .i64 t324)).setCell ⟨gb327, 3, none⟩ (.string t325))) := ⟨by repeat (first | (with_reducible first | exact HB.out | apply below_alloc | apply pw_below_drewN | apply below_drew1 | refine below_set ?_ GE316.out | refine below_set ?_ GE327.out) | exact HB.out)⟩
                    (try clear HO_4)
                    (try clear HO_5)
                    (try clear HO_317003)
                    (try clear BK316)
                    (try clear BK327)
                    (try clear HB)
                    generalize ((((w37.setCell ⟨gb327, 0, none⟩ (.int .i64 t322)).setCell ⟨gb327, 1, none⟩ (.int .i64 t323)).setCell ⟨gb327, 2, none⟩ (.int .i64 t324)).setCell ⟨gb327, 3, none⟩ (.string t325)) = w44 at n0_ n1_ n2_ n3_ n4_ n5_ ⊢
                    have HO_4 := n0_
                    have HO_5 := n1_
                    have HO_317003 := n2_
                    have BK316 := n3_
                    have BK327 := n4_
                    have HB := n5_
                    clear n0_ n1_ n2_ n3_ n4_ n5_
                    have n0_ := Aside0.mk (Kd.R_drew HO_4.out)
                    have n1_ := Aside0.mk (Kd.R_drew HO_5.out)
                    have n2_ := Aside0.mk (Kd.R_drew HO_317003.out)
                    have n3_ := Aside0.mk (blk_drew BK316.out)
                    have n4_ := Aside0.mk (blk_drew BK327.out)
                    have n5_ := Aside0.mk (below_drew1 HB.out)
                    clear HO_4
                    clear HO_5
                    clear HO_317003
                    clear BK316
                    clear BK327
                    clear HB
                    have HO_4 := n0_
                    have HO_5 := n1_
                    have HO_317003 := n2_
                    have BK316 := n3_
                    have BK327 := n4_
                    have HB := n5_
                    clear n0_ n1_ n2_ n3_ n4_ n5_
                    have p328 : 0 ≤ (x9_2 : Int) := of_decide_eq_true (by first | (with_reducible assumption) | assumption)
                    have q328 : x9_2 < (t303.length : Int) := of_decide_eq_true (by first | (with_reducible assumption) | assumption)
                    obtain ⟨ad328, e328, hx328_0, hx328_1, hx328_2, hx328_3⟩ := at_T36 (Kd.R_reads' HO_5.out).2.2 x9_2 p328 q328
                    obtain rfl : ad308 = ad328 := (by injection e328)
                    replace p328 := eq_true p328
                    replace q328 := eq_true q328
                    refine start_ (n := 19) (S := fun w' => w'.cell? ⟨gb327, 0, none⟩ = some (.int .i64 t322) ∧ w'.cell? ⟨gb327, 1, none⟩ = some (.int .i64 t323) ∧ w'.cell? ⟨gb327, 2, none⟩ = some (.int .i64 t324) ∧ w'.cell? ⟨gb327, 3, none⟩ = some (.string t325) ∧ w'.cell? (ad308.add ((x9_2).toNat * 4)) = some (.int .i64 ((rd_T36 t303 x9_2).f0)) ∧ w'.cell? ⟨(ad308.add ((x9_2).toNat * 4)).block, (ad308.add ((x9_2).toNat * 4)).off + 1, none⟩ = some (.int .i64 ((rd_T36 t303 x9_2).f1)) ∧ w'.cell? ⟨(ad308.add ((x9_2).toNat * 4)).block, (ad308.add ((x9_2).toNat * 4)).off + 2, none⟩ = some (.int .i64 ((rd_T36 t303 x9_2).f2)) ∧ w'.cell? ⟨(ad308.add ((x9_2).toNat * 4)).block, (ad308.add ((x9_2).toNat * 4)).off + 3, none⟩ = some (.string ((rd_T36 t303 x9_2).f3))) (ds := []) #[false, false, false, false, false, false, false, false, false, false, false, false, false, false, false, false, false, false, false] (by kernel_rfl) rfl rfl ⟨(blk_cell BK327.out 0).trans rfl, (blk_cell BK327.out 1).trans rfl, (blk_cell BK327.out 2).trans rfl, (blk_cell BK327.out 3).trans rfl, hx328_0, hx328_1, hx328_2, hx328_3⟩ (fun hHeld => ?_); refine with_tabW laws_FnPieces.tab14 laws_FnPieces.bits14 (fun HT_ HW_ => ?_)
                    generalize w44.drew = w45 at HO_4 HO_5 HO_317003 BK316 BK327 HB hx328_0 hx328_1 hx328_2 hx328_3 hHeld ⊢
                    refine pure_ (i := 0) (N := some 80) (v := ?_) (a' := ?_) #[true, false, false, false, false, false, false, false, false, false, false, false, false, false, false, false, false, false, false] rfl rfl (any_of HT_.out (by kernel_rfl)) (fun _ _ _ h => h) (Or.inl ⟨by rfl, ?_⟩) ?_ ?_
                    rotate_left
                    ·
                     intro w'
                     go_simp
                     with_reducible rfl
                    rotate_left
                    ·
                     simp only [Act.put, List.setIfInBounds_toArray, List.set_cons_zero, List.set_cons_succ, i64_w, i32_w]
                     rfl
                    refine pure_ (i := 1) (N := some 81) (v := ?_) (a' := ?_) #[true, true, false, false, false, false, false, false, false, false, false, false, false, false, false, false, false, false, false] rfl rfl (any_of HT_.out (by kernel_rfl)) (fun _ _ _ h => h) (Or.inl ⟨by rfl, ?_⟩) ?_ ?_
                    rotate_left
                    ·
                     intro w'
                     go_simp
                     with_reducible rfl
                    rotate_left
                    ·
                     simp only [Act.put, List.setIfInBounds_toArray, List.set_cons_zero, List.set_cons_succ, i64_w, i32_w]
                     rfl
                    refine pure_ (i := 2) (N := some 82) (v := ?_) (a' := ?_) #[true, true, true, false, false, false, false, false, false, false, false, false, false, false, false, false, false, false, false] rfl rfl (any_of HT_.out (by kernel_rfl)) (fun _ _ _ h => h) (Or.inl ⟨by rfl, ?_⟩) ?_ ?_
                    rotate_left
                    ·
                     intro w'
                     go_simp
                     with_reducible rfl
                    rotate_left
                    ·
                     simp only [Act.put, List.setIfInBounds_toArray, List.set_cons_zero, List.set_cons_succ, i64_w, i32_w]
                     rfl
                    refine pure_ (i := 3) (N := some 83) (v := ?_) (a' := ?_) #[true, true, true, true, false, false, false, false, false, false, false, false, false, false, false, false, false, false, false] rfl rfl (any_of HT_.out (by kernel_rfl)) (fun _ _ _ h => h) (Or.inl ⟨by rfl, ?_⟩) ?_ ?_
                    rotate_left
                    ·
                     intro w'
                     go_simp
                     with_reducible rfl
                    rotate_left
                    ·
                     simp only [Act.put, List.setIfInBounds_toArray, List.set_cons_zero, List.set_cons_succ, i64_w, i32_w]
                     rfl
                    refine pure_ (i := 4) (N := some 84) (v := ?_) (a' := ?_) #[true, true, true, true, true, false, false, false, false, false, false, false, false, false, false, false, false, false, false] rfl rfl (any_of HT_.out (by kernel_rfl)) (fun _ _ _ h => h) (Or.inl ⟨by rfl, ?_⟩) ?_ ?_
                    rotate_left
                    ·
                     intro w'
                     go_simp
                     with_reducible rfl
                    rotate_left
                    ·
                     simp only [Act.put, List.setIfInBounds_toArray, List.set_cons_zero, List.set_cons_succ, i64_w, i32_w]
                     rfl
                    refine pure_ (i := 5) (N := some 85) (v := ?_) (a' := ?_) #[true, true, true, true, true, true, false, false, false, false, false, false, false, false, false, false, false, false, false] rfl rfl (any_of HT_.out (by kernel_rfl)) (fun _ _ _ h => h) (Or.inl ⟨by rfl, ?_⟩) ?_ ?_
                    rotate_left
                    ·
                     intro w'
                     go_simp
                     with_reducible rfl
                    rotate_left
                    ·
                     simp only [Act.put, List.setIfInBounds_toArray, List.set_cons_zero, List.set_cons_succ, i64_w, i32_w]
                     rfl
                    refine pure_ (i := 6) (N := some 86) (v := ?_) (a' := ?_) #[true, true, true, true, true, true, true, false, false, false, false, false, false, false, false, false, false, false, false] rfl rfl (any_of HT_.out (by kernel_rfl)) (fun _ _ _ h => h) (Or.inl ⟨by rfl, ?_⟩) ?_ ?_
                    rotate_left
                    ·
                     intro w'
                     go_simp
                     with_reducible rfl
                    rotate_left
                    ·
                     simp only [Act.put, List.setIfInBounds_toArray, List.set_cons_zero, List.set_cons_succ, i64_w, i32_w]
                     rfl
                    refine pure_ (i := 8) (N := some 88) (v := ?_) (a' := ?_) #[true, true, true, true, true, true, true, false, true, false, false, false, false, false, false, false, false, false, false] rfl rfl (any_of HT_.out (by kernel_rfl)) (fun _ _ _ h => h) (Or.inl ⟨by rfl, ?_⟩) ?_ ?_
                    rotate_left
                    ·
                     intro w'
                     go_simp
                     with_reducible rfl
                    rotate_left
                    ·
                     simp only [Act.put, List.setIfInBounds_toArray, List.set_cons_zero, List.set_cons_succ, i64_w, i32_w]
                     rfl
                    refine pure_ (i := 9) (N := some 89) (v := ?_) (a' := ?_) #[true, true, true, true, true, true, true, false, true, true, false, false, false, false, false, false, false, false, false] rfl rfl (any_of HT_.out (by kernel_rfl)) (fun _ _ _ h => h) (Or.inl ⟨by rfl, ?_⟩) ?_ ?_
                    rotate_left
                    ·
                     intro w'
                     go_simp
                     with_reducible rfl
                    rotate_left
                    ·
                     simp only [Act.put, List.setIfInBounds_toArray, List.set_cons_zero, List.set_cons_succ, i64_w, i32_w]
                     rfl
                    refine pure_ (i := 10) (N := some 90) (v := ?_) (a' := ?_) #[true, true, true, true, true, true, true, false, true, true, true, false, false, false, false, false, false, false, false] rfl rfl (any_of HT_.out (by kernel_rfl)) (fun _ _ _ h => h) (Or.inl ⟨by rfl, ?_⟩) ?_ ?_
                    rotate_left
                    ·
                     intro w'
                     go_simp
                     with_reducible rfl
                    rotate_left
                    ·
                     simp only [Act.put, List.setIfInBounds_toArray, List.set_cons_zero, List.set_cons_succ, i64_w, i32_w]
                     rfl
                    refine take_ (i := 7) (N := some 87) (v := ?_) (a' := ?_) #[true, true, true, true, true, true, true, true, true, true, true, false, false, false, false, false, false, false, false] rfl rfl (take_ofW HT_.out HW_.out (by kernel_rfl)) (fun _ _ _ h => h) (Or.inl ⟨by rfl, ?_⟩) hHeld ?_ ?_
                    rotate_left
                    ·
                     rintro w' ⟨s0, s1, s2, s3, s4, s5, s6, s7⟩
                     go_simp
                     with_reducible rfl
                    rotate_left
                    ·
                     simp only [Act.put, List.setIfInBounds_toArray, List.set_cons_zero, List.set_cons_succ, i64_w, i32_w]
                     rfl
                    refine take_ (i := 11) (N := some 91) (v := ?_) (a' := ?_) #[true, true, true, true, true, true, true, true, true, true, true, true, false, false, false, false, false, false, false] rfl rfl (take_ofW HT_.out HW_.out (by kernel_rfl)) (fun _ _ _ h => h) (Or.inl ⟨by rfl, ?_⟩) hHeld ?_ ?_
                    rotate_left
                    ·
                     rintro w' ⟨s0, s1, s2, s3, s4, s5, s6, s7⟩
                     go_simp
                     with_reducible rfl
                    rotate_left
                    ·
                     simp only [Act.put, List.setIfInBounds_toArray, List.set_cons_zero, List.set_cons_succ, i64_w, i32_w]
                     rfl
                    refine pure_ (i := 12) (N := some 92) (v := ?_) (a' := ?_) #[true, true, true, true, true, true, true, true, true, true, true, true, true, false, false, false, false, false, false] rfl rfl (any_of HT_.out (by kernel_rfl)) (fun _ _ _ h => h) (Or.inl ⟨by rfl, ?_⟩) ?_ ?_
                    rotate_left
                    ·
                     intro w'
                     go_simp
                     with_reducible rfl
                    rotate_left
                    ·
                     simp only [Act.put, List.setIfInBounds_toArray, List.set_cons_zero, List.set_cons_succ, i64_w, i32_w]
                     rfl
                    refine pure_ (i := 13) (N := some 93) (v := ?_) (a' := ?_) #[true, true, true, true, true, true, true, true, true, true, true, true, true, true, false, false, false, false, false] rfl rfl (any_of HT_.out (by kernel_rfl)) (fun _ _ _ h => h) (Or.inl ⟨by rfl, ?_⟩) ?_ ?_
                    rotate_left
                    ·
                     intro w'
                     go_simp
                     with_reducible rfl
                    rotate_left
                    ·
                     simp only [Act.put, List.setIfInBounds_toArray, List.set_cons_zero, List.set_cons_succ, i64_w, i32_w]
                     rfl
                    refine pure_ (i := 14) (N := some 94) (v := ?_) (a' := ?_) #[true, true, true, true, true, true, true, true, true, true, true, true, true, true, true, false, false, false, false] rfl rfl (any_of HT_.out (by kernel_rfl)) (fun _ _ _ h => h) (Or.inl ⟨by rfl, ?_⟩) ?_ ?_
                    rotate_left
                    ·
                     intro w'
                     go_simp
                     with_reducible rfl
                    rotate_left
                    ·
                     simp only [Act.put, List.setIfInBounds_toArray, List.set_cons_zero, List.set_cons_succ, i64_w, i32_w]
                     rfl
                    refine take_ (i := 15) (N := some 95) (v := ?_) (a' := ?_) #[true, true, true, true, true, true, true, true, true, true, true, true, true, true, true, true, false, false, false] rfl rfl (take_ofW HT_.out HW_.out (by kernel_rfl)) (fun _ _ _ h => h) (Or.inl ⟨by rfl, ?_⟩) hHeld ?_ ?_
                    rotate_left
                    ·
                     rintro w' ⟨s0, s1, s2, s3, s4, s5, s6, s7⟩
                     go_simp
                     with_reducible rfl
                    rotate_left
                    ·
                     simp only [Act.put, List.setIfInBounds_toArray, List.set_cons_zero, List.set_cons_succ, i64_w, i32_w]
                     rfl
                    refine one_ (i := 16) (N := some 96) #[true, true, true, true, true, true, true, true, true, true, true, true, true, true, true, true, true, false, false] rfl rfl (one_of HT_.out (by kernel_rfl)) (by decide) (fun K hK => ?_)
                    refine goes_ Try.func18 (by kernel_rfl) rfl #[.agg #[.int .i64 t322, .int .i64 t323, .int .i64 t324, .string t325]] (by rfl) rfl rfl (by (try simp only [List.map_toArray, List.map_cons, List.map_nil]); first | done | rfl | (simp only [List.length_drop, List.length_take]; rfl)) ?_
                    with_reducible refine (impl_PieceOk.calls t322 t323 t324 t325 t329 _ A43.out).mono ?_
                    rintro e w46 ⟨rfl, hb⟩
                    have HS4_ := (hb.cell (World.block_lt_of_cell? _ _ (hHeld.2.2.2.2.1))).trans (hHeld.2.2.2.2.1)
                    have HS5_ := (hb.cell (World.block_lt_of_cell? _ _ (hHeld.2.2.2.2.2.1))).trans (hHeld.2.2.2.2.2.1)
                    have HS6_ := (hb.cell (World.block_lt_of_cell? _ _ (hHeld.2.2.2.2.2.2.1))).trans (hHeld.2.2.2.2.2.2.1)
                    have HS7_ := (hb.cell (World.block_lt_of_cell? _ _ (hHeld.2.2.2.2.2.2.2))).trans (hHeld.2.2.2.2.2.2.2)
                    refine ⟨_, rfl, ?_⟩
                    have n0_ := Aside0.mk (Kd.R_below (by (with_reducible repeat (first | apply Kd.R_alloc | apply Kd.R_drewN | apply Kd.R_drew)); exact HO_4.out) hb)
                    have n1_ := Aside0.mk (Kd.R_below (by (with_reducible repeat (first | apply Kd.R_alloc | apply Kd.R_drewN | apply Kd.R_drew)); exact HO_5.out) hb)
                    have n2_ := Aside0.mk (Kd.R_below (by (with_reducible repeat (first | apply Kd.R_alloc | apply Kd.R_drewN | apply Kd.R_drew)); exact HO_317003.out) hb)
                    have n3_ := Aside0.mk (blk_below (g := gb316) (o := .cells #[.int .i64 x317000_2, .int .i64 x317001_2, .string x317002_2, u317003] 32 (0, 0)) (by (with_reducible repeat (first | refine blk_drewN ?_ _ | refine blk_drew ?_ | refine blk_alloc ?_ _)); exact BK316.out) hb)
                    have n4_ := Aside0.mk (blk_below (g := gb327) (o := .cells #[.int .i64 t322, .int .i64 t323, .int .i64 t324, .string t325] 36 (0, 0)) (by (with_reducible repeat (first | refine blk_drewN ?_ _ | refine blk_drew ?_ | refine blk_alloc ?_ _)); exact BK327.out) hb)
                    have n5_ := Aside0.mk (below_step (by repeat (first | (with_reducible first | exact HB.out | apply below_alloc | apply pw_below_drewN | apply below_drew1 | refine below_set ?_ GE316.out | refine below_set ?_ GE327.out) | exact HB.out)) hb)
                    clear HO_4
                    clear HO_5
                    clear HO_317003
                    clear BK316
                    clear BK327
                    clear HB
                    have HO_4 := n0_
                    have HO_5 := n1_
                    have HO_317003 := n2_
                    have BK316 := n3_
                    have BK327 := n4_
                    have HB := n5_
                    clear n0_ n1_ n2_ n3_ n4_ n5_
                    (try clear hb)
                    (try clear hb2)
                    (try clear hk)
                    (try clear hi)
                    refine hK.out _ _ ⟨(blk_cell BK327.out 0).trans rfl, (blk_cell BK327.out 1).trans rfl, (blk_cell BK327.out 2).trans rfl, (blk_cell BK327.out 3).trans rfl, HS4_, HS5_, HS6_, HS7_⟩ (fun hHeld => ?_)
                    clear hK K
                    refine norm_ (a' := ?_) ?_ ?_
                    rotate_left
                    ·
                     show Act.put _ (some 96) _ = _
                     simp only [Act.put, List.setIfInBounds_toArray, List.set_cons_zero, List.set_cons_succ, i64_w, i32_w]
                     rfl
                    refine pure_ (i := 17) (N := some 97) (v := ?_) (a' := ?_) #[true, true, true, true, true, true, true, true, true, true, true, true, true, true, true, true, true, true, false] rfl rfl (any_of HT_.out (by kernel_rfl)) (fun _ _ _ h => h) (Or.inl ⟨by rfl, ?_⟩) ?_ ?_
                    rotate_left
                    ·
                     intro w'
                     go_simp
                     with_reducible rfl
                    rotate_left
                    ·
                     simp only [Act.put, List.setIfInBounds_toArray, List.set_cons_zero, List.set_cons_succ, i64_w, i32_w]
                     rfl
                    refine pure_ (i := 18) (N := some 98) (v := ?_) (a' := ?_) #[true, true, true, true, true, true, true, true, true, true, true, true, true, true, true, true, true, true, true] rfl rfl (any_of HT_.out (by kernel_rfl)) (fun _ _ _ h => h) (Or.inl ⟨by rfl, ?_⟩) ?_ ?_
                    rotate_left
                    ·
                     intro w'
                     go_simp
                     with_reducible rfl
                    rotate_left
                    ·
                     simp only [Act.put, List.setIfInBounds_toArray, List.set_cons_zero, List.set_cons_succ, i64_w, i32_w]
                     rfl
                    refine done_ (done_of HT_.out (by kernel_rfl)) ?_
                    try go_wp2
                    go_meet
                    case rel => exact ⟨_, (!t329), (by first | rfl | (simp; done) | (simp [*]; done)), H', ⟨by have := HJ8.out; have := HK2.out; first | omega | exact Nat.le_refl _⟩, ⟨by (with_reducible repeat (first | apply Kd.R_alloc | apply Kd.R_drewN | apply Kd.R_drew)); exact HO_4.out⟩, ⟨by (with_reducible repeat (first | apply Kd.R_alloc | apply Kd.R_drewN | apply Kd.R_drew)); exact HO_5.out⟩, ⟨by (with_reducible repeat (first | apply Kd.R_alloc | apply Kd.R_drewN | apply Kd.R_drew)); exact HO_317003.out⟩, ⟨by (with_reducible repeat (first | refine blk_drewN ?_ _ | refine blk_drew ?_ | refine blk_alloc ?_ _)); exact BK316.out⟩, ⟨by (with_reducible repeat (first | refine blk_drewN ?_ _ | refine blk_drew ?_ | refine blk_alloc ?_ _)); exact BK327.out⟩, ⟨by repeat (first | (with_reducible first | exact HB.out | apply below_alloc | apply pw_below_drewN | apply below_drew1 | refine below_set ?_ GE316.out | refine below_set ?_ GE327.out) | exact HB.out)⟩⟩
                  ·
                   replace c41 := Bool.eq_false_iff.mpr c41
                   subst c41
                   have H1 : (none) = some r := by rw [if_neg (show ¬ (false = true) by decide)] at H; exact H
                   clear H
                   have H := H1
                   clear H1
                   exact absurd H (by simp)
                 ·
                  replace c40 := Bool.eq_false_iff.mpr c40
                  subst c40
                  have H1 : (none) = some r := by rw [if_neg (show ¬ (false = true) by decide)] at H; exact H
                  clear H
                  have H := H1
                  clear H1
                  exact absurd H (by simp)
                case rest =>
                 clear HC34
                 try clear c1
                 try clear c2
                 try clear p2
                 try clear c3
                 try clear p3
                 try clear q3
                 try clear hx3
                 try clear qi3
                 try clear c4
                 try clear c6
                 try clear c6b0
                 try clear c6b1
                 try clear p6
                 try clear c7
                 try clear c7b0
                 try clear c7b1
                 try clear c11
                 try clear c12
                 try clear c13
                 try clear c14
                 try clear c15
                 try clear c16
                 try clear c17
                 try clear c18
                 try clear c18b0
                 try clear c18b1
                 try clear c19
                 try clear c19b0
                 try clear c19b1
                 try clear c19b2
                 try clear c21
                 try clear c21b0
                 try clear c22
                 try clear c22b0
                 try clear c29
                 try clear c29b0
                 try clear c30
                 try clear c30b0
                 try clear p30
                 try clear q30
                 try clear hx30
                 try clear qi30
                 try clear c31
                 try clear c31b0
                 try clear p31
                 try clear q31
                 try clear hx31
                 try clear p32
                 try clear q32
                 try clear hx32
                 try clear c38
                 try clear c40
                 try clear c41
                 try clear c42
                 try clear c42b0
                 try clear hcz27_0
                 try clear hcz27_1
                 try clear hcz27_2
                 try clear hcz27_3
                 try clear hcz39_0
                 try clear hcz39_1
                 try clear hcz39_2
                 try clear hcz39_3
                 try clear hfz27_0
                 try clear hfz27_1
                 try clear hfz27_2
                 try clear hfz27_3
                 try clear hfz39_0
                 try clear hfz39_1
                 try clear hfz39_2
                 try clear hfz39_3
                 try clear hx301_0
                 try clear hx302_0
                 try clear hx307_0
                 try clear hx308_0
                 try clear hx308_1
                 try clear hx308_2
                 try clear hx308_3
                 try clear hx319_0
                 try clear hx319_1
                 try clear hx319_2
                 try clear hx319_3
                 try clear hx328_0
                 try clear hx328_1
                 try clear hx328_2
                 try clear hx328_3
                 try clear p2
                 try clear p3
                 try clear p301
                 try clear p302
                 try clear p307
                 try clear p308
                 try clear p319
                 try clear p328
                 try clear p6
                 try clear q3
                 try clear q301
                 try clear q302
                 try clear q307
                 try clear q308
                 try clear q319
                 try clear q328
                 obtain ⟨kq, x98_33, rfl, HA, HJ33, HO_4, HO_5, HO_317003, BK316, BK327, HB⟩ := hcut
                 cases kq with
                 | zero => exact absurd HA.out (by simp [laws_FnPieces.j2])
                 | succ kj33 =>
                  have H := HA.out
                  clear HA
                  simp only [laws_FnPieces.j2] at H
                  by_cases c47 : x98_33 = true
                  ·
                   subst c47
                   have H1 : (none) = some r := by rw [if_pos rfl] at H; exact H
                   clear H
                   have H := H1
                   clear H1
                   exact absurd H (by simp)
                  ·
                   replace c47 := Bool.eq_false_iff.mpr c47
                   subst c47
                   have H1 : (if 0 ≤ x9_2 then (if x9_2 < (t303.length : Int) then ((impl_BoxPut.f kj33 x317000_2 x317001_2 x317002_2 x317003_2 ((rd_T36 t303 x9_2).f0) ((rd_T36 t303 x9_2).f1) ((rd_T36 t303 x9_2).f2) ((rd_T36 t303 x9_2).f3)).bind fun bt331 => (if 3 < (t298.length : Int) then (if (t303.length : Int) = 0 then (none) else (if 0 ≤ (Int.tmod (rd t298 3) (t303.length : Int)) then (if (Int.tmod (rd t298 3) (t303.length : Int)) < (t303.length : Int) then ((impl_BoxPut.f kj33 bt331.1 bt331.2.1 bt331.2.2.1 bt331.2.2.2.1 ((rd_T36 t303 (Int.tmod (rd t298 3) (t303.length : Int))).f0) ((rd_T36 t303 (Int.tmod (rd t298 3) (t303.length : Int))).f1) ((rd_T36 t303 (Int.tmod (rd t298 3) (t303.length : Int))).f2) ((rd_T36 t303 (Int.tmod (rd t298 3) (t303.length : Int))).f3)).bind fun bt341 => (if bt331.2.2.2.2 = 0 then (if bt341.2.2.2.2 = 0 then (laws_FnPieces.l0 kj33 t297 t298 t303 t315 (wrap64 (x9_2 - 1)) bt341.1 bt341.2.1 bt341.2.2.1 bt341.2.2.2.1) else (none)) else (none))) else (none)) else (none))) else (none))) else (none)) else (none)) = some r := by rw [if_neg (show ¬ (false = true) by decide)] at H; exact H
                   clear H
                   have H := H1
                   clear H1
                   by_cases c48 : 0 ≤ x9_2
                   ·
                    rw [if_pos c48] at H
                    have c48b0 : decide (0 ≤ x9_2) = true := decide_eq_true c48
                    clear c48
                    by_cases c49 : x9_2 < (t303.length : Int)
                    ·
                     rw [if_pos c49] at H
                     have c49b0 : decide (x9_2 < (t303.length : Int)) = true := decide_eq_true c49
                     clear c49
                     replace H := Option.bind_eq_some_iff.mp H
                     obtain ⟨⟨t331, t332, t333, t334, t337⟩, A500, H⟩ := H
                     replace H : (if 3 < (t298.length : Int) then (if (t303.length : Int) = 0 then (none) else (if 0 ≤ (Int.tmod (rd t298 3) (t303.length : Int)) then (if (Int.tmod (rd t298 3) (t303.length : Int)) < (t303.length : Int) then ((impl_BoxPut.f kj33 t331 t332 t333 t334 ((rd_T36 t303 (Int.tmod (rd t298 3) (t303.length : Int))).f0) ((rd_T36 t303 (Int.tmod (rd t298 3) (t303.length : Int))).f1) ((rd_T36 t303 (Int.tmod (rd t298 3) (t303.length : Int))).f2) ((rd_T36 t303 (Int.tmod (rd t298 3) (t303.length : Int))).f3)).bind fun bt341 => (if t337 = 0 then (if bt341.2.2.2.2 = 0 then (laws_FnPieces.l0 kj33 t297 t298 t303 t315 (wrap64 (x9_2 - 1)) bt341.1 bt341.2.1 bt341.2.2.1 bt341.2.2.2.1) else (none)) else (none))) else (none)) else (none))) else (none)) = some r := H
                     have A50 := Aside0.mk A500
                     clear A500
                     by_cases c51 : 3 < (t298.length : Int)
                     ·
                      rw [if_pos c51] at H
                      have c51b0 : decide (3 < (t298.length : Int)) = true := decide_eq_true c51
                      have c51b1 : decide (3 < t298.length) = true := decide_eq_true (by omega)
                      clear c51
                      by_cases c52 : (t303.length : Int) = 0
                      ·
                       rw [if_pos c52] at H
                       exact absurd H (by simp)
                      ·
                       rw [if_neg c52] at H
                       have c52b0 : ((t303.length : Int) == 0) = false := beq_eq_false_iff_ne.mpr c52
                       have c52b1 : ((t303.length : Int) != 0) = true := bne_iff_ne.mpr c52
                       have c52b2 : ¬ (t303 = []) := fun h_ => c52 (by rw [h_]; rfl)
                       obtain ⟨ji53, hji53⟩ : ∃ j_ : Int, (Int.tmod (rd t298 3) (t303.length : Int)) = j_ := ⟨_, rfl⟩
                       replace H : (if 0 ≤ (ji53) then (if (ji53) < (t303.length : Int) then ((impl_BoxPut.f kj33 t331 t332 t333 t334 ((rd_T36 t303 (ji53)).f0) ((rd_T36 t303 (ji53)).f1) ((rd_T36 t303 (ji53)).f2) ((rd_T36 t303 (ji53)).f3)).bind fun bt341 => (if t337 = 0 then (if bt341.2.2.2.2 = 0 then (laws_FnPieces.l0 kj33 t297 t298 t303 t315 (wrap64 (x9_2 - 1)) bt341.1 bt341.2.1 bt341.2.2.1 bt341.2.2.2.1) else (none)) else (none))) else (none)) else (none)) = some r := by first | (rw [hji53] at H; exact H) | (simp only [hji53] at H ⊢; exact H)
                       (try rw [hji53] at A50)
                       by_cases c54 : 0 ≤ (ji53)
                       ·
                        rw [if_pos c54] at H
                        have c54b0 : decide (0 ≤ (ji53)) = true := decide_eq_true c54
                        clear c54
                        by_cases c55 : (ji53) < (t303.length : Int)
                        ·
                         rw [if_pos c55] at H
                         have c55b0 : decide ((ji53) < (t303.length : Int)) = true := decide_eq_true c55
                         clear c55
                         replace H := Option.bind_eq_some_iff.mp H
                         obtain ⟨⟨t341, t342, t343, t344, t347⟩, A560, H⟩ := H
                         replace H : (if t337 = 0 then (if t347 = 0 then (laws_FnPieces.l0 kj33 t297 t298 t303 t315 (wrap64 (x9_2 - 1)) t341 t342 t343 t344) else (none)) else (none)) = some r := H
                         have A56 := Aside0.mk A560
                         clear A560
                         by_cases c57 : t337 = 0
                         ·
                          rw [if_pos c57] at H
                          have c57b0 : (t337 == 0) = true := beq_iff_eq.mpr c57
                          have c57b1 : (t337 != 0) = false := bne_eq_false_iff_eq.mpr c57
                          clear c57
                          by_cases c58 : t347 = 0
                          ·
                           rw [if_pos c58] at H
                           have c58b0 : (t347 == 0) = true := beq_iff_eq.mpr c58
                           have c58b1 : (t347 != 0) = false := bne_eq_false_iff_eq.mpr c58
                           clear c58
                           have H' := Aside0.mk H
                           clear H
                           obtain ⟨Ao59, co59, eo59⟩ := Kd.R_slice HO_317003.out
                           subst eo59
                           try go_wp2
                           have n0_ := Aside0.mk (Kd.R_drew HO_4.out)
                           have n1_ := Aside0.mk (Kd.R_drew HO_5.out)
                           have n2_ := Aside0.mk (Kd.R_drew HO_317003.out)
                           have n3_ := Aside0.mk (blk_drew BK316.out)
                           have n4_ := Aside0.mk (blk_drew BK327.out)
                           have n5_ := Aside0.mk (below_drew1 HB.out)
                           clear HO_4
                           clear HO_5
                           clear HO_317003
                           clear BK316
                           clear BK327
                           clear HB
                           have HO_4 := n0_
                           have HO_5 := n1_
                           have HO_317003 := n2_
                           have BK316 := n3_
                           have BK327 := n4_
                           have HB := n5_
                           clear n0_ n1_ n2_ n3_ n4_ n5_
                           have p330 : 0 ≤ (x9_2 : Int) := of_decide_eq_true (by first | (with_reducible assumption) | assumption)
                           have q330 : x9_2 < (t303.length : Int) := of_decide_eq_true (by first | (with_reducible assumption) | assumption)
                           obtain ⟨ad330, e330, hx330_0, hx330_1, hx330_2, hx330_3⟩ := at_T36 (Kd.R_reads' HO_5.out).2.2 x9_2 p330 q330
                           obtain rfl : ad308 = ad330 := (by injection e330)
                           replace p330 := eq_true p330
                           replace q330 := eq_true q330
                           refine start_ (n := 12) (S := fun w' => w'.cell? ⟨gb316, 0, none⟩ = some (.int .i64 x317000_2) ∧ w'.cell? ⟨gb316, 1, none⟩ = some (.int .i64 x317001_2) ∧ w'.cell? ⟨gb316, 2, none⟩ = some (.string x317002_2) ∧ w'.cell? ⟨gb316, 3, none⟩ = some (.slice Ao59 x317003_2.length co59) ∧ w'.cell? (ad308.add ((x9_2).toNat * 4)) = some (.int .i64 ((rd_T36 t303 x9_2).f0)) ∧ w'.cell? ⟨(ad308.add ((x9_2).toNat * 4)).block, (ad308.add ((x9_2).toNat * 4)).off + 1, none⟩ = some (.int .i64 ((rd_T36 t303 x9_2).f1)) ∧ w'.cell? ⟨(ad308.add ((x9_2).toNat * 4)).block, (ad308.add ((x9_2).toNat * 4)).off + 2, none⟩ = some (.int .i64 ((rd_T36 t303 x9_2).f2)) ∧ w'.cell? ⟨(ad308.add ((x9_2).toNat * 4)).block, (ad308.add ((x9_2).toNat * 4)).off + 3, none⟩ = some (.string ((rd_T36 t303 x9_2).f3))) (ds := []) #[false, false, false, false, false, false, false, false, false, false, false, false] (by kernel_rfl) rfl rfl ⟨(blk_cell BK316.out 0).trans rfl, (blk_cell BK316.out 1).trans rfl, (blk_cell BK316.out 2).trans rfl, (blk_cell BK316.out 3).trans rfl, hx330_0, hx330_1, hx330_2, hx330_3⟩ (fun hHeld => ?_); refine with_tabW laws_FnPieces.tab16 laws_FnPieces.bits16 (fun HT_ HW_ => ?_)
                           generalize wc.drew = w60 at HO_4 HO_5 HO_317003 BK316 BK327 HB hx330_0 hx330_1 hx330_2 hx330_3 hHeld ⊢
                           refine pure_ (i := 1) (N := some 101) (v := ?_) (a' := ?_) #[false, true, false, false, false, false, false, false, false, false, false, false] rfl rfl (any_of HT_.out (by kernel_rfl)) (fun _ _ _ h => h) (Or.inl ⟨by rfl, ?_⟩) ?_ ?_
                           rotate_left
                           ·
                            intro w'
                            go_simp
                            with_reducible rfl
                           rotate_left
                           ·
                            simp only [Act.put, List.setIfInBounds_toArray, List.set_cons_zero, List.set_cons_succ, i64_w, i32_w]
                            rfl
                           refine pure_ (i := 2) (N := some 102) (v := ?_) (a' := ?_) #[false, true, true, false, false, false, false, false, false, false, false, false] rfl rfl (any_of HT_.out (by kernel_rfl)) (fun _ _ _ h => h) (Or.inl ⟨by rfl, ?_⟩) ?_ ?_
                           rotate_left
                           ·
                            intro w'
                            go_simp
                            with_reducible rfl
                           rotate_left
                           ·
                            simp only [Act.put, List.setIfInBounds_toArray, List.set_cons_zero, List.set_cons_succ, i64_w, i32_w]
                            rfl
                           refine pure_ (i := 3) (N := some 103) (v := ?_) (a' := ?_) #[false, true, true, true, false, false, false, false, false, false, false, false] rfl rfl (any_of HT_.out (by kernel_rfl)) (fun _ _ _ h => h) (Or.inl ⟨by rfl, ?_⟩) ?_ ?_
                           rotate_left
                           ·
                            intro w'
                            go_simp
                            with_reducible rfl
                           rotate_left
                           ·
                            simp only [Act.put, List.setIfInBounds_toArray, List.set_cons_zero, List.set_cons_succ, i64_w, i32_w]
                            rfl
                           refine take_ (i := 0) (N := some 100) (v := ?_) (a' := ?_) #[true, true, true, true, false, false, false, false, false, false, false, false] rfl rfl (take_ofW HT_.out HW_.out (by kernel_rfl)) (fun _ _ _ h => h) (Or.inl ⟨by rfl, ?_⟩) hHeld ?_ ?_
                           rotate_left
                           ·
                            rintro w' ⟨s0, s1, s2, s3, s4, s5, s6, s7⟩
                            go_simp
                            with_reducible rfl
                           rotate_left
                           ·
                            simp only [Act.put, List.setIfInBounds_toArray, List.set_cons_zero, List.set_cons_succ, i64_w, i32_w]
                            rfl
                           refine take_ (i := 4) (N := some 104) (v := ?_) (a' := ?_) #[true, true, true, true, true, false, false, false, false, false, false, false] rfl rfl (take_ofW HT_.out HW_.out (by kernel_rfl)) (fun _ _ _ h => h) (Or.inl ⟨by rfl, ?_⟩) hHeld ?_ ?_
                           rotate_left
                           ·
                            rintro w' ⟨s0, s1, s2, s3, s4, s5, s6, s7⟩
                            go_simp
                            with_reducible rfl
                           rotate_left
                           ·
                            simp only [Act.put, List.setIfInBounds_toArray, List.set_cons_zero, List.set_cons_succ, i64_w, i32_w]
                            rfl
                           refine join_ (σ := Value × Nat) 2 #[true, true, true, true, true, true, true, true, true, true, false, false] (fun s_ => [(105, .tuple #[.agg #[.int .i64 t331, .int .i64 t332, .string t333, s_.1], .int .i64 t337]), (14, .pointer (some ⟨s_.2, 0, none⟩)), (99, .tuple #[.agg #[.int .i64 t331, .int .i64 t332, .string t333, s_.1], .int .i64 t337]), (106, .agg #[.int .i64 t331, .int .i64 t332, .string t333, s_.1]), (107, .int .i64 t337)]) (fun s_ w' => (w'.cell? ⟨gb316, 0, none⟩ = some (.int .i64 x317000_2) ∧ w'.cell? ⟨gb316, 1, none⟩ = some (.int .i64 x317001_2) ∧ w'.cell? ⟨gb316, 2, none⟩ = some (.string x317002_2) ∧ w'.cell? ⟨gb316, 3, none⟩ = some (.slice Ao59 x317003_2.length co59) ∧ w'.cell? (ad308.add ((x9_2).toNat * 4)) = some (.int .i64 ((rd_T36 t303 x9_2).f0)) ∧ w'.cell? ⟨(ad308.add ((x9_2).toNat * 4)).block, (ad308.add ((x9_2).toNat * 4)).off + 1, none⟩ = some (.int .i64 ((rd_T36 t303 x9_2).f1)) ∧ w'.cell? ⟨(ad308.add ((x9_2).toNat * 4)).block, (ad308.add ((x9_2).toNat * 4)).off + 2, none⟩ = some (.int .i64 ((rd_T36 t303 x9_2).f2)) ∧ w'.cell? ⟨(ad308.add ((x9_2).toNat * 4)).block, (ad308.add ((x9_2).toNat * 4)).off + 3, none⟩ = some (.string ((rd_T36 t303 x9_2).f3))) ∧ (Kd.R Kd.bool 4 w' w.heap.size (fun k_ => some k_ ≠ (.slice Ao59 x317003_2.length co59 : Value).ownBlock) s_.1 t334) ∧ (Kd.R Kd.bool 4 w' w.heap.size (fun k_ => some k_ ≠ (s_.1 : Value).ownBlock) (.slice Ao59 x317003_2.length co59) x317003_2) ∧ (Kd.R (Kd.int .i64) 3 w' w.heap.size (fun _ => True) (.slice (some ad301) t298.length co13) t298) ∧ (Kd.R k36 36 w' w.heap.size (fun k_ => k_ ≠ gb327) (.slice (some ad308) t303.length co24) t303) ∧ (w'.heap[gb316]? = some (.cells #[.int .i64 x317000_2, .int .i64 x317001_2, .string x317002_2, .slice Ao59 x317003_2.length co59] 32 (0, 0))) ∧ (w'.heap[gb327]? = some (.cells #[.int .i64 t322, .int .i64 t323, .int .i64 t324, .string t325] 36 (0, 0))) ∧ (w'.heap[s_.2]? = some (.cells #[.int .i64 0, .int .i64 0, .string (⟨#[]⟩ : ByteArray), .slice none 0 0] 32 (0, 0))) ∧ (w.heap.size ≤ s_.2) ∧ (w.heap.size ≤ s_.2) ∧ (gb316 ≠ s_.2) ∧ (s_.2 ≠ gb316) ∧ (gb327 ≠ s_.2) ∧ (s_.2 ≠ gb327) ∧ (Below w.heap.size w w')) ?_ ?_
                           rotate_left
                           ·
                            intro hCont
                            refine two_ (i := 5) (j := 9) (Ni := some 105) (Nj := some 14) #[true, true, true, true, true, true, false, false, false, false, false, false] #[true, true, true, true, true, false, false, false, false, true, false, false] rfl rfl rfl rfl (two_of HT_.out (by kernel_rfl)) (by decide) (by decide) (fun K hK => ?_) (fun K hK => ?_)
                            ·
                             skip
                             refine goes_ Try.func19 (by kernel_rfl) rfl #[.agg #[.int .i64 x317000_2, .int .i64 x317001_2, .string x317002_2, .slice Ao59 x317003_2.length co59], .agg #[.int .i64 ((rd_T36 t303 x9_2).f0), .int .i64 ((rd_T36 t303 x9_2).f1), .int .i64 ((rd_T36 t303 x9_2).f2), .string ((rd_T36 t303 x9_2).f3)]] (by rfl) rfl rfl (by (try simp only [List.map_toArray, List.map_cons, List.map_nil]); first | done | rfl | (simp only [List.length_drop, List.length_take]; rfl)) ?_
                             with_reducible refine (impl_BoxPut.calls kj33 x317000_2 x317001_2 x317002_2 _ _ x317003_2 ((rd_T36 t303 x9_2).f0) ((rd_T36 t303 x9_2).f1) ((rd_T36 t303 x9_2).f2) ((rd_T36 t303 x9_2).f3) t331 t332 t333 t334 t337 _ ?side1 ?side2 A50.out).mono ?_
                             (case side1 => repeat (first | exact (Kd.R_reads' HO_317003.out).2.2 | (with_reducible refine Kd.C_alloc ?_ _) | (with_reducible refine Kd.C_drewN ?_ _) | (with_reducible refine Kd.C_drew ?_)))
                             (case side2 => exact (Kd.R_reads' HO_317003.out).2.1)
                             rintro e w61 ⟨v335, rfl, ho0, hb⟩
                             have HS4_ := (hb.cell (World.block_lt_of_cell? _ _ (hHeld.2.2.2.2.1))).trans (hHeld.2.2.2.2.1)
                             have HS5_ := (hb.cell (World.block_lt_of_cell? _ _ (hHeld.2.2.2.2.2.1))).trans (hHeld.2.2.2.2.2.1)
                             have HS6_ := (hb.cell (World.block_lt_of_cell? _ _ (hHeld.2.2.2.2.2.2.1))).trans (hHeld.2.2.2.2.2.2.1)
                             have HS7_ := (hb.cell (World.block_lt_of_cell? _ _ (hHeld.2.2.2.2.2.2.2))).trans (hHeld.2.2.2.2.2.2.2)
                             refine ⟨_, rfl, ?_⟩
                             have n0_ := Aside0.mk (Kd.R_below (by (with_reducible repeat (first | apply Kd.R_alloc | apply Kd.R_drewN | apply Kd.R_drew)); exact HO_4.out) hb)
                             have n1_ := Aside0.mk (Kd.R_below (by (with_reducible repeat (first | apply Kd.R_alloc | apply Kd.R_drewN | apply Kd.R_drew)); exact HO_5.out) hb)
                             have n2_ := Aside0.mk (Kd.R_elder' (by (with_reducible repeat (first | apply Kd.R_alloc | apply Kd.R_drewN | apply Kd.R_drew)); exact HO_317003.out) (Kd.R_base ho0) hb)
                             have n3_ := Aside0.mk (Kd.R_lower (Kd.R_new' ho0 (Kd.R_lt (by (with_reducible repeat (first | apply Kd.R_alloc | apply Kd.R_drewN | apply Kd.R_drew)); exact HO_317003.out))) (below_size (by repeat (first | (with_reducible first | exact HB.out | apply below_alloc | apply pw_below_drewN | apply below_drew1 | refine below_set ?_ GE316.out | refine below_set ?_ GE327.out) | exact HB.out))))
                             have n4_ := Aside0.mk (blk_below (g := gb316) (o := .cells #[.int .i64 x317000_2, .int .i64 x317001_2, .string x317002_2, .slice Ao59 x317003_2.length co59] 32 (0, 0)) (by (with_reducible repeat (first | refine blk_drewN ?_ _ | refine blk_drew ?_ | refine blk_alloc ?_ _)); exact BK316.out) hb)
                             have n5_ := Aside0.mk (blk_below (g := gb327) (o := .cells #[.int .i64 t322, .int .i64 t323, .int .i64 t324, .string t325] 36 (0, 0)) (by (with_reducible repeat (first | refine blk_drewN ?_ _ | refine blk_drew ?_ | refine blk_alloc ?_ _)); exact BK327.out) hb)
                             have n6_ := Aside0.mk (below_step (by repeat (first | (with_reducible first | exact HB.out | apply below_alloc | apply pw_below_drewN | apply below_drew1 | refine below_set ?_ GE316.out | refine below_set ?_ GE327.out) | exact HB.out)) hb)
                             clear HO_4
                             clear HO_5
                             clear HO_317003
                             clear BK316
                             clear BK327
                             clear HB
                             have HO_4 := n0_
                             have HO_5 := n1_
                             have HO_317003 := n2_
                             have HO336 := n3_
                             have BK316 := n4_
                             have BK327 := n5_
                             have HB := n6_
                             clear n0_ n1_ n2_ n3_ n4_ n5_ n6_
                             (try clear hb)
                             (try clear hb2)
                             (try clear hk)
                             (try clear hi)
                             (try clear ho0)
                             refine hK.out _ _ ⟨(blk_cell BK316.out 0).trans rfl, (blk_cell BK316.out 1).trans rfl, (blk_cell BK316.out 2).trans rfl, (blk_cell BK316.out 3).trans rfl, HS4_, HS5_, HS6_, HS7_⟩ (fun hHeld => ?_)
                             clear hK K
                             refine norm_ (a' := ?_) ?_ ?_
                             rotate_left
                             ·
                              show Act.put _ (some 105) _ = _
                              simp only [Act.put, List.setIfInBounds_toArray, List.set_cons_zero, List.set_cons_succ, i64_w, i32_w]
                              rfl
                             refine pure_ (i := 6) (N := some 99) (v := ?_) (a' := ?_) #[true, true, true, true, true, true, true, false, false, false, false, false] rfl rfl (any_of HT_.out (by kernel_rfl)) (fun _ _ _ h => h) (Or.inl ⟨by rfl, ?_⟩) ?_ ?_
                             rotate_left
                             ·
                              intro w'
                              go_simp
                              with_reducible rfl
                             rotate_left
                             ·
                              simp only [Act.put, List.setIfInBounds_toArray, List.set_cons_zero, List.set_cons_succ, i64_w, i32_w]
                              rfl
                             refine pure_ (i := 7) (N := some 106) (v := ?_) (a' := ?_) #[true, true, true, true, true, true, true, true, false, false, false, false] rfl rfl (any_of HT_.out (by kernel_rfl)) (fun _ _ _ h => h) (Or.inl ⟨by rfl, ?_⟩) ?_ ?_
                             rotate_left
                             ·
                              intro w'
                              go_simp
                              with_reducible rfl
                             rotate_left
                             ·
                              simp only [Act.put, List.setIfInBounds_toArray, List.set_cons_zero, List.set_cons_succ, i64_w, i32_w]
                              rfl
                             refine pure_ (i := 8) (N := some 107) (v := ?_) (a' := ?_) #[true, true, true, true, true, true, true, true, true, false, false, false] rfl rfl (any_of HT_.out (by kernel_rfl)) (fun _ _ _ h => h) (Or.inl ⟨by rfl, ?_⟩) ?_ ?_
                             rotate_left
                             ·
                              intro w'
                              go_simp
                              with_reducible rfl
                             rotate_left
                             ·
                              simp only [Act.put, List.setIfInBounds_toArray, List.set_cons_zero, List.set_cons_succ, i64_w, i32_w]
                              rfl
                             refine one_ (i := 9) (N := some 14) #[true, true, true, true, true, true, true, true, true, true, false, false] rfl rfl (one_of HT_.out (by kernel_rfl)) (by decide) (fun K hK => ?_)
                             refine box_step ?hg (N := 14) ?hd (cs := #[.int .i64 0, .int .i64 0, .string (⟨#[]⟩ : ByteArray), .slice none 0 0]) (t := 32) ?hr ?_; (case hd => rfl); (case hg => rfl); (case hr => first | (go_simp; done) | (go_simp; rfl))
                             intro gb338 hg w62 hbox hb
                             have HS4_ := (hb.cell (World.block_lt_of_cell? _ _ (hHeld.2.2.2.2.1))).trans (hHeld.2.2.2.2.1)
                             have HS5_ := (hb.cell (World.block_lt_of_cell? _ _ (hHeld.2.2.2.2.2.1))).trans (hHeld.2.2.2.2.2.1)
                             have HS6_ := (hb.cell (World.block_lt_of_cell? _ _ (hHeld.2.2.2.2.2.2.1))).trans (hHeld.2.2.2.2.2.2.1)
                             have HS7_ := (hb.cell (World.block_lt_of_cell? _ _ (hHeld.2.2.2.2.2.2.2))).trans (hHeld.2.2.2.2.2.2.2)
                             have n0_ := Aside0.mk (Kd.R_below (by (with_reducible repeat (first | apply Kd.R_alloc | apply Kd.R_drewN | apply Kd.R_drew)); exact HO_4.out) hb)
                             have n1_ := Aside0.mk (Kd.R_below (by (with_reducible repeat (first | apply Kd.R_alloc | apply Kd.R_drewN | apply Kd.R_drew)); exact HO_5.out) hb)
                             have n2_ := Aside0.mk (Kd.R_below (by (with_reducible repeat (first | apply Kd.R_alloc | apply Kd.R_drewN | apply Kd.R_drew)); exact HO_317003.out) hb)
                             have n3_ := Aside0.mk (Kd.R_below (by (with_reducible repeat (first | apply Kd.R_alloc | apply Kd.R_drewN | apply Kd.R_drew)); exact HO336.out) hb)
                             have n4_ := Aside0.mk (blk_below (g := gb316) (o := .cells #[.int .i64 x317000_2, .int .i64 x317001_2, .string x317002_2, .slice Ao59 x317003_2.length co59] 32 (0, 0)) (by (with_reducible repeat (first | refine blk_drewN ?_ _ | refine blk_drew ?_ | refine blk_alloc ?_ _)); exact BK316.out) hb)
                             have n5_ := Aside0.mk (blk_below (g := gb327) (o := .cells #[.int .i64 t322, .int .i64 t323, .int .i64 t324, .string t325] 36 (0, 0)) (by (with_reducible repeat (first | refine blk_drewN ?_ _ | refine blk_drew ?_ | refine blk_alloc ?_ _)); exact BK327.out) hb)
                             have n6_ := Aside0.mk (below_step (by repeat (first | (with_reducible first | exact HB.out | apply below_alloc | apply pw_below_drewN | apply below_drew1 | refine below_set ?_ GE316.out | refine below_set ?_ GE327.out) | exact HB.out)) hb)
                             have n7_ := Aside0.mk (hbox)
                             have n8_ := Aside0.mk ((by rw [hg]; exact (below_size (by repeat (first | (with_reducible first | exact HB.out | apply below_alloc | apply pw_below_drewN | apply below_drew1 | refine below_set ?_ GE316.out | refine below_set ?_ GE327.out) | exact HB.out))) : w.heap.size ≤ gb338))
                             have n9_ := Aside0.mk ((by rw [hg]; exact (below_size (by repeat (first | (with_reducible first | exact HB.out | apply below_alloc | apply pw_below_drewN | apply below_drew1 | refine below_set ?_ GE316.out | refine below_set ?_ GE327.out) | exact HB.out))) : w.heap.size ≤ gb338))
                             have n10_ := Aside0.mk ((by rw [hg]; exact Nat.ne_of_lt (blk_lt (g := gb316) (o := .cells #[.int .i64 x317000_2, .int .i64 x317001_2, .string x317002_2, .slice Ao59 x317003_2.length co59] 32 (0, 0)) (by (with_reducible repeat (first | refine blk_drewN ?_ _ | refine blk_drew ?_ | refine blk_alloc ?_ _)); exact BK316.out)) : gb316 ≠ gb338))
                             have n11_ := Aside0.mk ((by rw [hg]; exact Nat.ne_of_gt (blk_lt (g := gb316) (o := .cells #[.int .i64 x317000_2, .int .i64 x317001_2, .string x317002_2, .slice Ao59 x317003_2.length co59] 32 (0, 0)) (by (with_reducible repeat (first | refine blk_drewN ?_ _ | refine blk_drew ?_ | refine blk_alloc ?_ _)); exact BK316.out)) : gb338 ≠ gb316))
                             have n12_ := Aside0.mk ((by rw [hg]; exact Nat.ne_of_lt (blk_lt (g := gb327) (o := .cells #[.int .i64 t322, .int .i64 t323, .int .i64 t324, .string t325] 36 (0, 0)) (by (with_reducible repeat (first | refine blk_drewN ?_ _ | refine blk_drew ?_ | refine blk_alloc ?_ _)); exact BK327.out)) : gb327 ≠ gb338))
                             have n13_ := Aside0.mk ((by rw [hg]; exact Nat.ne_of_gt (blk_lt (g := gb327) (o := .cells #[.int .i64 t322, .int .i64 t323, .int .i64 t324, .string t325] 36 (0, 0)) (by (with_reducible repeat (first | refine blk_drewN ?_ _ | refine blk_drew ?_ | refine blk_alloc ?_ _)); exact BK327.out)) : gb338 ≠ gb327))
                             clear HO_4
                             clear HO_5
                             clear HO_317003
                             clear HO336
                             clear BK316
                             clear BK327
                             clear HB
                             have HO_4 := n0_
                             have HO_5 := n1_
                             have HO_317003 := n2_
                             have HO336 := n3_
                             have BK316 := n4_
                             have BK327 := n5_
                             have HB := n6_
                             have BK338 := n7_
                             have GW338 := n8_
                             have GE338 := n9_
                             have NB316_338 := n10_
                             have NB338_316 := n11_
                             have NB327_338 := n12_
                             have NB338_327 := n13_
                             clear n0_ n1_ n2_ n3_ n4_ n5_ n6_ n7_ n8_ n9_ n10_ n11_ n12_ n13_
                             clear hb hbox hg
                             refine hK.out _ _ ⟨(blk_cell BK316.out 0).trans rfl, (blk_cell BK316.out 1).trans rfl, (blk_cell BK316.out 2).trans rfl, (blk_cell BK316.out 3).trans rfl, HS4_, HS5_, HS6_, HS7_⟩ (fun hHeld => ?_)
                             clear hK K
                             refine norm_ (a' := ?_) ?_ ?_
                             rotate_left
                             ·
                              show Act.put _ (some 14) _ = _
                              simp only [Act.put, List.setIfInBounds_toArray, List.set_cons_zero, List.set_cons_succ, i64_w, i32_w]
                              rfl
                             exact norm_ (by simp only [putAll, Act.put, List.setIfInBounds_toArray, List.set_cons_zero, List.set_cons_succ]) (hCont (v335, gb338) _ ⟨hHeld, (by (with_reducible repeat (first | apply Kd.R_alloc | apply Kd.R_drewN | apply Kd.R_drew)); exact Kd.R_mono HO336.out (fun _ hk => hk.2)), (by (with_reducible repeat (first | apply Kd.R_alloc | apply Kd.R_drewN | apply Kd.R_drew)); exact Kd.R_mono HO_317003.out (fun _ hk => hk.2)), (by (with_reducible repeat (first | apply Kd.R_alloc | apply Kd.R_drewN | apply Kd.R_drew)); exact HO_4.out), (by (with_reducible repeat (first | apply Kd.R_alloc | apply Kd.R_drewN | apply Kd.R_drew)); exact HO_5.out), (by (with_reducible repeat (first | refine blk_drewN ?_ _ | refine blk_drew ?_ | refine blk_alloc ?_ _)); exact BK316.out), (by (with_reducible repeat (first | refine blk_drewN ?_ _ | refine blk_drew ?_ | refine blk_alloc ?_ _)); exact BK327.out), (by (with_reducible repeat (first | refine blk_drewN ?_ _ | refine blk_drew ?_ | refine blk_alloc ?_ _)); exact BK338.out), GW338.out, GE338.out, NB316_338.out, NB338_316.out, NB327_338.out, NB338_327.out, (by repeat (first | (with_reducible first | exact HB.out | apply below_alloc | apply pw_below_drewN | apply below_drew1 | refine below_set ?_ GE316.out | refine below_set ?_ GE327.out | refine below_set ?_ GE338.out) | exact HB.out))⟩)
                            ·
                             skip
                             refine box_step ?hg (N := 14) ?hd (cs := #[.int .i64 0, .int .i64 0, .string (⟨#[]⟩ : ByteArray), .slice none 0 0]) (t := 32) ?hr ?_; (case hd => rfl); (case hg => rfl); (case hr => first | (go_simp; done) | (go_simp; rfl))
                             intro gb338 hg w61 hbox hb
                             have HS4_ := (hb.cell (World.block_lt_of_cell? _ _ (hHeld.2.2.2.2.1))).trans (hHeld.2.2.2.2.1)
                             have HS5_ := (hb.cell (World.block_lt_of_cell? _ _ (hHeld.2.2.2.2.2.1))).trans (hHeld.2.2.2.2.2.1)
                             have HS6_ := (hb.cell (World.block_lt_of_cell? _ _ (hHeld.2.2.2.2.2.2.1))).trans (hHeld.2.2.2.2.2.2.1)
                             have HS7_ := (hb.cell (World.block_lt_of_cell? _ _ (hHeld.2.2.2.2.2.2.2))).trans (hHeld.2.2.2.2.2.2.2)
                             have n0_ := Aside0.mk (Kd.R_below (by (with_reducible repeat (first | apply Kd.R_alloc | apply Kd.R_drewN | apply Kd.R_drew)); exact HO_4.out) hb)
                             have n1_ := Aside0.mk (Kd.R_below (by (with_reducible repeat (first | apply Kd.R_alloc | apply Kd.R_drewN | apply Kd.R_drew)); exact HO_5.out) hb)
                             have n2_ := Aside0.mk (Kd.R_below (by (with_reducible repeat (first | apply Kd.R_alloc | apply Kd.R_drewN | apply Kd.R_drew)); exact HO_317003.out) hb)
                             have n3_ := Aside0.mk (blk_below (g := gb316) (o := .cells #[.int .i64 x317000_2, .int .i64 x317001_2, .string x317002_2, .slice Ao59 x317003_2.length co59] 32 (0, 0)) (by (with_reducible repeat (first | refine blk_drewN ?_ _ | refine blk_drew ?_ | refine blk_alloc ?_ _)); exact BK316.out) hb)
                             have n4_ := Aside0.mk (blk_below (g := gb327) (o := .cells #[.int .i64 t322, .int .i64 t323, .int .i64 t324, .string t325] 36 (0, 0)) (by (with_reducible repeat (first | refine blk_drewN ?_ _ | refine blk_drew ?_ | refine blk_alloc ?_ _)); exact BK327.out) hb)
                             have n5_ := Aside0.mk (below_step (by repeat (first | (with_reducible first | exact HB.out | apply below_alloc | apply pw_below_drewN | apply below_drew1 | refine below_set ?_ GE316.out | refine below_set ?_ GE327.out) | exact HB.out)) hb)
                             have n6_ := Aside0.mk (hbox)
                             have n7_ := Aside0.mk ((by rw [hg]; exact (below_size (by repeat (first | (with_reducible first | exact HB.out | apply below_alloc | apply pw_below_drewN | apply below_drew1 | refine below_set ?_ GE316.out | refine below_set ?_ GE327.out) | exact HB.out))) : w.heap.size ≤ gb338))
                             have n8_ := Aside0.mk ((by rw [hg]; exact (below_size (by repeat (first | (with_reducible first | exact HB.out | apply below_alloc | apply pw_below_drewN | apply below_drew1 | refine below_set ?_ GE316.out | refine below_set ?_ GE327.out) | exact HB.out))) : w.heap.size ≤ gb338))
                             have n9_ := Aside0.mk ((by rw [hg]; exact Nat.ne_of_lt (blk_lt (g := gb316) (o := .cells #[.int .i64 x317000_2, .int .i64 x317001_2, .string x317002_2, .slice Ao59 x317003_2.length co59] 32 (0, 0)) (by (with_reducible repeat (first | refine blk_drewN ?_ _ | refine blk_drew ?_ | refine blk_alloc ?_ _)); exact BK316.out)) : gb316 ≠ gb338))
                             have n10_ := Aside0.mk ((by rw [hg]; exact Nat.ne_of_gt (blk_lt (g := gb316) (o := .cells #[.int .i64 x317000_2, .int .i64 x317001_2, .string x317002_2, .slice Ao59 x317003_2.length co59] 32 (0, 0)) (by (with_reducible repeat (first | refine blk_drewN ?_ _ | refine blk_drew ?_ | refine blk_alloc ?_ _)); exact BK316.out)) : gb338 ≠ gb316))
                             have n11_ := Aside0.mk ((by rw [hg]; exact Nat.ne_of_lt (blk_lt (g := gb327) (o := .cells #[.int .i64 t322, .int .i64 t323, .int .i64 t324, .string t325] 36 (0, 0)) (by (with_reducible repeat (first | refine blk_drewN ?_ _ | refine blk_drew ?_ | refine blk_alloc ?_ _)); exact BK327.out)) : gb327 ≠ gb338))
                             have n12_ := Aside0.mk ((by rw [hg]; exact Nat.ne_of_gt (blk_lt (g := gb327) (o := .cells #[.int .i64 t322, .int .i64 t323, .int .i64 t324, .string t325] 36 (0, 0)) (by (with_reducible repeat (first | refine blk_drewN ?_ _ | refine blk_drew ?_ | refine blk_alloc ?_ _)); exact BK327.out)) : gb338 ≠ gb327))
                             clear HO_4
                             clear HO_5
                             clear HO_317003
                             clear BK316
                             clear BK327
                             clear HB
                             have HO_4 := n0_
                             have HO_5 := n1_
                             have HO_317003 := n2_
                             have BK316 := n3_
                             have BK327 := n4_
                             have HB := n5_
                             have BK338 := n6_
                             have GW338 := n7_
                             have GE338 := n8_
                             have NB316_338 := n9_
                             have NB338_316 := n10_
                             have NB327_338 := n11_
                             have NB338_327 := n12_
                             clear n0_ n1_ n2_ n3_ n4_ n5_ n6_ n7_ n8_ n9_ n10_ n11_ n12_
                             clear hb hbox hg
                             refine hK.out _ _ ⟨(blk_cell BK316.out 0).trans rfl, (blk_cell BK316.out 1).trans rfl, (blk_cell BK316.out 2).trans rfl, (blk_cell BK316.out 3).trans rfl, HS4_, HS5_, HS6_, HS7_⟩ (fun hHeld => ?_)
                             clear hK K
                             refine norm_ (a' := ?_) ?_ ?_
                             rotate_left
                             ·
                              show Act.put _ (some 14) _ = _
                              simp only [Act.put, List.setIfInBounds_toArray, List.set_cons_zero, List.set_cons_succ, i64_w, i32_w]
                              rfl
                             refine one_ (i := 5) (N := some 105) #[true, true, true, true, true, true, false, false, false, true, false, false] rfl rfl (one_of HT_.out (by kernel_rfl)) (by decide) (fun K hK => ?_)
                             refine goes_ Try.func19 (by kernel_rfl) rfl #[.agg #[.int .i64 x317000_2, .int .i64 x317001_2, .string x317002_2, .slice Ao59 x317003_2.length co59], .agg #[.int .i64 ((rd_T36 t303 x9_2).f0), .int .i64 ((rd_T36 t303 x9_2).f1), .int .i64 ((rd_T36 t303 x9_2).f2), .string ((rd_T36 t303 x9_2).f3)]] (by rfl) rfl rfl (by (try simp only [List.map_toArray, List.map_cons, List.map_nil]); first | done | rfl | (simp only [List.length_drop, List.length_take]; rfl)) ?_
                             with_reducible refine (impl_BoxPut.calls kj33 x317000_2 x317001_2 x317002_2 _ _ x317003_2 ((rd_T36 t303 x9_2).f0) ((rd_T36 t303 x9_2).f1) ((rd_T36 t303 x9_2).f2) ((rd_T36 t303 x9_2).f3) t331 t332 t333 t334 t337 _ ?side1 ?side2 A50.out).mono ?_
                             (case side1 => repeat (first | exact (Kd.R_reads' HO_317003.out).2.2 | (with_reducible refine Kd.C_alloc ?_ _) | (with_reducible refine Kd.C_drewN ?_ _) | (with_reducible refine Kd.C_drew ?_)))
                             (case side2 => exact (Kd.R_reads' HO_317003.out).2.1)
                             rintro e w62 ⟨v335, rfl, ho0, hb⟩
                             have HS4_ := (hb.cell (World.block_lt_of_cell? _ _ (hHeld.2.2.2.2.1))).trans (hHeld.2.2.2.2.1)
                             have HS5_ := (hb.cell (World.block_lt_of_cell? _ _ (hHeld.2.2.2.2.2.1))).trans (hHeld.2.2.2.2.2.1)
                             have HS6_ := (hb.cell (World.block_lt_of_cell? _ _ (hHeld.2.2.2.2.2.2.1))).trans (hHeld.2.2.2.2.2.2.1)
                             have HS7_ := (hb.cell (World.block_lt_of_cell? _ _ (hHeld.2.2.2.2.2.2.2))).trans (hHeld.2.2.2.2.2.2.2)
                             refine ⟨_, rfl, ?_⟩
                             have n0_ := Aside0.mk (Kd.R_below (by (with_reducible repeat (first | apply Kd.R_alloc | apply Kd.R_drewN | apply Kd.R_drew)); exact HO_4.out) hb)
                             have n1_ := Aside0.mk (Kd.R_below (by (with_reducible repeat (first | apply Kd.R_alloc | apply Kd.R_drewN | apply Kd.R_drew)); exact HO_5.out) hb)
                             have n2_ := Aside0.mk (Kd.R_elder' (by (with_reducible repeat (first | apply Kd.R_alloc | apply Kd.R_drewN | apply Kd.R_drew)); exact HO_317003.out) (Kd.R_base ho0) hb)
                             have n3_ := Aside0.mk (Kd.R_lower (Kd.R_new' ho0 (Kd.R_lt (by (with_reducible repeat (first | apply Kd.R_alloc | apply Kd.R_drewN | apply Kd.R_drew)); exact HO_317003.out))) (below_size (by repeat (first | (with_reducible first | exact HB.out | apply below_alloc | apply pw_below_drewN | apply below_drew1 | refine below_set ?_ GE316.out | refine below_set ?_ GE327.out | refine below_set ?_ GE338.out) | exact HB.out))))
                             have n4_ := Aside0.mk (blk_below (g := gb316) (o := .cells #[.int .i64 x317000_2, .int .i64 x317001_2, .string x317002_2, .slice Ao59 x317003_2.length co59] 32 (0, 0)) (by (with_reducible repeat (first | refine blk_drewN ?_ _ | refine blk_drew ?_ | refine blk_alloc ?_ _)); exact BK316.out) hb)
                             have n5_ := Aside0.mk (blk_below (g := gb327) (o := .cells #[.int .i64 t322, .int .i64 t323, .int .i64 t324, .string t325] 36 (0, 0)) (by (with_reducible repeat (first | refine blk_drewN ?_ _ | refine blk_drew ?_ | refine blk_alloc ?_ _)); exact BK327.out) hb)
                             have n6_ := Aside0.mk (blk_below (g := gb338) (o := .cells #[.int .i64 0, .int .i64 0, .string (⟨#[]⟩ : ByteArray), .slice none 0 0] 32 (0, 0)) (by (with_reducible repeat (first | refine blk_drewN ?_ _ | refine blk_drew ?_ | refine blk_alloc ?_ _)); exact BK338.out) hb)
                             have n7_ := Aside0.mk (below_step (by repeat (first | (with_reducible first | exact HB.out | apply below_alloc | apply pw_below_drewN | apply below_drew1 | refine below_set ?_ GE316.out | refine below_set ?_ GE327.out | refine below_set ?_ GE338.out) | exact HB.out)) hb)
                             clear HO_4
                             clear HO_5
                             clear HO_317003
                             clear BK316
                             clear BK327
                             clear BK338
                             clear HB
                             have HO_4 := n0_
                             have HO_5 := n1_
                             have HO_317003 := n2_
                             have HO336 := n3_
                             have BK316 := n4_
                             have BK327 := n5_
                             have BK338 := n6_
                             have HB := n7_
                             clear n0_ n1_ n2_ n3_ n4_ n5_ n6_ n7_
                             (try clear hb)
                             (try clear hb2)
                             (try clear hk)
                             (try clear hi)
                             (try clear ho0)
                             refine hK.out _ _ ⟨(blk_cell BK316.out 0).trans rfl, (blk_cell BK316.out 1).trans rfl, (blk_cell BK316.out 2).trans rfl, (blk_cell BK316.out 3).trans rfl, HS4_, HS5_, HS6_, HS7_⟩ (fun hHeld => ?_)
                             clear hK K
                             refine norm_ (a' := ?_) ?_ ?_
                             rotate_left
                             ·
                              show Act.put _ (some 105) _ = _
                              simp only [Act.put, List.setIfInBounds_toArray, List.set_cons_zero, List.set_cons_succ, i64_w, i32_w]
                              rfl
                             refine pure_ (i := 6) (N := some 99) (v := ?_) (a' := ?_) #[true, true, true, true, true, true, true, false, false, true, false, false] rfl rfl (any_of HT_.out (by kernel_rfl)) (fun _ _ _ h => h) (Or.inl ⟨by rfl, ?_⟩) ?_ ?_
                             rotate_left
                             ·
                              intro w'
                              go_simp
                              with_reducible rfl
                             rotate_left
                             ·
                              simp only [Act.put, List.setIfInBounds_toArray, List.set_cons_zero, List.set_cons_succ, i64_w, i32_w]
                              rfl
                             refine pure_ (i := 7) (N := some 106) (v := ?_) (a' := ?_) #[true, true, true, true, true, true, true, true, false, true, false, false] rfl rfl (any_of HT_.out (by kernel_rfl)) (fun _ _ _ h => h) (Or.inl ⟨by rfl, ?_⟩) ?_ ?_
                             rotate_left
                             ·
                              intro w'
                              go_simp
                              with_reducible rfl
                             rotate_left
                             ·
                              simp only [Act.put, List.setIfInBounds_toArray, List.set_cons_zero, List.set_cons_succ, i64_w, i32_w]
                              rfl
                             refine pure_ (i := 8) (N := some 107) (v := ?_) (a' := ?_) #[true, true, true, true, true, true, true, true, true, true, false, false] rfl rfl (any_of HT_.out (by kernel_rfl)) (fun _ _ _ h => h) (Or.inl ⟨by rfl, ?_⟩) ?_ ?_
                             rotate_left
                             ·
                              intro w'
                              go_simp
                              with_reducible rfl
                             rotate_left
                             ·
                              simp only [Act.put, List.setIfInBounds_toArray, List.set_cons_zero, List.set_cons_succ, i64_w, i32_w]
                              rfl
                             exact norm_ (by simp only [putAll, Act.put, List.setIfInBounds_toArray, List.set_cons_zero, List.set_cons_succ]) (hCont (v335, gb338) _ ⟨hHeld, (by (with_reducible repeat (first | apply Kd.R_alloc | apply Kd.R_drewN | apply Kd.R_drew)); exact Kd.R_mono HO336.out (fun _ hk => hk.2)), (by (with_reducible repeat (first | apply Kd.R_alloc | apply Kd.R_drewN | apply Kd.R_drew)); exact Kd.R_mono HO_317003.out (fun _ hk => hk.2)), (by (with_reducible repeat (first | apply Kd.R_alloc | apply Kd.R_drewN | apply Kd.R_drew)); exact HO_4.out), (by (with_reducible repeat (first | apply Kd.R_alloc | apply Kd.R_drewN | apply Kd.R_drew)); exact HO_5.out), (by (with_reducible repeat (first | refine blk_drewN ?_ _ | refine blk_drew ?_ | refine blk_alloc ?_ _)); exact BK316.out), (by (with_reducible repeat (first | refine blk_drewN ?_ _ | refine blk_drew ?_ | refine blk_alloc ?_ _)); exact BK327.out), (by (with_reducible repeat (first | refine blk_drewN ?_ _ | refine blk_drew ?_ | refine blk_alloc ?_ _)); exact BK338.out), GW338.out, GE338.out, NB316_338.out, NB338_316.out, NB327_338.out, NB338_327.out, (by repeat (first | (with_reducible first | exact HB.out | apply below_alloc | apply pw_below_drewN | apply below_drew1 | refine below_set ?_ GE316.out | refine below_set ?_ GE327.out | refine below_set ?_ GE338.out) | exact HB.out))⟩)
                           rintro ⟨v335, gb338⟩ w63 ⟨hS_, h0_, h1_, h2_, h3_, h4_, h5_, h6_, h7_, h8_, h9_, h10_, h11_, h12_, h13_⟩
                           have n0_ : Aside0 (Kd.R Kd.bool 4 w63 w.heap.size (fun k_ => some k_ ≠ (.slice Ao59 x317003_2.length co59 : Value).ownBlock) v335 t334) := ⟨h0_⟩
                           have n1_ : Aside0 (Kd.R Kd.bool 4 w63 w.heap.size (fun k_ => some k_ ≠ (v335 : Value).ownBlock) (.slice Ao59 x317003_2.length co59) x317003_2) := ⟨h1_⟩
                           have n2_ : Aside0 (Kd.R (Kd.int .i64) 3 w63 w.heap.size (fun _ => True) (.slice (some ad301) t298.length co13) t298) := ⟨h2_⟩
                           have n3_ : Aside0 (Kd.R k36 36 w63 w.heap.size (fun k_ => k_ ≠ gb327) (.slice (some ad308) t303.length co24) t303) := ⟨h3_⟩
                           have n4_ : Aside0 (w63.heap[gb316]? = some (.cells #[.int .i64 x317000_2, .int .i64 x317001_2, .string x317002_2, .slice Ao59 x317003_2.length co59] 32 (0, 0))) := ⟨h4_⟩
                           have n5_ : Aside0 (w63.heap[gb327]? = some (.cells #[.int .i64 t322, .int .i64 t323, .int .i64 t324, .string t325] 36 (0, 0))) := ⟨h5_⟩
                           have n6_ : Aside0 (w63.heap[gb338]? = some (.cells #[.int .i64 0, .int .i64 0, .string (⟨#[]⟩ : ByteArray), .slice none 0 0] 32 (0, 0))) := ⟨h6_⟩
                           have n7_ : Aside0 (w.heap.size ≤ gb338) := ⟨h7_⟩
                           have n8_ : Aside0 (w.heap.size ≤ gb338) := ⟨h8_⟩
                           have n9_ : Aside0 (gb316 ≠ gb338) := ⟨h9_⟩
                           have n10_ : Aside0 (gb338 ≠ gb316) := ⟨h10_⟩
                           have n11_ : Aside0 (gb327 ≠ gb338) := ⟨h11_⟩
                           have n12_ : Aside0 (gb338 ≠ gb327) := ⟨h12_⟩
                           have n13_ : Aside0 (Below w.heap.size w w63) := ⟨h13_⟩
                           clear HO_4
                           clear HO_5
                           clear HO_317003
                           clear BK316
                           clear BK327
                           clear HB
                           clear h0_ h1_ h2_ h3_ h4_ h5_ h6_ h7_ h8_ h9_ h10_ h11_ h12_ h13_
                           have HO336 := n0_
                           have HO_317003 := n1_
                           have HO_4 := n2_
                           have HO_5 := n3_
                           have BK316 := n4_
                           have BK327 := n5_
                           have BK338 := n6_
                           have GW338 := n7_
                           have GE338 := n8_
                           have NB316_338 := n9_
                           have NB338_316 := n10_
                           have NB327_338 := n11_
                           have NB338_327 := n12_
                           have HB := n13_
                           clear n0_ n1_ n2_ n3_ n4_ n5_ n6_ n7_ n8_ n9_ n10_ n11_ n12_ n13_
                           have hHeld : w63.cell? ⟨gb316, 0, none⟩ = some (.int .i64 x317000_2) ∧ w63.cell? ⟨gb316, 1, none⟩ = some (.int .i64 x317001_2) ∧ w63.cell? ⟨gb316, 2, none⟩ = some (.string x317002_2) ∧ w63.cell? ⟨gb316, 3, none⟩ = some (.slice Ao59 x317003_2.length co59) ∧ w63.cell? (ad308.add ((x9_2).toNat * 4)) = some (.int .i64 ((rd_T36 t303 x9_2).f0)) ∧ w63.cell? ⟨(ad308.add ((x9_2).toNat * 4)).block, (ad308.add ((x9_2).toNat * 4)).off + 1, none⟩ = some (.int .i64 ((rd_T36 t303 x9_2).f1)) ∧ w63.cell? ⟨(ad308.add ((x9_2).toNat * 4)).block, (ad308.add ((x9_2).toNat * 4)).off + 2, none⟩ = some (.int .i64 ((rd_T36 t303 x9_2).f2)) ∧ w63.cell? ⟨(ad308.add ((x9_2).toNat * 4)).block, (ad308.add ((x9_2).toNat * 4)).off + 3, none⟩ = some (.string ((rd_T36 t303 x9_2).f3)) := hS_
                           obtain ⟨Ao67, co67, eo67⟩ := Kd.R_slice HO336.out
                           (first | subst eo67 | (injection eo67 with f1_ f2_ f3_; have f4_ := f1_.symm; have f5_ := f3_.symm; clear f1_ f2_ f3_; subst f4_; subst f5_))
                           refine norm_ (a' := ?_) ?_ ?_
                           rotate_left
                           ·
                            simp only [putAll, Act.put, List.setIfInBounds_toArray, List.set_cons_zero, List.set_cons_succ]
                            rfl
                           refine one_ (i := 10) (N := none) #[true, true, true, true, true, true, true, true, true, true, true, false] rfl rfl (one_of HT_.out (by kernel_rfl)) (by decide) (fun K hK => ?_)
                           have hs64 : w63.cell? ⟨gb338, 0, none⟩ = some (.int .i64 0) := (blk_cell BK338.out 0).trans rfl
                           have hfs64 := blk_frozen BK338.out 0
                           have hns64_0 := NB316_338.out
                           have hns64_1 := NB327_338.out
                           have hms64_0 := NB338_316.out
                           have hms64_1 := NB338_327.out
                           have hs65 : w63.cell? ⟨gb338, 1, none⟩ = some (.int .i64 0) := (blk_cell BK338.out 1).trans rfl
                           have hfs65 := blk_frozen BK338.out 1
                           have hns65_0 := NB316_338.out
                           have hns65_1 := NB327_338.out
                           have hms65_0 := NB338_316.out
                           have hms65_1 := NB338_327.out
                           have hs66 : w63.cell? ⟨gb338, 2, none⟩ = some (.string (⟨#[]⟩ : ByteArray)) := (blk_cell BK338.out 2).trans rfl
                           have hfs66 := blk_frozen BK338.out 2
                           have hns66_0 := NB316_338.out
                           have hns66_1 := NB327_338.out
                           have hms66_0 := NB338_316.out
                           have hms66_1 := NB338_327.out
                           have hs68 : w63.cell? ⟨gb338, 3, none⟩ = some (.slice none 0 0) := (blk_cell BK338.out 3).trans rfl
                           have hfs68 := blk_frozen BK338.out 3
                           have hns68_0 := NB316_338.out
                           have hns68_1 := NB327_338.out
                           have hms68_0 := NB338_316.out
                           have hms68_1 := NB338_327.out
                           refine skip_ (w1 := ?_) (by rfl) rfl ?_ ?_
                           rotate_left
                           ·
                            go_simp
                            rfl
                           have hblk0_HO_5 := Kd.own_blk (Kd.R_ne HO_5.out BK338.out (by decide))
                           refine hK.out _ _ ⟨((far4 NB316_338.out _ _ _ _).trans hHeld.1), ((far4 NB316_338.out _ _ _ _).trans hHeld.2.1), ((far4 NB316_338.out _ _ _ _).trans hHeld.2.2.1), ((far4 NB316_338.out _ _ _ _).trans hHeld.2.2.2.1), ((far4 (by first | exact hblk0_HO_5 | (rw [add_block]; exact hblk0_HO_5)) _ _ _ _).trans hHeld.2.2.2.2.1), ((far4 (by first | exact hblk0_HO_5 | (rw [add_block]; exact hblk0_HO_5)) _ _ _ _).trans hHeld.2.2.2.2.2.1), ((far4 (by first | exact hblk0_HO_5 | (rw [add_block]; exact hblk0_HO_5)) _ _ _ _).trans hHeld.2.2.2.2.2.2.1), ((far4 (by first | exact hblk0_HO_5 | (rw [add_block]; exact hblk0_HO_5)) _ _ _ _).trans hHeld.2.2.2.2.2.2.2)⟩ (fun hHeld => ?_)
                           (try clear hblk0_HO_5)
                           clear hK K
                           refine pure_ (i := 11) (N := some 15) (v := ?_) (a' := ?_) #[true, true, true, true, true, true, true, true, true, true, true, true] rfl rfl (any_of HT_.out (by kernel_rfl)) (fun _ _ _ h => h) (Or.inl ⟨by rfl, ?_⟩) ?_ ?_
                           rotate_left
                           ·
                            intro w'
                            go_simp
                            with_reducible rfl
                           rotate_left
                           ·
                            simp only [Act.put, List.setIfInBounds_toArray, List.set_cons_zero, List.set_cons_succ, i64_w, i32_w]
                            rfl
                           refine done_ (done_of HT_.out (by kernel_rfl)) ?_
                           try go_wp2
                           have n0_ : Aside0 (Kd.R (Kd.int .i64) 3 ((((w63.setCell ⟨gb338, 0, none⟩ (.int .i64 t331)).setCell ⟨gb338, 1, none⟩ (.int .i64 t332)).setCell ⟨gb338, 2, none⟩ (.string t333)).setCell ⟨gb338, 3, none⟩ (.slice Ao67 t334.length co67)) w.heap.size (fun _ => True) (.slice (some ad301) t298.length co13) t298) := ⟨by (with_reducible repeat (first | apply Kd.R_alloc | apply Kd.R_drewN | apply Kd.R_drew)); exact Kd.R_mono (Kd.R_far (p := ⟨gb338, 3, none⟩) (Kd.R_far (p := ⟨gb338, 2, none⟩) (Kd.R_far (p := ⟨gb338, 1, none⟩) (Kd.R_far (p := ⟨gb338, 0, none⟩) (Kd.R_types HO_4.out BK338.out (by decide)) (fun _ hk => hk.2) (.int .i64 t331)) (fun _ hk => hk.2) (.int .i64 t332)) (fun _ hk => hk.2) (.string t333)) (fun _ hk => hk.2) (.slice Ao67 t334.length co67)) (fun _ hk => trivial)⟩
                           have n1_ : Aside0 (Kd.R k36 36 ((((w63.setCell ⟨gb338, 0, none⟩ (.int .i64 t331)).setCell ⟨gb338, 1, none⟩ (.int .i64 t332)).setCell ⟨gb338, 2, none⟩ (.string t333)).setCell ⟨gb338, 3, none⟩ (.slice Ao67 t334.length co67)) w.heap.size (fun k_ => k_ ≠ gb327) (.slice (some ad308) t303.length co24) t303) := ⟨by (with_reducible repeat (first | apply Kd.R_alloc | apply Kd.R_drewN | apply Kd.R_drew)); exact Kd.R_mono (Kd.R_far (p := ⟨gb338, 3, none⟩) (Kd.R_far (p := ⟨gb338, 2, none⟩) (Kd.R_far (p := ⟨gb338, 1, none⟩) (Kd.R_far (p := ⟨gb338, 0, none⟩) (Kd.R_types HO_5.out BK338.out (by decide)) (fun _ hk => hk.2) (.int .i64 t331)) (fun _ hk => hk.2) (.int .i64 t332)) (fun _ hk => hk.2) (.string t333)) (fun _ hk => hk.2) (.slice Ao67 t334.length co67)) (fun _ hk => hk.1)⟩
                           have n2_ : Aside0 (Kd.R Kd.bool 4 ((((w63.setCell ⟨gb338, 0, none⟩ (.int .i64 t331)).setCell ⟨gb338, 1, none⟩ (.int .i64 t332)).setCell ⟨gb338, 2, none⟩ (.string t333)).setCell ⟨gb338, 3, none⟩ (.slice Ao67 t334.length co67)) w.heap.size (fun k_ => some k_ ≠ (.slice Ao67 t334.length co67 : Value).ownBlock) (.slice Ao59 x317003_2.length co59) x317003_2) := ⟨by (with_reducible repeat (first | apply Kd.R_alloc | apply Kd.R_drewN | apply Kd.R_drew)); exact Kd.R_mono (Kd.R_far (p := ⟨gb338, 3, none⟩) (Kd.R_far (p := ⟨gb338, 2, none⟩) (Kd.R_far (p := ⟨gb338, 1, none⟩) (Kd.R_far (p := ⟨gb338, 0, none⟩) (Kd.R_types HO_317003.out BK338.out (by decide)) (fun _ hk => hk.2) (.int .i64 t331)) (fun _ hk => hk.2) (.int .i64 t332)) (fun _ hk => hk.2) (.string t333)) (fun _ hk => hk.2) (.slice Ao67 t334.length co67)) (fun _ hk => hk.1)⟩
                           have n3_ : Aside0 (Kd.R Kd.bool 4 ((((w63.setCell ⟨gb338, 0, none⟩ (.int .i64 t331)).setCell ⟨gb338, 1, none⟩ (.int .i64 t332)).setCell ⟨gb338, 2, none⟩ (.string t333)).setCell ⟨gb338, 3, none⟩ (.slice Ao67 t334.length co67)) w.heap.size (fun k_ => some k_ ≠ (.slice Ao59 x317003_2.length co59 : Value).ownBlock) (.slice Ao67 t334.length co67) t334) := ⟨by (with_reducible repeat (first | apply Kd.R_alloc | apply Kd.R_drewN | apply Kd.R_drew)); exact Kd.R_mono (Kd.R_far (p := ⟨gb338, 3, none⟩) (Kd.R_far (p := ⟨gb338, 2, none⟩) (Kd.R_far (p := ⟨gb338, 1, none⟩) (Kd.R_far (p := ⟨gb338, 0, none⟩) (Kd.R_types HO336.out BK338.out (by decide)) (fun _ hk => hk.2) (.int .i64 t331)) (fun _ hk => hk.2) (.int .i64 t332)) (fun _ hk => hk.2) (.string t333)) (fun _ hk => hk.2) (.slice Ao67 t334.length co67)) (fun _ hk => hk.1)⟩
                           have n4_ : Aside0 (((((w63.setCell ⟨gb338, 0, none⟩ (.int .i64 t331)).setCell ⟨gb338, 1, none⟩ (.int .i64 t332)).setCell ⟨gb338, 2, none⟩ (.string t333)).setCell ⟨gb338, 3, none⟩ (.slice Ao67 t334.length co67)).heap[gb316]? = some (.cells #[.int .i64 x317000_2, .int .i64 x317001_2, .string x317002_2, .slice Ao59 x317003_2.length co59] 32 (0, 0))) := ⟨by (with_reducible repeat (first | refine blk_drewN ?_ _ | refine blk_drew ?_ | refine blk_alloc ?_ _)); refine blk_far ?_ NB316_338.out _; (with_reducible repeat (first | refine blk_drewN ?_ _ | refine blk_drew ?_ | refine blk_alloc ?_ _)); refine blk_far ?_ NB316_338.out _; (with_reducible repeat (first | refine blk_drewN ?_ _ | refine blk_drew ?_ | refine blk_alloc ?_ _)); refine blk_far ?_ NB316_338.out _; (with_reducible repeat (first | refine blk_drewN ?_ _ | refine blk_drew ?_ | refine blk_alloc ?_ _)); refine blk_far ?_ NB316_338.out _; (with_reducible repeat (first | refine blk_drewN ?_ _ | refine blk_drew ?_ | refine blk_alloc ?_ _)); exact BK316.out⟩
                           have n5_ : Aside0 (((((w63.setCell ⟨gb338, 0, none⟩ (.int .i64 t331)).setCell ⟨gb338, 1, none⟩ (.int .i64 t332)).setCell ⟨gb338, 2, none⟩ (.string t333)).setCell ⟨gb338, 3, none⟩ (.slice Ao67 t334.length co67)).heap[gb327]? = some (.cells #[.int .i64 t322, .int .i64 t323, .int .i64 t324, .string t325] 36 (0, 0))) := ⟨by (with_reducible repeat (first | refine blk_drewN ?_ _ | refine blk_drew ?_ | refine blk_alloc ?_ _)); refine blk_far ?_ NB327_338.out _; (with_reducible repeat (first | refine blk_drewN ?_ _ | refine blk_drew ?_ | refine blk_alloc ?_ _)); refine blk_far ?_ NB327_338.out _; (with_reducible repeat (first | refine blk_drewN ?_ _ | refine blk_drew ?_ | refine blk_alloc ?_ _)); refine blk_far ?_ NB327_338.out _; (with_reducible repeat (first | refine blk_drewN ?_ _ | refine blk_drew ?_ | refine blk_alloc ?_ _)); refine blk_far ?_ NB327_338.out _; (with_reducible repeat (first | refine blk_drewN ?_ _ | refine blk_drew ?_ | refine blk_alloc ?_ _)); exact BK327.out⟩
                           have n6_ : Aside0 (((((w63.setCell ⟨gb338, 0, none⟩ (.int .i64 t331)).setCell ⟨gb338, 1, none⟩ (.int .i64 t332)).setCell ⟨gb338, 2, none⟩ (.string t333)).setCell ⟨gb338, 3, none⟩ (.slice Ao67 t334.length co67)).heap[gb338]? = some (.cells #[.int .i64 t331, .int .i64 t332, .string t333, .slice Ao67 t334.length co67] 32 (0, 0))) := ⟨by (with_reducible repeat (first | refine blk_drewN ?_ _ | refine blk_drew ?_ | refine blk_alloc ?_ _)); refine blk_put (cs := #[.int .i64 t331, .int .i64 t332, .string t333, .slice none 0 0]) ?_ 3 _ rfl; (with_reducible repeat (first | refine blk_drewN ?_ _ | refine blk_drew ?_ | refine blk_alloc ?_ _)); refine blk_put (cs := #[.int .i64 t331, .int .i64 t332, .string (⟨#[]⟩ : ByteArray), .slice none 0 0]) ?_ 2 _ rfl; (with_reducible repeat (first | refine blk_drewN ?_ _ | refine blk_drew ?_ | refine blk_alloc ?_ _)); refine blk_put (cs := #[.int .i64 t331, .int .i64 0, .string (⟨#[]⟩ : ByteArray), .slice none 0 0]) ?_ 1 _ rfl; (with_reducible repeat (first | refine blk_drewN ?_ _ | refine blk_drew ?_ | refine blk_alloc ?_ _)); refine blk_put (cs := #[.int .i64 0, .int .i64 0, .string (⟨#[]⟩ : ByteArray), .slice none 0 0]) ?_ 0 _ rfl; (with_reducible repeat (first | refine blk_drewN ?_ _ | refine blk_drew ?_ | refine blk_alloc ?_ _)); exact BK338.out⟩
                           have n7_ : Aside0 (Below w.heap.size w ((((w63.setCell ⟨gb338, 0, none⟩ (.int .i64 t331)).setCell ⟨gb338, 1, none⟩ (.int .i64 t332)).setCell ⟨gb338, 2, none⟩ (.string t333)).setCell ⟨gb338, 3, none⟩ (.slice Ao67 t334.length co67))) := ⟨by repeat (first | (with_reducible first | exact HB.out | apply below_alloc | apply pw_below_drewN | apply below_drew1 | refine below_set ?_ GE316.out | refine below_set ?_ GE327.out | refine below_set ?_ GE338.out) | exact HB.out)⟩
                           (try clear HO_4)
                           (try clear HO_5)
                           (try clear HO_317003)
                           (try clear HO336)
                           (try clear BK316)
                           (try clear BK327)
                           (try clear BK338)
                           (try clear HB)
                           generalize ((((w63.setCell ⟨gb338, 0, none⟩ (.int .i64 t331)).setCell ⟨gb338, 1, none⟩ (.int .i64 t332)).setCell ⟨gb338, 2, none⟩ (.string t333)).setCell ⟨gb338, 3, none⟩ (.slice Ao67 t334.length co67)) = w69 at n0_ n1_ n2_ n3_ n4_ n5_ n6_ n7_ ⊢
                           have HO_4 := n0_
                           have HO_5 := n1_
                           have HO_317003 := n2_
                           have HO336 := n3_
                           have BK316 := n4_
                           have BK327 := n5_
                           have BK338 := n6_
                           have HB := n7_
                           clear n0_ n1_ n2_ n3_ n4_ n5_ n6_ n7_
                           have n0_ := Aside0.mk (Kd.R_drew HO_4.out)
                           have n1_ := Aside0.mk (Kd.R_drew HO_5.out)
                           have n2_ := Aside0.mk (Kd.R_drew HO_317003.out)
                           have n3_ := Aside0.mk (Kd.R_drew HO336.out)
                           have n4_ := Aside0.mk (blk_drew BK316.out)
                           have n5_ := Aside0.mk (blk_drew BK327.out)
                           have n6_ := Aside0.mk (blk_drew BK338.out)
                           have n7_ := Aside0.mk (below_drew1 HB.out)
                           clear HO_4
                           clear HO_5
                           clear HO_317003
                           clear HO336
                           clear BK316
                           clear BK327
                           clear BK338
                           clear HB
                           have HO_4 := n0_
                           have HO_5 := n1_
                           have HO_317003 := n2_
                           have HO336 := n3_
                           have BK316 := n4_
                           have BK327 := n5_
                           have BK338 := n6_
                           have HB := n7_
                           clear n0_ n1_ n2_ n3_ n4_ n5_ n6_ n7_
                           have p339 : 0 ≤ (3 : Int) := (by omega)
                           have q339 : 3 < (t298.length : Int) := of_decide_eq_true (by first | (with_reducible assumption) | assumption)
                           obtain ⟨ad339, e339, hx339_0⟩ := Kd.at_int (Kd.R_reads' HO_4.out).2.2 3 p339 q339
                           obtain rfl : ad301 = ad339 := (by injection e339)
                           (try simp only [show (3 : Int).toNat = 3 from rfl, Nat.reduceMul, Nat.reduceEqDiff, Go.Addr.add, ↓reduceIte] at hx339_0)
                           have qi339 : (3 < t298.length) = True := eq_true (by omega)
                           (try rw [show ((3 : Int)).toNat = 3 from rfl] at hx339_0)
                           replace p339 := eq_true p339
                           replace q339 := eq_true q339
                           have p340 : 0 ≤ ((ji53) : Int) := of_decide_eq_true (by first | (with_reducible assumption) | assumption)
                           have q340 : (ji53) < (t303.length : Int) := of_decide_eq_true (by first | (with_reducible assumption) | assumption)
                           obtain ⟨ad340, e340, hx340_0, hx340_1, hx340_2, hx340_3⟩ := at_T36 (Kd.R_reads' HO_5.out).2.2 (ji53) p340 q340
                           obtain rfl : ad308 = ad340 := (by injection e340)
                           replace p340 := eq_true p340
                           replace q340 := eq_true q340
                           refine start_ (n := 17) (S := fun w' => w'.cell? ⟨gb338, 0, none⟩ = some (.int .i64 t331) ∧ w'.cell? ⟨gb338, 1, none⟩ = some (.int .i64 t332) ∧ w'.cell? ⟨gb338, 2, none⟩ = some (.string t333) ∧ w'.cell? ⟨gb338, 3, none⟩ = some (.slice Ao67 t334.length co67) ∧ w'.cell? ⟨ad301.block, ad301.off + 3, none⟩ = some (.int .i64 (rd t298 3)) ∧ w'.cell? (ad308.add (((ji53)).toNat * 4)) = some (.int .i64 ((rd_T36 t303 (ji53)).f0)) ∧ w'.cell? ⟨(ad308.add (((ji53)).toNat * 4)).block, (ad308.add (((ji53)).toNat * 4)).off + 1, none⟩ = some (.int .i64 ((rd_T36 t303 (ji53)).f1)) ∧ w'.cell? ⟨(ad308.add (((ji53)).toNat * 4)).block, (ad308.add (((ji53)).toNat * 4)).off + 2, none⟩ = some (.int .i64 ((rd_T36 t303 (ji53)).f2)) ∧ w'.cell? ⟨(ad308.add (((ji53)).toNat * 4)).block, (ad308.add (((ji53)).toNat * 4)).off + 3, none⟩ = some (.string ((rd_T36 t303 (ji53)).f3))) (ds := []) #[false, false, false, false, false, false, false, false, false, false, false, false, false, false, false, false, false] (by kernel_rfl) rfl rfl ⟨(blk_cell BK338.out 0).trans rfl, (blk_cell BK338.out 1).trans rfl, (blk_cell BK338.out 2).trans rfl, (blk_cell BK338.out 3).trans rfl, hx339_0, hx340_0, hx340_1, hx340_2, hx340_3⟩ (fun hHeld => ?_); refine with_tabW laws_FnPieces.tab17 laws_FnPieces.bits17 (fun HT_ HW_ => ?_)
                           generalize w69.drew = w70 at HO_4 HO_5 HO_317003 HO336 BK316 BK327 BK338 HB hx339_0 hx340_0 hx340_1 hx340_2 hx340_3 hHeld ⊢
                           refine pure_ (i := 1) (N := some 110) (v := ?_) (a' := ?_) #[false, true, false, false, false, false, false, false, false, false, false, false, false, false, false, false, false] rfl rfl (any_of HT_.out (by kernel_rfl)) (fun _ _ _ h => h) (Or.inl ⟨by rfl, ?_⟩) ?_ ?_
                           rotate_left
                           ·
                            intro w'
                            go_simp
                            with_reducible rfl
                           rotate_left
                           ·
                            simp only [Act.put, List.setIfInBounds_toArray, List.set_cons_zero, List.set_cons_succ, i64_w, i32_w]
                            rfl
                           refine pure_ (i := 2) (N := some 111) (v := ?_) (a' := ?_) #[false, true, true, false, false, false, false, false, false, false, false, false, false, false, false, false, false] rfl rfl (any_of HT_.out (by kernel_rfl)) (fun _ _ _ h => h) (Or.inl ⟨by rfl, ?_⟩) ?_ ?_
                           rotate_left
                           ·
                            intro w'
                            go_simp
                            with_reducible rfl
                           rotate_left
                           ·
                            simp only [Act.put, List.setIfInBounds_toArray, List.set_cons_zero, List.set_cons_succ, i64_w, i32_w]
                            rfl
                           refine pure_ (i := 3) (N := some 112) (v := ?_) (a' := ?_) #[false, true, true, true, false, false, false, false, false, false, false, false, false, false, false, false, false] rfl rfl (any_of HT_.out (by kernel_rfl)) (fun _ _ _ h => h) (Or.inl ⟨by rfl, ?_⟩) ?_ ?_
                           rotate_left
                           ·
                            intro w'
                            go_simp
                            with_reducible rfl
                           rotate_left
                           ·
                            simp only [Act.put, List.setIfInBounds_toArray, List.set_cons_zero, List.set_cons_succ, i64_w, i32_w]
                            rfl
                           refine pure_ (i := 5) (N := some 114) (v := ?_) (a' := ?_) #[false, true, true, true, false, true, false, false, false, false, false, false, false, false, false, false, false] rfl rfl (any_of HT_.out (by kernel_rfl)) (fun _ _ _ h => h) (Or.inl ⟨by rfl, ?_⟩) ?_ ?_
                           rotate_left
                           ·
                            intro w'
                            go_simp
                            with_reducible rfl
                           rotate_left
                           ·
                            simp only [Act.put, List.setIfInBounds_toArray, List.set_cons_zero, List.set_cons_succ, i64_w, i32_w]
                            rfl
                           refine pure_ (i := 6) (N := some 115) (v := ?_) (a' := ?_) #[false, true, true, true, false, true, true, false, false, false, false, false, false, false, false, false, false] rfl rfl (any_of HT_.out (by kernel_rfl)) (fun _ _ _ h => h) (Or.inl ⟨by rfl, ?_⟩) ?_ ?_
                           rotate_left
                           ·
                            intro w'
                            go_simp
                            with_reducible rfl
                           rotate_left
                           ·
                            simp only [Act.put, List.setIfInBounds_toArray, List.set_cons_zero, List.set_cons_succ, i64_w, i32_w]
                            rfl
                           refine take_ (i := 0) (N := some 109) (v := ?_) (a' := ?_) #[true, true, true, true, false, true, true, false, false, false, false, false, false, false, false, false, false] rfl rfl (take_ofW HT_.out HW_.out (by kernel_rfl)) (fun _ _ _ h => h) (Or.inl ⟨by rfl, ?_⟩) hHeld ?_ ?_
                           rotate_left
                           ·
                            rintro w' ⟨s0, s1, s2, s3, s4, s5, s6, s7, s8⟩
                            go_simp
                            with_reducible rfl
                           rotate_left
                           ·
                            simp only [Act.put, List.setIfInBounds_toArray, List.set_cons_zero, List.set_cons_succ, i64_w, i32_w]
                            rfl
                           refine take_ (i := 4) (N := some 113) (v := ?_) (a' := ?_) #[true, true, true, true, true, true, true, false, false, false, false, false, false, false, false, false, false] rfl rfl (take_ofW HT_.out HW_.out (by kernel_rfl)) (fun _ _ _ h => h) (Or.inl ⟨by rfl, ?_⟩) hHeld ?_ ?_
                           rotate_left
                           ·
                            rintro w' ⟨s0, s1, s2, s3, s4, s5, s6, s7, s8⟩
                            go_simp
                            with_reducible rfl
                           rotate_left
                           ·
                            simp only [Act.put, List.setIfInBounds_toArray, List.set_cons_zero, List.set_cons_succ, i64_w, i32_w]
                            rfl
                           refine pure_ (i := 7) (N := some 116) (v := ?_) (a' := ?_) #[true, true, true, true, true, true, true, true, false, false, false, false, false, false, false, false, false] rfl rfl (any_of HT_.out (by kernel_rfl)) (fun _ _ _ h => h) (Or.inl ⟨by rfl, ?_⟩) ?_ ?_
                           rotate_left
                           ·
                            intro w'
                            go_simp
                            with_reducible rfl
                           rotate_left
                           ·
                            simp only [Act.put, List.setIfInBounds_toArray, List.set_cons_zero, List.set_cons_succ, i64_w, i32_w]
                            rfl
                           refine pure_ (i := 8) (N := some 117) (v := ?_) (a' := ?_) #[true, true, true, true, true, true, true, true, true, false, false, false, false, false, false, false, false] rfl rfl (any_of HT_.out (by kernel_rfl)) (fun _ _ _ h => h) (Or.inl ⟨by rfl, ?_⟩) ?_ ?_
                           rotate_left
                           ·
                            intro w'
                            go_simp
                            with_reducible rfl
                           rotate_left
                           ·
                            simp only [Act.put, List.setIfInBounds_toArray, List.set_cons_zero, List.set_cons_succ, i64_w, i32_w]
                            rfl
                           refine take_ (i := 9) (N := some 118) (v := ?_) (a' := ?_) #[true, true, true, true, true, true, true, true, true, true, false, false, false, false, false, false, false] rfl rfl (take_ofW HT_.out HW_.out (by kernel_rfl)) (fun _ _ _ h => h) (Or.inl ⟨by rfl, ?_⟩) hHeld ?_ ?_
                           rotate_left
                           ·
                            rintro w' ⟨s0, s1, s2, s3, s4, s5, s6, s7, s8⟩
                            go_simp
                            with_reducible rfl
                           rotate_left
                           ·
                            simp only [Act.put, List.setIfInBounds_toArray, List.set_cons_zero, List.set_cons_succ, i64_w, i32_w]
                            rfl
                           refine join_ (σ := Value × Nat) 2 #[true, true, true, true, true, true, true, true, true, true, true, true, true, true, true, false, false] (fun s_ => [(119, .tuple #[.agg #[.int .i64 t341, .int .i64 t342, .string t343, s_.1], .int .i64 t347]), (16, .pointer (some ⟨s_.2, 0, none⟩)), (108, .tuple #[.agg #[.int .i64 t341, .int .i64 t342, .string t343, s_.1], .int .i64 t347]), (120, .agg #[.int .i64 t341, .int .i64 t342, .string t343, s_.1]), (121, .int .i64 t347)]) (fun s_ w' => (w'.cell? ⟨gb338, 0, none⟩ = some (.int .i64 t331) ∧ w'.cell? ⟨gb338, 1, none⟩ = some (.int .i64 t332) ∧ w'.cell? ⟨gb338, 2, none⟩ = some (.string t333) ∧ w'.cell? ⟨gb338, 3, none⟩ = some (.slice Ao67 t334.length co67) ∧ w'.cell? ⟨ad301.block, ad301.off + 3, none⟩ = some (.int .i64 (rd t298 3)) ∧ w'.cell? (ad308.add (((ji53)).toNat * 4)) = some (.int .i64 ((rd_T36 t303 (ji53)).f0)) ∧ w'.cell? ⟨(ad308.add (((ji53)).toNat * 4)).block, (ad308.add (((ji53)).toNat * 4)).off + 1, none⟩ = some (.int .i64 ((rd_T36 t303 (ji53)).f1)) ∧ w'.cell? ⟨(ad308.add (((ji53)).toNat * 4)).block, (ad308.add (((ji53)).toNat * 4)).off + 2, none⟩ = some (.int .i64 ((rd_T36 t303 (ji53)).f2)) ∧ w'.cell? ⟨(ad308.add (((ji53)).toNat * 4)).block, (ad308.add (((ji53)).toNat * 4)).off + 3, none⟩ = some (.string ((rd_T36 t303 (ji53)).f3))) ∧ (Kd.R Kd.bool 4 w' w.heap.size (fun k_ => some k_ ≠ (s_.1 : Value).ownBlock ∧ some k_ ≠ (.slice Ao59 x317003_2.length co59 : Value).ownBlock) (.slice Ao67 t334.length co67) t334) ∧ (Kd.R Kd.bool 4 w' w.heap.size (fun k_ => some k_ ≠ (.slice Ao67 t334.length co67 : Value).ownBlock ∧ some k_ ≠ (.slice Ao59 x317003_2.length co59 : Value).ownBlock) s_.1 t344) ∧ (Kd.R Kd.bool 4 w' w.heap.size (fun k_ => some k_ ≠ (.slice Ao67 t334.length co67 : Value).ownBlock ∧ some k_ ≠ (s_.1 : Value).ownBlock) (.slice Ao59 x317003_2.length co59) x317003_2) ∧ (Kd.R (Kd.int .i64) 3 w' w.heap.size (fun _ => True) (.slice (some ad301) t298.length co13) t298) ∧ (Kd.R k36 36 w' w.heap.size (fun k_ => k_ ≠ gb327) (.slice (some ad308) t303.length co24) t303) ∧ (w'.heap[gb316]? = some (.cells #[.int .i64 x317000_2, .int .i64 x317001_2, .string x317002_2, .slice Ao59 x317003_2.length co59] 32 (0, 0))) ∧ (w'.heap[gb327]? = some (.cells #[.int .i64 t322, .int .i64 t323, .int .i64 t324, .string t325] 36 (0, 0))) ∧ (w'.heap[gb338]? = some (.cells #[.int .i64 t331, .int .i64 t332, .string t333, .slice Ao67 t334.length co67] 32 (0, 0))) ∧ (w'.heap[s_.2]? = some (.cells #[.int .i64 0, .int .i64 0, .string (⟨#[]⟩ : ByteArray), .slice none 0 0] 32 (0, 0))) ∧ (w.heap.size ≤ s_.2) ∧ (w.heap.size ≤ s_.2) ∧ (gb316 ≠ s_.2) ∧ (s_.2 ≠ gb316) ∧ (gb327 ≠ s_.2) ∧ (s_.2 ≠ gb327) ∧ (gb338 ≠ s_.2) ∧ (s_.2 ≠ gb338) ∧ (Below w.heap.size w w')) ?_ ?_
                           rotate_left
                           ·
                            intro hCont
                            refine two_ (i := 10) (j := 14) (Ni := some 119) (Nj := some 16) #[true, true, true, true, true, true, true, true, true, true, true, false, false, false, false, false, false] #[true, true, true, true, true, true, true, true, true, true, false, false, false, false, true, false, false] rfl rfl rfl rfl (two_of HT_.out (by kernel_rfl)) (by decide) (by decide) (fun K hK => ?_) (fun K hK => ?_)
                            ·
                             skip
                             refine goes_ Try.func19 (by kernel_rfl) rfl #[.agg #[.int .i64 t331, .int .i64 t332, .string t333, .slice Ao67 t334.length co67], .agg #[.int .i64 ((rd_T36 t303 (ji53)).f0), .int .i64 ((rd_T36 t303 (ji53)).f1), .int .i64 ((rd_T36 t303 (ji53)).f2), .string ((rd_T36 t303 (ji53)).f3)]] (by rfl) rfl rfl (by (try simp only [List.map_toArray, List.map_cons, List.map_nil]); first | done | (simp only [hji53]; rfl) | rfl | (simp only [List.length_drop, List.length_take]; rfl)) ?_
                             with_reducible refine (impl_BoxPut.calls kj33 t331 t332 t333 _ _ t334 ((rd_T36 t303 (ji53)).f0) ((rd_T36 t303 (ji53)).f1) ((rd_T36 t303 (ji53)).f2) ((rd_T36 t303 (ji53)).f3) t341 t342 t343 t344 t347 _ ?side1 ?side2 A56.out).mono ?_
                             (case side1 => repeat (first | exact (Kd.R_reads' HO336.out).2.2 | (with_reducible refine Kd.C_alloc ?_ _) | (with_reducible refine Kd.C_drewN ?_ _) | (with_reducible refine Kd.C_drew ?_)))
                             (case side2 => exact (Kd.R_reads' HO336.out).2.1)
                             rintro e w71 ⟨v345, rfl, ho0, hb⟩
                             have HS4_ := (hb.cell (World.block_lt_of_cell? _ _ (hHeld.2.2.2.2.1))).trans (hHeld.2.2.2.2.1)
                             have HS5_ := (hb.cell (World.block_lt_of_cell? _ _ (hHeld.2.2.2.2.2.1))).trans (hHeld.2.2.2.2.2.1)
                             have HS6_ := (hb.cell (World.block_lt_of_cell? _ _ (hHeld.2.2.2.2.2.2.1))).trans (hHeld.2.2.2.2.2.2.1)
                             have HS7_ := (hb.cell (World.block_lt_of_cell? _ _ (hHeld.2.2.2.2.2.2.2.1))).trans (hHeld.2.2.2.2.2.2.2.1)
                             have HS8_ := (hb.cell (World.block_lt_of_cell? _ _ (hHeld.2.2.2.2.2.2.2.2))).trans (hHeld.2.2.2.2.2.2.2.2)
                             refine ⟨_, rfl, ?_⟩
                             have n0_ := Aside0.mk (Kd.R_below (by (with_reducible repeat (first | apply Kd.R_alloc | apply Kd.R_drewN | apply Kd.R_drew)); exact HO_4.out) hb)
                             have n1_ := Aside0.mk (Kd.R_below (by (with_reducible repeat (first | apply Kd.R_alloc | apply Kd.R_drewN | apply Kd.R_drew)); exact HO_5.out) hb)
                             have n2_ := Aside0.mk (Kd.R_elder' (by (with_reducible repeat (first | apply Kd.R_alloc | apply Kd.R_drewN | apply Kd.R_drew)); exact HO_317003.out) (Kd.R_base ho0) hb)
                             have n3_ := Aside0.mk (Kd.R_elder' (by (with_reducible repeat (first | apply Kd.R_alloc | apply Kd.R_drewN | apply Kd.R_drew)); exact HO336.out) (Kd.R_base ho0) hb)
                             have n4_ := Aside0.mk (Kd.R_lower (Kd.R_new' (Kd.R_new' ho0 (Kd.R_lt (by (with_reducible repeat (first | apply Kd.R_alloc | apply Kd.R_drewN | apply Kd.R_drew)); exact HO_317003.out))) (Kd.R_lt (by (with_reducible repeat (first | apply Kd.R_alloc | apply Kd.R_drewN | apply Kd.R_drew)); exact HO336.out))) (below_size (by repeat (first | (with_reducible first | exact HB.out | apply below_alloc | apply pw_below_drewN | apply below_drew1 | refine below_set ?_ GE316.out | refine below_set ?_ GE327.out | refine below_set ?_ GE338.out) | exact HB.out))))
                             have n5_ := Aside0.mk (blk_below (g := gb316) (o := .cells #[.int .i64 x317000_2, .int .i64 x317001_2, .string x317002_2, .slice Ao59 x317003_2.length co59] 32 (0, 0)) (by (with_reducible repeat (first | refine blk_drewN ?_ _ | refine blk_drew ?_ | refine blk_alloc ?_ _)); exact BK316.out) hb)
                             have n6_ := Aside0.mk (blk_below (g := gb327) (o := .cells #[.int .i64 t322, .int .i64 t323, .int .i64 t324, .string t325] 36 (0, 0)) (by (with_reducible repeat (first | refine blk_drewN ?_ _ | refine blk_drew ?_ | refine blk_alloc ?_ _)); exact BK327.out) hb)
                             have n7_ := Aside0.mk (blk_below (g := gb338) (o := .cells #[.int .i64 t331, .int .i64 t332, .string t333, .slice Ao67 t334.length co67] 32 (0, 0)) (by (with_reducible repeat (first | refine blk_drewN ?_ _ | refine blk_drew ?_ | refine blk_alloc ?_ _)); exact BK338.out) hb)
                             have n8_ := Aside0.mk (below_step (by repeat (first | (with_reducible first | exact HB.out | apply below_alloc | apply pw_below_drewN | apply below_drew1 | refine below_set ?_ GE316.out | refine below_set ?_ GE327.out | refine below_set ?_ GE338.out) | exact HB.out)) hb)
                             clear HO_4
                             clear HO_5
                             clear HO_317003
                             clear HO336
                             clear BK316
                             clear BK327
                             clear BK338
                             clear HB
                             have HO_4 := n0_
                             have HO_5 := n1_
                             have HO_317003 := n2_
                             have HO336 := n3_
                             have HO346 := n4_
                             have BK316 := n5_
                             have BK327 := n6_
                             have BK338 := n7_
                             have HB := n8_
                             clear n0_ n1_ n2_ n3_ n4_ n5_ n6_ n7_ n8_
                             (try clear hb)
                             (try clear hb2)
                             (try clear hk)
                             (try clear hi)
                             (try clear ho0)
                             refine hK.out _ _ ⟨(blk_cell BK338.out 0).trans rfl, (blk_cell BK338.out 1).trans rfl, (blk_cell BK338.out 2).trans rfl, (blk_cell BK338.out 3).trans rfl, HS4_, HS5_, HS6_, HS7_, HS8_⟩ (fun hHeld => ?_)
                             clear hK K
                             refine norm_ (a' := ?_) ?_ ?_
                             rotate_left
                             ·
                              show Act.put _ (some 119) _ = _
                              simp only [Act.put, List.setIfInBounds_toArray, List.set_cons_zero, List.set_cons_succ, i64_w, i32_w]
                              rfl
                             refine pure_ (i := 11) (N := some 108) (v := ?_) (a' := ?_) #[true, true, true, true, true, true, true, true, true, true, true, true, false, false, false, false, false] rfl rfl (any_of HT_.out (by kernel_rfl)) (fun _ _ _ h => h) (Or.inl ⟨by rfl, ?_⟩) ?_ ?_
                             rotate_left
                             ·
                              intro w'
                              go_simp
                              with_reducible rfl
                             rotate_left
                             ·
                              simp only [Act.put, List.setIfInBounds_toArray, List.set_cons_zero, List.set_cons_succ, i64_w, i32_w]
                              rfl
                             refine pure_ (i := 12) (N := some 120) (v := ?_) (a' := ?_) #[true, true, true, true, true, true, true, true, true, true, true, true, true, false, false, false, false] rfl rfl (any_of HT_.out (by kernel_rfl)) (fun _ _ _ h => h) (Or.inl ⟨by rfl, ?_⟩) ?_ ?_
                             rotate_left
                             ·
                              intro w'
                              go_simp
                              with_reducible rfl
                             rotate_left
                             ·
                              simp only [Act.put, List.setIfInBounds_toArray, List.set_cons_zero, List.set_cons_succ, i64_w, i32_w]
                              rfl
                             refine pure_ (i := 13) (N := some 121) (v := ?_) (a' := ?_) #[true, true, true, true, true, true, true, true, true, true, true, true, true, true, false, false, false] rfl rfl (any_of HT_.out (by kernel_rfl)) (fun _ _ _ h => h) (Or.inl ⟨by rfl, ?_⟩) ?_ ?_
                             rotate_left
                             ·
                              intro w'
                              go_simp
                              with_reducible rfl
                             rotate_left
                             ·
                              simp only [Act.put, List.setIfInBounds_toArray, List.set_cons_zero, List.set_cons_succ, i64_w, i32_w]
                              rfl
                             refine one_ (i := 14) (N := some 16) #[true, true, true, true, true, true, true, true, true, true, true, true, true, true, true, false, false] rfl rfl (one_of HT_.out (by kernel_rfl)) (by decide) (fun K hK => ?_)
                             refine box_step ?hg (N := 16) ?hd (cs := #[.int .i64 0, .int .i64 0, .string (⟨#[]⟩ : ByteArray), .slice none 0 0]) (t := 32) ?hr ?_; (case hd => rfl); (case hg => rfl); (case hr => first | (go_simp; done) | (go_simp; rfl))
                             intro gb348 hg w72 hbox hb
                             have HS4_ := (hb.cell (World.block_lt_of_cell? _ _ (hHeld.2.2.2.2.1))).trans (hHeld.2.2.2.2.1)
                             have HS5_ := (hb.cell (World.block_lt_of_cell? _ _ (hHeld.2.2.2.2.2.1))).trans (hHeld.2.2.2.2.2.1)
                             have HS6_ := (hb.cell (World.block_lt_of_cell? _ _ (hHeld.2.2.2.2.2.2.1))).trans (hHeld.2.2.2.2.2.2.1)
                             have HS7_ := (hb.cell (World.block_lt_of_cell? _ _ (hHeld.2.2.2.2.2.2.2.1))).trans (hHeld.2.2.2.2.2.2.2.1)
                             have HS8_ := (hb.cell (World.block_lt_of_cell? _ _ (hHeld.2.2.2.2.2.2.2.2))).trans (hHeld.2.2.2.2.2.2.2.2)
                             have n0_ := Aside0.mk (Kd.R_below (by (with_reducible repeat (first | apply Kd.R_alloc | apply Kd.R_drewN | apply Kd.R_drew)); exact HO_4.out) hb)
                             have n1_ := Aside0.mk (Kd.R_below (by (with_reducible repeat (first | apply Kd.R_alloc | apply Kd.R_drewN | apply Kd.R_drew)); exact HO_5.out) hb)
                             have n2_ := Aside0.mk (Kd.R_below (by (with_reducible repeat (first | apply Kd.R_alloc | apply Kd.R_drewN | apply Kd.R_drew)); exact HO_317003.out) hb)
                             have n3_ := Aside0.mk (Kd.R_below (by (with_reducible repeat (first | apply Kd.R_alloc | apply Kd.R_drewN | apply Kd.R_drew)); exact HO336.out) hb)
                             have n4_ := Aside0.mk (Kd.R_below (by (with_reducible repeat (first | apply Kd.R_alloc | apply Kd.R_drewN | apply Kd.R_drew)); exact HO346.out) hb)
                             have n5_ := Aside0.mk (blk_below (g := gb316) (o := .cells #[.int .i64 x317000_2, .int .i64 x317001_2, .string x317002_2, .slice Ao59 x317003_2.length co59] 32 (0, 0)) (by (with_reducible repeat (first | refine blk_drewN ?_ _ | refine blk_drew ?_ | refine blk_alloc ?_ _)); exact BK316.out) hb)
                             have n6_ := Aside0.mk (blk_below (g := gb327) (o := .cells #[.int .i64 t322, .int .i64 t323, .int .i64 t324, .string t325] 36 (0, 0)) (by (with_reducible repeat (first | refine blk_drewN ?_ _ | refine blk_drew ?_ | refine blk_alloc ?_ _)); exact BK327.out) hb)
                             have n7_ := Aside0.mk (blk_below (g := gb338) (o := .cells #[.int .i64 t331, .int .i64 t332, .string t333, .slice Ao67 t334.length co67] 32 (0, 0)) (by (with_reducible repeat (first | refine blk_drewN ?_ _ | refine blk_drew ?_ | refine blk_alloc ?_ _)); exact BK338.out) hb)
                             have n8_ := Aside0.mk (below_step (by repeat (first | (with_reducible first | exact HB.out | apply below_alloc | apply pw_below_drewN | apply below_drew1 | refine below_set ?_ GE316.out | refine below_set ?_ GE327.out | refine below_set ?_ GE338.out) | exact HB.out)) hb)
                             have n9_ := Aside0.mk (hbox)
                             have n10_ := Aside0.mk ((by rw [hg]; exact (below_size (by repeat (first | (with_reducible first | exact HB.out | apply below_alloc | apply pw_below_drewN | apply below_drew1 | refine below_set ?_ GE316.out | refine below_set ?_ GE327.out | refine below_set ?_ GE338.out) | exact HB.out))) : w.heap.size ≤ gb348))
                             have n11_ := Aside0.mk ((by rw [hg]; exact (below_size (by repeat (first | (with_reducible first | exact HB.out | apply below_alloc | apply pw_below_drewN | apply below_drew1 | refine below_set ?_ GE316.out | refine below_set ?_ GE327.out | refine below_set ?_ GE338.out) | exact HB.out))) : w.heap.size ≤ gb348))
                             have n12_ := Aside0.mk ((by rw [hg]; exact Nat.ne_of_lt (blk_lt (g := gb316) (o := .cells #[.int .i64 x317000_2, .int .i64 x317001_2, .string x317002_2, .slice Ao59 x317003_2.length co59] 32 (0, 0)) (by (with_reducible repeat (first | refine blk_drewN ?_ _ | refine blk_drew ?_ | refine blk_alloc ?_ _)); exact BK316.out)) : gb316 ≠ gb348))
                             have n13_ := Aside0.mk ((by rw [hg]; exact Nat.ne_of_gt (blk_lt (g := gb316) (o := .cells #[.int .i64 x317000_2, .int .i64 x317001_2, .string x317002_2, .slice Ao59 x317003_2.length co59] 32 (0, 0)) (by (with_reducible repeat (first | refine blk_drewN ?_ _ | refine blk_drew ?_ | refine blk_alloc ?_ _)); exact BK316.out)) : gb348 ≠ gb316))
                             have n14_ := Aside0.mk ((by rw [hg]; exact Nat.ne_of_lt (blk_lt (g := gb327) (o := .cells #[.int .i64 t322, .int .i64 t323, .int .i64 t324, .string t325] 36 (0, 0)) (by (with_reducible repeat (first | refine blk_drewN ?_ _ | refine blk_drew ?_ | refine blk_alloc ?_ _)); exact BK327.out)) : gb327 ≠ gb348))
                             have n15_ := Aside0.mk ((by rw [hg]; exact Nat.ne_of_gt (blk_lt (g := gb327) (o := .cells #[.int .i64 t322, .int .i64 t323, .int .i64 t324, .string t325] 36 (0, 0)) (by (with_reducible repeat (first | refine blk_drewN ?_ _ | refine blk_drew ?_ | refine blk_alloc ?_ _)); exact BK327.out)) : gb348 ≠ gb327))
                             have n16_ := Aside0.mk ((by rw [hg]; exact Nat.ne_of_lt (blk_lt (g := gb338) (o := .cells #[.int .i64 t331, .int .i64 t332, .string t333, .slice Ao67 t334.length co67] 32 (0, 0)) (by (with_reducible repeat (first | refine blk_drewN ?_ _ | refine blk_drew ?_ | refine blk_alloc ?_ _)); exact BK338.out)) : gb338 ≠ gb348))
                             have n17_ := Aside0.mk ((by rw [hg]; exact Nat.ne_of_gt (blk_lt (g := gb338) (o := .cells #[.int .i64 t331, .int .i64 t332, .string t333, .slice Ao67 t334.length co67] 32 (0, 0)) (by (with_reducible repeat (first | refine blk_drewN ?_ _ | refine blk_drew ?_ | refine blk_alloc ?_ _)); exact BK338.out)) : gb348 ≠ gb338))
                             clear HO_4
                             clear HO_5
                             clear HO_317003
                             clear HO336
                             clear HO346
                             clear BK316
                             clear BK327
                             clear BK338
                             clear HB
                             have HO_4 := n0_
                             have HO_5 := n1_
                             have HO_317003 := n2_
                             have HO336 := n3_
                             have HO346 := n4_
                             have BK316 := n5_
                             have BK327 := n6_
                             have BK338 := n7_
                             have HB := n8_
                             have BK348 := n9_
                             have GW348 := n10_
                             have GE348 := n11_
                             have NB316_348 := n12_
                             have NB348_316 := n13_
                             have NB327_348 := n14_
                             have NB348_327 := n15_
                             have NB338_348 := n16_
                             have NB348_338 := n17_
                             clear n0_ n1_ n2_ n3_ n4_ n5_ n6_ n7_ n8_ n9_ n10_ n11_ n12_ n13_ n14_ n15_ n16_ n17_
                             clear hb hbox hg
                             refine hK.out _ _ ⟨(blk_cell BK338.out 0).trans rfl, (blk_cell BK338.out 1).trans rfl, (blk_cell BK338.out 2).trans rfl, (blk_cell BK338.out 3).trans rfl, HS4_, HS5_, HS6_, HS7_, HS8_⟩ (fun hHeld => ?_)
                             clear hK K
                             refine norm_ (a' := ?_) ?_ ?_
                             rotate_left
                             ·
                              show Act.put _ (some 16) _ = _
                              simp only [Act.put, List.setIfInBounds_toArray, List.set_cons_zero, List.set_cons_succ, i64_w, i32_w]
                              rfl
                             exact norm_ (by simp only [putAll, Act.put, List.setIfInBounds_toArray, List.set_cons_zero, List.set_cons_succ]) (hCont (v345, gb348) _ ⟨hHeld, (by (with_reducible repeat (first | apply Kd.R_alloc | apply Kd.R_drewN | apply Kd.R_drew)); exact Kd.R_mono HO336.out (fun _ hk => ⟨hk.2, hk.1⟩)), (by (with_reducible repeat (first | apply Kd.R_alloc | apply Kd.R_drewN | apply Kd.R_drew)); exact Kd.R_mono HO346.out (fun _ hk => ⟨hk.2, hk.1.2⟩)), (by (with_reducible repeat (first | apply Kd.R_alloc | apply Kd.R_drewN | apply Kd.R_drew)); exact HO_317003.out), (by (with_reducible repeat (first | apply Kd.R_alloc | apply Kd.R_drewN | apply Kd.R_drew)); exact HO_4.out), (by (with_reducible repeat (first | apply Kd.R_alloc | apply Kd.R_drewN | apply Kd.R_drew)); exact HO_5.out), (by (with_reducible repeat (first | refine blk_drewN ?_ _ | refine blk_drew ?_ | refine blk_alloc ?_ _)); exact BK316.out), (by (with_reducible repeat (first | refine blk_drewN ?_ _ | refine blk_drew ?_ | refine blk_alloc ?_ _)); exact BK327.out), (by (with_reducible repeat (first | refine blk_drewN ?_ _ | refine blk_drew ?_ | refine blk_alloc ?_ _)); exact BK338.out), (by (with_reducible repeat (first | refine blk_drewN ?_ _ | refine blk_drew ?_ | refine blk_alloc ?_ _)); exact BK348.out), GW348.out, GE348.out, NB316_348.out, NB348_316.out, NB327_348.out, NB348_327.out, NB338_348.out, NB348_338.out, (by repeat (first | (with_reducible first | exact HB.out | apply below_alloc | apply pw_below_drewN | apply below_drew1 | refine below_set ?_ GE316.out | refine below_set ?_ GE327.out | refine below_set ?_ GE338.out | refine below_set ?_ GE348.out) | exact HB.out))⟩)
                            ·
                             skip
                             refine box_step ?hg (N := 16) ?hd (cs := #[.int .i64 0, .int .i64 0, .string (⟨#[]⟩ : ByteArray), .slice none 0 0]) (t := 32) ?hr ?_; (case hd => rfl); (case hg => rfl); (case hr => first | (go_simp; done) | (go_simp; rfl))
                             intro gb348 hg w71 hbox hb
                             have HS4_ := (hb.cell (World.block_lt_of_cell? _ _ (hHeld.2.2.2.2.1))).trans (hHeld.2.2.2.2.1)
                             have HS5_ := (hb.cell (World.block_lt_of_cell? _ _ (hHeld.2.2.2.2.2.1))).trans (hHeld.2.2.2.2.2.1)
                             have HS6_ := (hb.cell (World.block_lt_of_cell? _ _ (hHeld.2.2.2.2.2.2.1))).trans (hHeld.2.2.2.2.2.2.1)
                             have HS7_ := (hb.cell (World.block_lt_of_cell? _ _ (hHeld.2.2.2.2.2.2.2.1))).trans (hHeld.2.2.2.2.2.2.2.1)
                             have HS8_ := (hb.cell (World.block_lt_of_cell? _ _ (hHeld.2.2.2.2.2.2.2.2))).trans (hHeld.2.2.2.2.2.2.2.2)
                             have n0_ := Aside0.mk (Kd.R_below (by (with_reducible repeat (first | apply Kd.R_alloc | apply Kd.R_drewN | apply Kd.R_drew)); exact HO_4.out) hb)
                             have n1_ := Aside0.mk (Kd.R_below (by (with_reducible repeat (first | apply Kd.R_alloc | apply Kd.R_drewN | apply Kd.R_drew)); exact HO_5.out) hb)
                             have n2_ := Aside0.mk (Kd.R_below (by (with_reducible repeat (first | apply Kd.R_alloc | apply Kd.R_drewN | apply Kd.R_drew)); exact HO_317003.out) hb)
                             have n3_ := Aside0.mk (Kd.R_below (by (with_reducible repeat (first | apply Kd.R_alloc | apply Kd.R_drewN | apply Kd.R_drew)); exact HO336.out) hb)
                             have n4_ := Aside0.mk (blk_below (g := gb316) (o := .cells #[.int .i64 x317000_2, .int .i64 x317001_2, .string x317002_2, .slice Ao59 x317003_2.length co59] 32 (0, 0)) (by (with_reducible repeat (first | refine blk_drewN ?_ _ | refine blk_drew ?_ | refine blk_alloc ?_ _)); exact BK316.out) hb)
                             have n5_ := Aside0.mk (blk_below (g := gb327) (o := .cells #[.int .i64 t322, .int .i64 t323, .int .i64 t324, .string t325] 36 (0, 0)) (by (with_reducible repeat (first | refine blk_drewN ?_ _ | refine blk_drew ?_ | refine blk_alloc ?_ _)); exact BK327.out) hb)
                             have n6_ := Aside0.mk (blk_below (g := gb338) (o := .cells #[.int .i64 t331, .int .i64 t332, .string t333, .slice Ao67 t334.length co67] 32 (0, 0)) (by (with_reducible repeat (first | refine blk_drewN ?_ _ | refine blk_drew ?_ | refine blk_alloc ?_ _)); exact BK338.out) hb)
                             have n7_ := Aside0.mk (below_step (by repeat (first | (with_reducible first | exact HB.out | apply below_alloc | apply pw_below_drewN | apply below_drew1 | refine below_set ?_ GE316.out | refine below_set ?_ GE327.out | refine below_set ?_ GE338.out) | exact HB.out)) hb)
                             have n8_ := Aside0.mk (hbox)
                             have n9_ := Aside0.mk ((by rw [hg]; exact (below_size (by repeat (first | (with_reducible first | exact HB.out | apply below_alloc | apply pw_below_drewN | apply below_drew1 | refine below_set ?_ GE316.out | refine below_set ?_ GE327.out | refine below_set ?_ GE338.out) | exact HB.out))) : w.heap.size ≤ gb348))
                             have n10_ := Aside0.mk ((by rw [hg]; exact (below_size (by repeat (first | (with_reducible first | exact HB.out | apply below_alloc | apply pw_below_drewN | apply below_drew1 | refine below_set ?_ GE316.out | refine below_set ?_ GE327.out | refine below_set ?_ GE338.out) | exact HB.out))) : w.heap.size ≤ gb348))
                             have n11_ := Aside0.mk ((by rw [hg]; exact Nat.ne_of_lt (blk_lt (g := gb316) (o := .cells #[.int .i64 x317000_2, .int .i64 x317001_2, .string x317002_2, .slice Ao59 x317003_2.length co59] 32 (0, 0)) (by (with_reducible repeat (first | refine blk_drewN ?_ _ | refine blk_drew ?_ | refine blk_alloc ?_ _)); exact BK316.out)) : gb316 ≠ gb348))
                             have n12_ := Aside0.mk ((by rw [hg]; exact Nat.ne_of_gt (blk_lt (g := gb316) (o := .cells #[.int .i64 x317000_2, .int .i64 x317001_2, .string x317002_2, .slice Ao59 x317003_2.length co59] 32 (0, 0)) (by (with_reducible repeat (first | refine blk_drewN ?_ _ | refine blk_drew ?_ | refine blk_alloc ?_ _)); exact BK316.out)) : gb348 ≠ gb316))
                             have n13_ := Aside0.mk ((by rw [hg]; exact Nat.ne_of_lt (blk_lt (g := gb327) (o := .cells #[.int .i64 t322, .int .i64 t323, .int .i64 t324, .string t325] 36 (0, 0)) (by (with_reducible repeat (first | refine blk_drewN ?_ _ | refine blk_drew ?_ | refine blk_alloc ?_ _)); exact BK327.out)) : gb327 ≠ gb348))
                             have n14_ := Aside0.mk ((by rw [hg]; exact Nat.ne_of_gt (blk_lt (g := gb327) (o := .cells #[.int .i64 t322, .int .i64 t323, .int .i64 t324, .string t325] 36 (0, 0)) (by (with_reducible repeat (first | refine blk_drewN ?_ _ | refine blk_drew ?_ | refine blk_alloc ?_ _)); exact BK327.out)) : gb348 ≠ gb327))
                             have n15_ := Aside0.mk ((by rw [hg]; exact Nat.ne_of_lt (blk_lt (g := gb338) (o := .cells #[.int .i64 t331, .int .i64 t332, .string t333, .slice Ao67 t334.length co67] 32 (0, 0)) (by (with_reducible repeat (first | refine blk_drewN ?_ _ | refine blk_drew ?_ | refine blk_alloc ?_ _)); exact BK338.out)) : gb338 ≠ gb348))
                             have n16_ := Aside0.mk ((by rw [hg]; exact Nat.ne_of_gt (blk_lt (g := gb338) (o := .cells #[.int .i64 t331, .int .i64 t332, .string t333, .slice Ao67 t334.length co67] 32 (0, 0)) (by (with_reducible repeat (first | refine blk_drewN ?_ _ | refine blk_drew ?_ | refine blk_alloc ?_ _)); exact BK338.out)) : gb348 ≠ gb338))
                             clear HO_4
                             clear HO_5
                             clear HO_317003
                             clear HO336
                             clear BK316
                             clear BK327
                             clear BK338
                             clear HB
                             have HO_4 := n0_
                             have HO_5 := n1_
                             have HO_317003 := n2_
                             have HO336 := n3_
                             have BK316 := n4_
                             have BK327 := n5_
                             have BK338 := n6_
                             have HB := n7_
                             have BK348 := n8_
                             have GW348 := n9_
                             have GE348 := n10_
                             have NB316_348 := n11_
                             have NB348_316 := n12_
                             have NB327_348 := n13_
                             have NB348_327 := n14_
                             have NB338_348 := n15_
                             have NB348_338 := n16_
                             clear n0_ n1_ n2_ n3_ n4_ n5_ n6_ n7_ n8_ n9_ n10_ n11_ n12_ n13_ n14_ n15_ n16_
                             clear hb hbox hg
                             refine hK.out _ _ ⟨(blk_cell BK338.out 0).trans rfl, (blk_cell BK338.out 1).trans rfl, (blk_cell BK338.out 2).trans rfl, (blk_cell BK338.out 3).trans rfl, HS4_, HS5_, HS6_, HS7_, HS8_⟩ (fun hHeld => ?_)
                             clear hK K
                             refine norm_ (a' := ?_) ?_ ?_
                             rotate_left
                             ·
                              show Act.put _ (some 16) _ = _
                              simp only [Act.put, List.setIfInBounds_toArray, List.set_cons_zero, List.set_cons_succ, i64_w, i32_w]
                              rfl
                             refine one_ (i := 10) (N := some 119) #[true, true, true, true, true, true, true, true, true, true, true, false, false, false, true, false, false] rfl rfl (one_of HT_.out (by kernel_rfl)) (by decide) (fun K hK => ?_)
                             refine goes_ Try.func19 (by kernel_rfl) rfl #[.agg #[.int .i64 t331, .int .i64 t332, .string t333, .slice Ao67 t334.length co67], .agg #[.int .i64 ((rd_T36 t303 (ji53)).f0), .int .i64 ((rd_T36 t303 (ji53)).f1), .int .i64 ((rd_T36 t303 (ji53)).f2), .string ((rd_T36 t303 (ji53)).f3)]] (by rfl) rfl rfl (by (try simp only [List.map_toArray, List.map_cons, List.map_nil]); first | done | (simp only [hji53]; rfl) | rfl | (simp only [List.length_drop, List.length_take]; rfl)) ?_
                             with_reducible refine (impl_BoxPut.calls kj33 t331 t332 t333 _ _ t334 ((rd_T36 t303 (ji53)).f0) ((rd_T36 t303 (ji53)).f1) ((rd_T36 t303 (ji53)).f2) ((rd_T36 t303 (ji53)).f3) t341 t342 t343 t344 t347 _ ?side1 ?side2 A56.out).mono ?_
                             (case side1 => repeat (first | exact (Kd.R_reads' HO336.out).2.2 | (with_reducible refine Kd.C_alloc ?_ _) | (with_reducible refine Kd.C_drewN ?_ _) | (with_reducible refine Kd.C_drew ?_)))
                             (case side2 => exact (Kd.R_reads' HO336.out).2.1)
                             rintro e w72 ⟨v345, rfl, ho0, hb⟩
                             have HS4_ := (hb.cell (World.block_lt_of_cell? _ _ (hHeld.2.2.2.2.1))).trans (hHeld.2.2.2.2.1)
                             have HS5_ := (hb.cell (World.block_lt_of_cell? _ _ (hHeld.2.2.2.2.2.1))).trans (hHeld.2.2.2.2.2.1)
                             have HS6_ := (hb.cell (World.block_lt_of_cell? _ _ (hHeld.2.2.2.2.2.2.1))).trans (hHeld.2.2.2.2.2.2.1)
                             have HS7_ := (hb.cell (World.block_lt_of_cell? _ _ (hHeld.2.2.2.2.2.2.2.1))).trans (hHeld.2.2.2.2.2.2.2.1)
                             have HS8_ := (hb.cell (World.block_lt_of_cell? _ _ (hHeld.2.2.2.2.2.2.2.2))).trans (hHeld.2.2.2.2.2.2.2.2)
                             refine ⟨_, rfl, ?_⟩
                             have n0_ := Aside0.mk (Kd.R_below (by (with_reducible repeat (first | apply Kd.R_alloc | apply Kd.R_drewN | apply Kd.R_drew)); exact HO_4.out) hb)
                             have n1_ := Aside0.mk (Kd.R_below (by (with_reducible repeat (first | apply Kd.R_alloc | apply Kd.R_drewN | apply Kd.R_drew)); exact HO_5.out) hb)
                             have n2_ := Aside0.mk (Kd.R_elder' (by (with_reducible repeat (first | apply Kd.R_alloc | apply Kd.R_drewN | apply Kd.R_drew)); exact HO_317003.out) (Kd.R_base ho0) hb)
                             have n3_ := Aside0.mk (Kd.R_elder' (by (with_reducible repeat (first | apply Kd.R_alloc | apply Kd.R_drewN | apply Kd.R_drew)); exact HO336.out) (Kd.R_base ho0) hb)
                             have n4_ := Aside0.mk (Kd.R_lower (Kd.R_new' (Kd.R_new' ho0 (Kd.R_lt (by (with_reducible repeat (first | apply Kd.R_alloc | apply Kd.R_drewN | apply Kd.R_drew)); exact HO_317003.out))) (Kd.R_lt (by (with_reducible repeat (first | apply Kd.R_alloc | apply Kd.R_drewN | apply Kd.R_drew)); exact HO336.out))) (below_size (by repeat (first | (with_reducible first | exact HB.out | apply below_alloc | apply pw_below_drewN | apply below_drew1 | refine below_set ?_ GE316.out | refine below_set ?_ GE327.out | refine below_set ?_ GE338.out | refine below_set ?_ GE348.out) | exact HB.out))))
                             have n5_ := Aside0.mk (blk_below (g := gb316) (o := .cells #[.int .i64 x317000_2, .int .i64 x317001_2, .string x317002_2, .slice Ao59 x317003_2.length co59] 32 (0, 0)) (by (with_reducible repeat (first | refine blk_drewN ?_ _ | refine blk_drew ?_ | refine blk_alloc ?_ _)); exact BK316.out) hb)
                             have n6_ := Aside0.mk (blk_below (g := gb327) (o := .cells #[.int .i64 t322, .int .i64 t323, .int .i64 t324, .string t325] 36 (0, 0)) (by (with_reducible repeat (first | refine blk_drewN ?_ _ | refine blk_drew ?_ | refine blk_alloc ?_ _)); exact BK327.out) hb)
                             have n7_ := Aside0.mk (blk_below (g := gb338) (o := .cells #[.int .i64 t331, .int .i64 t332, .string t333, .slice Ao67 t334.length co67] 32 (0, 0)) (by (with_reducible repeat (first | refine blk_drewN ?_ _ | refine blk_drew ?_ | refine blk_alloc ?_ _)); exact BK338.out) hb)
                             have n8_ := Aside0.mk (blk_below (g := gb348) (o := .cells #[.int .i64 0, .int .i64 0, .string (⟨#[]⟩ : ByteArray), .slice none 0 0] 32 (0, 0)) (by (with_reducible repeat (first | refine blk_drewN ?_ _ | refine blk_drew ?_ | refine blk_alloc ?_ _)); exact BK348.out) hb)
                             have n9_ := Aside0.mk (below_step (by repeat (first | (with_reducible first | exact HB.out | apply below_alloc | apply pw_below_drewN | apply below_drew1 | refine below_set ?_ GE316.out | refine below_set ?_ GE327.out | refine below_set ?_ GE338.out | refine below_set ?_ GE348.out) | exact HB.out)) hb)
                             clear HO_4
                             clear HO_5
                             clear HO_317003
                             clear HO336
                             clear BK316
                             clear BK327
                             clear BK338
                             clear BK348
                             clear HB
                             have HO_4 := n0_
                             have HO_5 := n1_
                             have HO_317003 := n2_
                             have HO336 := n3_
                             have HO346 := n4_
                             have BK316 := n5_
                             have BK327 := n6_
                             have BK338 := n7_
                             have BK348 := n8_
                             have HB := n9_
                             clear n0_ n1_ n2_ n3_ n4_ n5_ n6_ n7_ n8_ n9_
                             (try clear hb)
                             (try clear hb2)
                             (try clear hk)
                             (try clear hi)
                             (try clear ho0)
                             refine hK.out _ _ ⟨(blk_cell BK338.out 0).trans rfl, (blk_cell BK338.out 1).trans rfl, (blk_cell BK338.out 2).trans rfl, (blk_cell BK338.out 3).trans rfl, HS4_, HS5_, HS6_, HS7_, HS8_⟩ (fun hHeld => ?_)
                             clear hK K
                             refine norm_ (a' := ?_) ?_ ?_
                             rotate_left
                             ·
                              show Act.put _ (some 119) _ = _
                              simp only [Act.put, List.setIfInBounds_toArray, List.set_cons_zero, List.set_cons_succ, i64_w, i32_w]
                              rfl
                             refine pure_ (i := 11) (N := some 108) (v := ?_) (a' := ?_) #[true, true, true, true, true, true, true, true, true, true, true, true, false, false, true, false, false] rfl rfl (any_of HT_.out (by kernel_rfl)) (fun _ _ _ h => h) (Or.inl ⟨by rfl, ?_⟩) ?_ ?_
                             rotate_left
                             ·
                              intro w'
                              go_simp
                              with_reducible rfl
                             rotate_left
                             ·
                              simp only [Act.put, List.setIfInBounds_toArray, List.set_cons_zero, List.set_cons_succ, i64_w, i32_w]
                              rfl
                             refine pure_ (i := 12) (N := some 120) (v := ?_) (a' := ?_) #[true, true, true, true, true, true, true, true, true, true, true, true, true, false, true, false, false] rfl rfl (any_of HT_.out (by kernel_rfl)) (fun _ _ _ h => h) (Or.inl ⟨by rfl, ?_⟩) ?_ ?_
                             rotate_left
                             ·
                              intro w'
                              go_simp
                              with_reducible rfl
                             rotate_left
                             ·
                              simp only [Act.put, List.setIfInBounds_toArray, List.set_cons_zero, List.set_cons_succ, i64_w, i32_w]
                              rfl
                             refine pure_ (i := 13) (N := some 121) (v := ?_) (a' := ?_) #[true, true, true, true, true, true, true, true, true, true, true, true, true, true, true, false, false] rfl rfl (any_of HT_.out (by kernel_rfl)) (fun _ _ _ h => h) (Or.inl ⟨by rfl, ?_⟩) ?_ ?_
                             rotate_left
                             ·
                              intro w'
                              go_simp
                              with_reducible rfl
                             rotate_left
                             ·
                              simp only [Act.put, List.setIfInBounds_toArray, List.set_cons_zero, List.set_cons_succ, i64_w, i32_w]
                              rfl
                             exact norm_ (by simp only [putAll, Act.put, List.setIfInBounds_toArray, List.set_cons_zero, List.set_cons_succ]) (hCont (v345, gb348) _ ⟨hHeld, (by (with_reducible repeat (first | apply Kd.R_alloc | apply Kd.R_drewN | apply Kd.R_drew)); exact Kd.R_mono HO336.out (fun _ hk => ⟨hk.2, hk.1⟩)), (by (with_reducible repeat (first | apply Kd.R_alloc | apply Kd.R_drewN | apply Kd.R_drew)); exact Kd.R_mono HO346.out (fun _ hk => ⟨hk.2, hk.1.2⟩)), (by (with_reducible repeat (first | apply Kd.R_alloc | apply Kd.R_drewN | apply Kd.R_drew)); exact HO_317003.out), (by (with_reducible repeat (first | apply Kd.R_alloc | apply Kd.R_drewN | apply Kd.R_drew)); exact HO_4.out), (by (with_reducible repeat (first | apply Kd.R_alloc | apply Kd.R_drewN | apply Kd.R_drew)); exact HO_5.out), (by (with_reducible repeat (first | refine blk_drewN ?_ _ | refine blk_drew ?_ | refine blk_alloc ?_ _)); exact BK316.out), (by (with_reducible repeat (first | refine blk_drewN ?_ _ | refine blk_drew ?_ | refine blk_alloc ?_ _)); exact BK327.out), (by (with_reducible repeat (first | refine blk_drewN ?_ _ | refine blk_drew ?_ | refine blk_alloc ?_ _)); exact BK338.out), (by (with_reducible repeat (first | refine blk_drewN ?_ _ | refine blk_drew ?_ | refine blk_alloc ?_ _)); exact BK348.out), GW348.out, GE348.out, NB316_348.out, NB348_316.out, NB327_348.out, NB348_327.out, NB338_348.out, NB348_338.out, (by repeat (first | (with_reducible first | exact HB.out | apply below_alloc | apply pw_below_drewN | apply below_drew1 | refine below_set ?_ GE316.out | refine below_set ?_ GE327.out | refine below_set ?_ GE338.out | refine below_set ?_ GE348.out) | exact HB.out))⟩)
                           rintro ⟨v345, gb348⟩ w73 ⟨hS_, h0_, h1_, h2_, h3_, h4_, h5_, h6_, h7_, h8_, h9_, h10_, h11_, h12_, h13_, h14_, h15_, h16_, h17_⟩
                           have n0_ : Aside0 (Kd.R Kd.bool 4 w73 w.heap.size (fun k_ => some k_ ≠ (v345 : Value).ownBlock ∧ some k_ ≠ (.slice Ao59 x317003_2.length co59 : Value).ownBlock) (.slice Ao67 t334.length co67) t334) := ⟨h0_⟩
                           have n1_ : Aside0 (Kd.R Kd.bool 4 w73 w.heap.size (fun k_ => some k_ ≠ (.slice Ao67 t334.length co67 : Value).ownBlock ∧ some k_ ≠ (.slice Ao59 x317003_2.length co59 : Value).ownBlock) v345 t344) := ⟨h1_⟩
                           have n2_ : Aside0 (Kd.R Kd.bool 4 w73 w.heap.size (fun k_ => some k_ ≠ (.slice Ao67 t334.length co67 : Value).ownBlock ∧ some k_ ≠ (v345 : Value).ownBlock) (.slice Ao59 x317003_2.length co59) x317003_2) := ⟨h2_⟩
                           have n3_ : Aside0 (Kd.R (Kd.int .i64) 3 w73 w.heap.size (fun _ => True) (.slice (some ad301) t298.length co13) t298) := ⟨h3_⟩
                           have n4_ : Aside0 (Kd.R k36 36 w73 w.heap.size (fun k_ => k_ ≠ gb327) (.slice (some ad308) t303.length co24) t303) := ⟨h4_⟩
                           have n5_ : Aside0 (w73.heap[gb316]? = some (.cells #[.int .i64 x317000_2, .int .i64 x317001_2, .string x317002_2, .slice Ao59 x317003_2.length co59] 32 (0, 0))) := ⟨h5_⟩
                           have n6_ : Aside0 (w73.heap[gb327]? = some (.cells #[.int .i64 t322, .int .i64 t323, .int .i64 t324, .string t325] 36 (0, 0))) := ⟨h6_⟩
                           have n7_ : Aside0 (w73.heap[gb338]? = some (.cells #[.int .i64 t331, .int .i64 t332, .string t333, .slice Ao67 t334.length co67] 32 (0, 0))) := ⟨h7_⟩
                           have n8_ : Aside0 (w73.heap[gb348]? = some (.cells #[.int .i64 0, .int .i64 0, .string (⟨#[]⟩ : ByteArray), .slice none 0 0] 32 (0, 0))) := ⟨h8_⟩
                           have n9_ : Aside0 (w.heap.size ≤ gb348) := ⟨h9_⟩
                           have n10_ : Aside0 (w.heap.size ≤ gb348) := ⟨h10_⟩
                           have n11_ : Aside0 (gb316 ≠ gb348) := ⟨h11_⟩
                           have n12_ : Aside0 (gb348 ≠ gb316) := ⟨h12_⟩
                           have n13_ : Aside0 (gb327 ≠ gb348) := ⟨h13_⟩
                           have n14_ : Aside0 (gb348 ≠ gb327) := ⟨h14_⟩
                           have n15_ : Aside0 (gb338 ≠ gb348) := ⟨h15_⟩
                           have n16_ : Aside0 (gb348 ≠ gb338) := ⟨h16_⟩
                           have n17_ : Aside0 (Below w.heap.size w w73) := ⟨h17_⟩
                           clear HO_4
                           clear HO_5
                           clear HO_317003
                           clear HO336
                           clear BK316
                           clear BK327
                           clear BK338
                           clear HB
                           clear h0_ h1_ h2_ h3_ h4_ h5_ h6_ h7_ h8_ h9_ h10_ h11_ h12_ h13_ h14_ h15_ h16_ h17_
                           have HO336 := n0_
                           have HO346 := n1_
                           have HO_317003 := n2_
                           have HO_4 := n3_
                           have HO_5 := n4_
                           have BK316 := n5_
                           have BK327 := n6_
                           have BK338 := n7_
                           have BK348 := n8_
                           have GW348 := n9_
                           have GE348 := n10_
                           have NB316_348 := n11_
                           have NB348_316 := n12_
                           have NB327_348 := n13_
                           have NB348_327 := n14_
                           have NB338_348 := n15_
                           have NB348_338 := n16_
                           have HB := n17_
                           clear n0_ n1_ n2_ n3_ n4_ n5_ n6_ n7_ n8_ n9_ n10_ n11_ n12_ n13_ n14_ n15_ n16_ n17_
                           have hHeld : w73.cell? ⟨gb338, 0, none⟩ = some (.int .i64 t331) ∧ w73.cell? ⟨gb338, 1, none⟩ = some (.int .i64 t332) ∧ w73.cell? ⟨gb338, 2, none⟩ = some (.string t333) ∧ w73.cell? ⟨gb338, 3, none⟩ = some (.slice Ao67 t334.length co67) ∧ w73.cell? ⟨ad301.block, ad301.off + 3, none⟩ = some (.int .i64 (rd t298 3)) ∧ w73.cell? (ad308.add (((ji53)).toNat * 4)) = some (.int .i64 ((rd_T36 t303 (ji53)).f0)) ∧ w73.cell? ⟨(ad308.add (((ji53)).toNat * 4)).block, (ad308.add (((ji53)).toNat * 4)).off + 1, none⟩ = some (.int .i64 ((rd_T36 t303 (ji53)).f1)) ∧ w73.cell? ⟨(ad308.add (((ji53)).toNat * 4)).block, (ad308.add (((ji53)).toNat * 4)).off + 2, none⟩ = some (.int .i64 ((rd_T36 t303 (ji53)).f2)) ∧ w73.cell? ⟨(ad308.add (((ji53)).toNat * 4)).block, (ad308.add (((ji53)).toNat * 4)).off + 3, none⟩ = some (.string ((rd_T36 t303 (ji53)).f3)) := hS_
                           obtain ⟨Ao77, co77, eo77⟩ := Kd.R_slice HO346.out
                           (first | subst eo77 | (injection eo77 with f1_ f2_ f3_; have f4_ := f1_.symm; have f5_ := f3_.symm; clear f1_ f2_ f3_; subst f4_; subst f5_))
                           refine norm_ (a' := ?_) ?_ ?_
                           rotate_left
                           ·
                            simp only [putAll, Act.put, List.setIfInBounds_toArray, List.set_cons_zero, List.set_cons_succ]
                            rfl
                           refine one_ (i := 15) (N := none) #[true, true, true, true, true, true, true, true, true, true, true, true, true, true, true, true, false] rfl rfl (one_of HT_.out (by kernel_rfl)) (by decide) (fun K hK => ?_)
                           have hs74 : w73.cell? ⟨gb348, 0, none⟩ = some (.int .i64 0) := (blk_cell BK348.out 0).trans rfl
                           have hfs74 := blk_frozen BK348.out 0
                           have hns74_0 := NB316_348.out
                           have hns74_1 := NB327_348.out
                           have hns74_2 := NB338_348.out
                           have hms74_0 := NB348_316.out
                           have hms74_1 := NB348_327.out
                           have hms74_2 := NB348_338.out
                           have hs75 : w73.cell? ⟨gb348, 1, none⟩ = some (.int .i64 0) := (blk_cell BK348.out 1).trans rfl
                           have hfs75 := blk_frozen BK348.out 1
                           have hns75_0 := NB316_348.out
                           have hns75_1 := NB327_348.out
                           have hns75_2 := NB338_348.out
                           have hms75_0 := NB348_316.out
                           have hms75_1 := NB348_327.out
                           have hms75_2 := NB348_338.out
                           have hs76 : w73.cell? ⟨gb348, 2, none⟩ = some (.string (⟨#[]⟩ : ByteArray)) := (blk_cell BK348.out 2).trans rfl
                           have hfs76 := blk_frozen BK348.out 2
                           have hns76_0 := NB316_348.out
                           have hns76_1 := NB327_348.out
                           have hns76_2 := NB338_348.out
                           have hms76_0 := NB348_316.out
                           have hms76_1 := NB348_327.out
                           have hms76_2 := NB348_338.out
                           have hs78 : w73.cell? ⟨gb348, 3, none⟩ = some (.slice none 0 0) := (blk_cell BK348.out 3).trans rfl
                           have hfs78 := blk_frozen BK348.out 3
                           have hns78_0 := NB316_348.out
                           have hns78_1 := NB327_348.out
                           have hns78_2 := NB338_348.out
                           have hms78_0 := NB348_316.out
                           have hms78_1 := NB348_327.out
                           have hms78_2 := NB348_338.out
                           refine skip_ (w1 := ?_) (by rfl) rfl ?_ ?_
                           rotate_left
                           ·
                            go_simp
                            rfl
                           have hblk1_HO_4 := Kd.own_blk (Kd.R_ne HO_4.out BK348.out (by decide))
                           have hblk1_HO_5 := Kd.own_blk (Kd.R_ne HO_5.out BK348.out (by decide))
                           refine hK.out _ _ ⟨((far4 NB338_348.out _ _ _ _).trans hHeld.1), ((far4 NB338_348.out _ _ _ _).trans hHeld.2.1), ((far4 NB338_348.out _ _ _ _).trans hHeld.2.2.1), ((far4 NB338_348.out _ _ _ _).trans hHeld.2.2.2.1), ((far4 (by first | exact hblk1_HO_4 | (rw [add_block]; exact hblk1_HO_4)) _ _ _ _).trans hHeld.2.2.2.2.1), ((far4 (by first | exact hblk1_HO_5 | (rw [add_block]; exact hblk1_HO_5)) _ _ _ _).trans hHeld.2.2.2.2.2.1), ((far4 (by first | exact hblk1_HO_5 | (rw [add_block]; exact hblk1_HO_5)) _ _ _ _).trans hHeld.2.2.2.2.2.2.1), ((far4 (by first | exact hblk1_HO_5 | (rw [add_block]; exact hblk1_HO_5)) _ _ _ _).trans hHeld.2.2.2.2.2.2.2.1), ((far4 (by first | exact hblk1_HO_5 | (rw [add_block]; exact hblk1_HO_5)) _ _ _ _).trans hHeld.2.2.2.2.2.2.2.2)⟩ (fun hHeld => ?_)
                           (try clear hblk1_HO_4 hblk1_HO_5)
                           clear hK K
                           refine pure_ (i := 16) (N := some 17) (v := ?_) (a' := ?_) #[true, true, true, true, true, true, true, true, true, true, true, true, true, true, true, true, true] rfl rfl (any_of HT_.out (by kernel_rfl)) (fun _ _ _ h => h) (Or.inl ⟨by rfl, ?_⟩) ?_ ?_
                           rotate_left
                           ·
                            intro w'
                            go_simp
                            with_reducible rfl
                           rotate_left
                           ·
                            simp only [Act.put, List.setIfInBounds_toArray, List.set_cons_zero, List.set_cons_succ, i64_w, i32_w]
                            rfl
                           refine done_ (done_of HT_.out (by kernel_rfl)) ?_
                           have hnb79 := NB348_316.out
                           have hnc79 := NB316_348.out
                           have hnb80 := NB348_327.out
                           have hnc80 := NB327_348.out
                           have hnb81 := NB348_338.out
                           have hnc81 := NB338_348.out
                           have hcz82_0 : w73.cell? ⟨gb348, 0, none⟩ = some (.int .i64 0) := (blk_cell BK348.out 0).trans rfl
                           have hcz82_1 : w73.cell? ⟨gb348, 1, none⟩ = some (.int .i64 0) := (blk_cell BK348.out 1).trans rfl
                           have hcz82_2 : w73.cell? ⟨gb348, 2, none⟩ = some (.string (⟨#[]⟩ : ByteArray)) := (blk_cell BK348.out 2).trans rfl
                           have hcz82_3 : w73.cell? ⟨gb348, 3, none⟩ = some (.slice none 0 0) := (blk_cell BK348.out 3).trans rfl
                           have hfz82_0 := blk_frozen BK348.out 0
                           have hfz82_1 := blk_frozen BK348.out 1
                           have hfz82_2 := blk_frozen BK348.out 2
                           have hfz82_3 := blk_frozen BK348.out 3
                           have hnb83 := NB316_327.out
                           have hnc83 := NB327_316.out
                           have hnb84 := NB316_338.out
                           have hnc84 := NB338_316.out
                           have hcz85_0 : w73.cell? ⟨gb316, 0, none⟩ = some (.int .i64 x317000_2) := (blk_cell BK316.out 0).trans rfl
                           have hcz85_1 : w73.cell? ⟨gb316, 1, none⟩ = some (.int .i64 x317001_2) := (blk_cell BK316.out 1).trans rfl
                           have hcz85_2 : w73.cell? ⟨gb316, 2, none⟩ = some (.string x317002_2) := (blk_cell BK316.out 2).trans rfl
                           have hcz85_3 : w73.cell? ⟨gb316, 3, none⟩ = some (.slice Ao59 x317003_2.length co59) := (blk_cell BK316.out 3).trans rfl
                           have hfz85_0 := blk_frozen BK316.out 0
                           have hfz85_1 := blk_frozen BK316.out 1
                           have hfz85_2 := blk_frozen BK316.out 2
                           have hfz85_3 := blk_frozen BK316.out 3
                           try go_wp2
                           go_roundg kj33
                           case measure => have := HJ8.out; have := HK2.out; have := HJ33.out; omega
                           case rel => exact ⟨(wrap64 (x9_2 - 1)), (t341), (t342), (t343), (t344), (.slice Ao77 t344.length co77), (by first | rfl | (simp; done) | (simp [*]; done)), H', ⟨by have := HJ8.out; have := HK2.out; have := HJ33.out; omega⟩, ⟨by (with_reducible repeat (first | apply Kd.R_alloc | apply Kd.R_drewN | apply Kd.R_drew)); exact Kd.R_mono (Kd.R_far (p := ⟨gb316, 3, none⟩) (Kd.R_far (p := ⟨gb316, 2, none⟩) (Kd.R_far (p := ⟨gb316, 1, none⟩) (Kd.R_far (p := ⟨gb316, 0, none⟩) (Kd.R_far (p := ⟨gb348, 3, none⟩) (Kd.R_far (p := ⟨gb348, 2, none⟩) (Kd.R_far (p := ⟨gb348, 1, none⟩) (Kd.R_far (p := ⟨gb348, 0, none⟩) (Kd.R_types (Kd.R_types HO_4.out BK348.out (by decide)) BK316.out (by decide)) (fun _ hk => hk.1.2) (.int .i64 t341)) (fun _ hk => hk.1.2) (.int .i64 t342)) (fun _ hk => hk.1.2) (.string t343)) (fun _ hk => hk.1.2) (.slice Ao77 t344.length co77)) (fun _ hk => hk.2) (.int .i64 t341)) (fun _ hk => hk.2) (.int .i64 t342)) (fun _ hk => hk.2) (.string t343)) (fun _ hk => hk.2) (.slice Ao77 t344.length co77)) (fun _ hk => trivial)⟩, ⟨by (with_reducible repeat (first | apply Kd.R_alloc | apply Kd.R_drewN | apply Kd.R_drew)); exact Kd.R_mono (Kd.R_far (p := ⟨gb316, 3, none⟩) (Kd.R_far (p := ⟨gb316, 2, none⟩) (Kd.R_far (p := ⟨gb316, 1, none⟩) (Kd.R_far (p := ⟨gb316, 0, none⟩) (Kd.R_far (p := ⟨gb348, 3, none⟩) (Kd.R_far (p := ⟨gb348, 2, none⟩) (Kd.R_far (p := ⟨gb348, 1, none⟩) (Kd.R_far (p := ⟨gb348, 0, none⟩) (Kd.R_types (Kd.R_types HO_5.out BK348.out (by decide)) BK316.out (by decide)) (fun _ hk => hk.1.2) (.int .i64 t341)) (fun _ hk => hk.1.2) (.int .i64 t342)) (fun _ hk => hk.1.2) (.string t343)) (fun _ hk => hk.1.2) (.slice Ao77 t344.length co77)) (fun _ hk => hk.2) (.int .i64 t341)) (fun _ hk => hk.2) (.int .i64 t342)) (fun _ hk => hk.2) (.string t343)) (fun _ hk => hk.2) (.slice Ao77 t344.length co77)) (fun _ hk => trivial)⟩, ⟨by (with_reducible repeat (first | apply Kd.R_alloc | apply Kd.R_drewN | apply Kd.R_drew)); exact Kd.R_mono (Kd.R_far (p := ⟨gb316, 3, none⟩) (Kd.R_far (p := ⟨gb316, 2, none⟩) (Kd.R_far (p := ⟨gb316, 1, none⟩) (Kd.R_far (p := ⟨gb316, 0, none⟩) (Kd.R_far (p := ⟨gb348, 3, none⟩) (Kd.R_far (p := ⟨gb348, 2, none⟩) (Kd.R_far (p := ⟨gb348, 1, none⟩) (Kd.R_far (p := ⟨gb348, 0, none⟩) (Kd.R_types (Kd.R_types HO346.out BK348.out (by decide)) BK316.out (by decide)) (fun _ hk => hk.1.2) (.int .i64 t341)) (fun _ hk => hk.1.2) (.int .i64 t342)) (fun _ hk => hk.1.2) (.string t343)) (fun _ hk => hk.1.2) (.slice Ao77 t344.length co77)) (fun _ hk => hk.2) (.int .i64 t341)) (fun _ hk => hk.2) (.int .i64 t342)) (fun _ hk => hk.2) (.string t343)) (fun _ hk => hk.2) (.slice Ao77 t344.length co77)) (fun _ hk => trivial)⟩, ⟨by (with_reducible repeat (first | refine blk_drewN ?_ _ | refine blk_drew ?_ | refine blk_alloc ?_ _)); refine blk_put (cs := #[.int .i64 t341, .int .i64 t342, .string t343, .slice Ao59 x317003_2.length co59]) ?_ 3 _ rfl; (with_reducible repeat (first | refine blk_drewN ?_ _ | refine blk_drew ?_ | refine blk_alloc ?_ _)); refine blk_put (cs := #[.int .i64 t341, .int .i64 t342, .string x317002_2, .slice Ao59 x317003_2.length co59]) ?_ 2 _ rfl; (with_reducible repeat (first | refine blk_drewN ?_ _ | refine blk_drew ?_ | refine blk_alloc ?_ _)); refine blk_put (cs := #[.int .i64 t341, .int .i64 x317001_2, .string x317002_2, .slice Ao59 x317003_2.length co59]) ?_ 1 _ rfl; (with_reducible repeat (first | refine blk_drewN ?_ _ | refine blk_drew ?_ | refine blk_alloc ?_ _)); refine blk_put (cs := #[.int .i64 x317000_2, .int .i64 x317001_2, .string x317002_2, .slice Ao59 x317003_2.length co59]) ?_ 0 _ rfl; (with_reducible repeat (first | refine blk_drewN ?_ _ | refine blk_drew ?_ | refine blk_alloc ?_ _)); refine blk_far ?_ NB316_348.out _; (with_reducible repeat (first | refine blk_drewN ?_ _ | refine blk_drew ?_ | refine blk_alloc ?_ _)); refine blk_far ?_ NB316_348.out _; (with_reducible repeat (first | refine blk_drewN ?_ _ | refine blk_drew ?_ | refine blk_alloc ?_ _)); refine blk_far ?_ NB316_348.out _; (with_reducible repeat (first | refine blk_drewN ?_ _ | refine blk_drew ?_ | refine blk_alloc ?_ _)); refine blk_far ?_ NB316_348.out _; (with_reducible repeat (first | refine blk_drewN ?_ _ | refine blk_drew ?_ | refine blk_alloc ?_ _)); exact BK316.out⟩, ⟨by repeat (first | (with_reducible first | exact HB.out | apply below_alloc | apply pw_below_drewN | apply below_drew1 | refine below_set ?_ GE316.out | refine below_set ?_ GE327.out | refine below_set ?_ GE338.out | refine below_set ?_ GE348.out) | exact HB.out)⟩⟩
                          ·
                           rw [if_neg c58] at H
                           exact absurd H (by simp)
                         ·
                          rw [if_neg c57] at H
                          exact absurd H (by simp)
                        ·
                         rw [if_neg c55] at H
                         exact absurd H (by simp)
                       ·
                        rw [if_neg c54] at H
                        exact absurd H (by simp)
                     ·
                      rw [if_neg c51] at H
                      exact absurd H (by simp)
                    ·
                     rw [if_neg c49] at H
                     exact absurd H (by simp)
                   ·
                    rw [if_neg c48] at H
                    exact absurd H (by simp)
               ·
                rw [if_neg c31] at H
                exact absurd H (by simp)
              ·
               rw [if_neg c30] at H
               exact absurd H (by simp)
             ·
              rw [if_neg c29] at H
              have c29b0 : decide (0 ≤ x9_2) = false := decide_eq_false c29
              clear c29
              replace H := Option.bind_eq_some_iff.mp H
              obtain ⟨⟨t317, t318⟩, A860, H⟩ := H
              replace H : (if t315 = true then (if t318 = true then (some (t317.toList == t297.toList)) else (none)) else (none)) = some r := H
              have A86 := Aside0.mk A860
              clear A860
              by_cases c87 : t315 = true
              ·
               subst c87
               have H1 : (if t318 = true then (some (t317.toList == t297.toList)) else (none)) = some r := by rw [if_pos rfl] at H; exact H
               clear H
               have H := H1
               clear H1
               by_cases c88 : t318 = true
               ·
                subst c88
                have H1 : (some (t317.toList == t297.toList)) = some r := by rw [if_pos rfl] at H; exact H
                clear H
                have H := H1
                clear H1
                obtain rfl := Option.some.inj H
                have hcz89_0 : wr.cell? ⟨gb316, 0, none⟩ = some (.int .i64 x317000_2) := (blk_cell BK316.out 0).trans rfl
                have hcz89_1 : wr.cell? ⟨gb316, 1, none⟩ = some (.int .i64 x317001_2) := (blk_cell BK316.out 1).trans rfl
                have hcz89_2 : wr.cell? ⟨gb316, 2, none⟩ = some (.string x317002_2) := (blk_cell BK316.out 2).trans rfl
                have hcz89_3 : wr.cell? ⟨gb316, 3, none⟩ = some (u317003) := (blk_cell BK316.out 3).trans rfl
                have hfz89_0 := blk_frozen BK316.out 0
                have hfz89_1 := blk_frozen BK316.out 1
                have hfz89_2 := blk_frozen BK316.out 2
                have hfz89_3 := blk_frozen BK316.out 3
                obtain ⟨Ao90, co90, eo90⟩ := Kd.R_slice HO_317003.out
                subst eo90
                go_wp2_with (first | ((with_reducible refine gate_callee (f := 20) rfl ?_); refine goesL_ (some 131) rfl rfl Try.func20 (by kernel_rfl) rfl #[.agg #[.int .i64 x317000_2, .int .i64 x317001_2, .string x317002_2, .slice Ao90 x317003_2.length co90]] rfl (by (try simp only [List.map_toArray, List.map_cons, List.map_nil]); first | done | rfl | (simp only [List.length_drop, List.length_take]; rfl)) ?_; (with_reducible refine (impl_BoxWhole.calls k2 x317000_2 x317001_2 x317002_2 _ _ x317003_2 t317 true _ ?side1 ?side2 A86.out).mono ?_); (case side1 => repeat (first | exact (Kd.R_reads' HO_317003.out).2.2 | (with_reducible refine Kd.C_alloc ?_ _) | (with_reducible refine Kd.C_drewN ?_ _) | (with_reducible refine Kd.C_drew ?_))); (case side2 => exact (Kd.R_reads' HO_317003.out).2.1); rintro e w91 ⟨rfl, hb⟩; refine ⟨_, rfl, ?_⟩; have n0_ := Aside0.mk (Kd.R_below (by (with_reducible repeat (first | apply Kd.R_alloc | apply Kd.R_drewN | apply Kd.R_drew)); exact HO_4.out) hb); have n1_ := Aside0.mk (Kd.R_below (by (with_reducible repeat (first | apply Kd.R_alloc | apply Kd.R_drewN | apply Kd.R_drew)); exact HO_5.out) hb); have n2_ := Aside0.mk (Kd.R_below (by (with_reducible repeat (first | apply Kd.R_alloc | apply Kd.R_drewN | apply Kd.R_drew)); exact HO_317003.out) hb); have n3_ := Aside0.mk (blk_below (g := gb316) (o := .cells #[.int .i64 x317000_2, .int .i64 x317001_2, .string x317002_2, .slice Ao90 x317003_2.length co90] 32 (0, 0)) (by (with_reducible repeat (first | refine blk_drewN ?_ _ | refine blk_drew ?_ | refine blk_alloc ?_ _)); exact BK316.out) hb); have n4_ := Aside0.mk (below_step (by repeat (first | (with_reducible first | exact HB.out | apply below_alloc | apply pw_below_drewN | apply below_drew1 | refine below_set ?_ GE316.out) | exact HB.out)) hb); clear HO_4; clear HO_5; clear HO_317003; clear BK316; clear HB; have HO_4 := n0_; have HO_5 := n1_; have HO_317003 := n2_; have BK316 := n3_; have HB := n4_; clear n0_ n1_ n2_ n3_ n4_; (try clear hb); (try clear hb2); (try clear hk); (try clear hi)))
                go_ret
                exact ⟨by first | rfl | (simp [errW_none, errW_some] <;> rfl) | (simp only [← hji20]; first | rfl | (simp [errW_none, errW_some] <;> rfl)) | (simp [*, errW_none, errW_some] <;> rfl), by repeat (first | (with_reducible first | exact HB.out | apply below_alloc | apply pw_below_drewN | apply below_drew1 | refine below_set ?_ GE316.out) | exact HB.out)⟩
               ·
                replace c88 := Bool.eq_false_iff.mpr c88
                subst c88
                have H1 : (none) = some r := by rw [if_neg (show ¬ (false = true) by decide)] at H; exact H
                clear H
                have H := H1
                clear H1
                exact absurd H (by simp)
              ·
               replace c87 := Bool.eq_false_iff.mpr c87
               subst c87
               have H1 : (none) = some r := by rw [if_neg (show ¬ (false = true) by decide)] at H; exact H
               clear H
               have H := H1
               clear H1
               exact absurd H (by simp)
          ·
           rw [if_neg c22] at H
           exact absurd H (by simp)
         ·
          rw [if_neg c21] at H
          exact absurd H (by simp)
       ·
        rw [if_neg c18] at H
        exact absurd H (by simp)
   ·
    rw [if_neg c7] at H
    exact absurd H (by simp)
  ·
   rw [if_neg c6] at H
   exact absurd H (by simp)
theorem laws_FnPieces.walk (P : laws_FnPieces.Pure) (a0 : Option Addr) (len0 cap0 : Nat) (z0 : List Int) (w : World) (w0 : (a0 = none ∧ len0 = 0 ∧ cap0 = 0 ∧ z0 = []) ∨ ∃ x, a0 = some x ∧ len0 ≤ cap0 ∧ cap0 ≤ maxLen ∧ z0.length = cap0 ∧ (∀ i, i < z0.length → w.cell? (x.add i) = some (.int .u8 (z0.getD i 0))) ∧ ∀ n ∈ z0, (Lit.int .u8 n).wf = true) (y0 : len0 * 1 ≤ 140737488351232) :
  Calls Try.prog 3 #[.slice a0 len0 cap0] w fun e w' => e = .returned (.bool true) ∧ Below w.heap.size w w' := by
 obtain ⟨l0, rfl, hr0, hm0, hw0, hc0⟩ := ReadsInt.ofRowC w0
 obtain ⟨k, h⟩ := P l0 hm0 y0 hw0
 refine (laws_FnPieces.calls k _ _ l0 true w (Kd.C_of_reads (d := (0 : Int)) (h1 := fun _ => rfl) hr0) hc0 h).mono ?_
 rintro e w' ⟨rfl, hd⟩
 exact ⟨rfl, hd⟩
end Go.Proofs.Ytfddealjbpdehaa.B
