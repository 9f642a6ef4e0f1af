-- Written by a program of this session (wip/trim.py) out of the texts that the kit's print and wip/myprint.py write for this claim.
import Derived.Test.YtfddealjbpdehaaQ1AcksDef
import Derived.Test.YtfddealjbpdehaaQ1Ax0
import Derived.Test.YtfddealjbpdehaaQ1Ax1
import Derived.Test.YtfddealjbpdehaaQ1Ax5
import Derived.Test.YtfddealjbpdehaaQ1Ax6
import Derived.Test.YtfddealjbpdehaaQ1Ax7
import Derived.Test.YtfddealjbpdehaaQ1Ax8
namespace Go.Proofs.Ytfddealjbpdehaa.A
open Go.RowKit Go.Proofs.YtfddealjbpdehaaW.PrintWords Go.Proofs.YtfddealjbpdehaaW.PrintLast Go.Proofs.YtfddealjbpdehaaW.PrintMore
attribute [local go_sem] max2_int min2_int max_two min_two max_three min_three max_four min_four
set_option linter.unusedVariables false
set_option linter.unusedSimpArgs false
def laws_FnAcks.T13 : Bool × List (List Nat × List Nat) := (true, [([], []), ([], []), ([1], [1]), ([0, 2], [0, 2]), ([3], [3]), ([4], [4]), ([4], [4]), ([5, 6, 4], [4, 5, 6]), ([7, 4], [4, 7]), ([4], [4]), ([4], [4]), ([9, 10, 4], [4, 9, 10]), ([11, 4], [4, 11]), ([8, 12, 4], [4, 8, 12]), ([4, 13], [4, 13])])
def laws_FnAcks.B13 : List Nat := [0, 0, 2, 7, 15, 31, 31, 127, 255, 31, 31, 1567, 3615, 8191, 16383]
theorem laws_FnAcks.tab13 : rtab .any (opsOf Try.f4 13) = laws_FnAcks.T13 := by kernel_rfl
theorem laws_FnAcks.bits13 : waitsOk laws_FnAcks.T13.2 laws_FnAcks.B13 = true := by kernel_rfl
def laws_FnAcks.T16 : Bool × List (List Nat × List Nat) := (true, [([], []), ([], []), ([1], [1]), ([2], [2]), ([3], [3]), ([4], [4]), ([0, 5], [0, 5]), ([], []), ([7, 6, 6, 0, 1, 2, 3, 4, 5, 6, 7], [6, 7])])
def laws_FnAcks.B16 : List Nat := [0, 0, 2, 6, 14, 30, 63, 0, 255]
theorem laws_FnAcks.tab16 : rtab .any (opsOf Try.f4 16) = laws_FnAcks.T16 := by kernel_rfl
theorem laws_FnAcks.bits16 : waitsOk laws_FnAcks.T16.2 laws_FnAcks.B16 = true := by kernel_rfl
theorem R_after3 {α : Type} {d : Kd α} {e g t base : Nat} {ok : Nat → Prop} {W : World} {v : Value} {xs : List α} {cs : Array Value} (h : d.R e W base ok v xs) (hb : W.heap[g]? = some (.cells cs t (0, 0))) (u0 u1 u2 : Value) (ht : ∀ q, q ∈ e :: d.E → q ≠ t := by decide) :
  d.R e (((W.setCell ⟨g, 0, none⟩ u0).setCell ⟨g, 1, none⟩ u1).setCell ⟨g, 2, none⟩ u2) base (fun _ => True) v xs :=
 Kd.R_mono (Kd.R_far (p := ⟨g, 2, none⟩) (Kd.R_far (p := ⟨g, 1, none⟩) (Kd.R_far (p := ⟨g, 0, none⟩) (Kd.R_types h hb ht) (fun _ hk => hk.2) u0) (fun _ hk => hk.2) u1) (fun _ hk => hk.2) u2) (fun _ _ => trivial)
theorem far3 {W : World} {g g' t : Nat} {cs : Array Value} (h : W.heap[g]? = some (.cells cs t (0, 0))) (hne : g ≠ g') (u0 u1 u2 : Value) :
  (((W.setCell ⟨g', 0, none⟩ u0).setCell ⟨g', 1, none⟩ u1).setCell ⟨g', 2, none⟩ u2).heap[g]? = some (.cells cs t (0, 0)) :=
 blk_far (p := ⟨g', 2, none⟩) (blk_far (p := ⟨g', 1, none⟩) (blk_far (p := ⟨g', 0, none⟩) h hne u0) hne u1) hne u2
theorem blk3 {W : World} {g t : Nat} {c0 c1 c2 : Value} (hb : W.heap[g]? = some (.cells #[c0, c1, c2] t (0, 0))) (u0 u1 u2 : Value) :
  (((W.setCell ⟨g, 0, none⟩ u0).setCell ⟨g, 1, none⟩ u1).setCell ⟨g, 2, none⟩ u2).heap[g]? = some (.cells #[u0, u1, u2] t (0, 0)) :=
 blk_put (cs := #[u0, u1, c2]) (blk_put (cs := #[u0, c1, c2]) (blk_put (cs := #[c0, c1, c2]) hb 0 u0 rfl) 1 u1 rfl) 2 u2 rfl
set_option maxHeartbeats 8000000 in
set_option maxRecDepth 100000 in
theorem laws_FnAcks.calls (k : Nat) (A0 : Option Addr) (c0 : Nat) (l0 : List Int) (r : Bool) (w : World) (hr0 : Kd.C (Kd.int .u8) w A0 l0.length l0) (hc0 : l0.length ≤ c0) (h : laws_FnAcks.f k l0 = some r) :
  Calls Try.prog 4 #[.slice A0 l0.length c0] w fun e w' => e = .returned (.bool r) ∧ Below w.heap.size w w' := by
 have hu46 := Try.underlying46
 have HR0 := Aside0.mk hr0
 have HC0 := Aside0.mk hc0
 clear hr0 hc0
 have HB := Aside0.mk (Below.refl w.heap.size w)
 have H : ((laws_big.f l0).bind fun t393 => (if t393 = true then (some true) else ((spec_DrawFlight.f k l0).bind fun bt394 => ((impl_LeftOf.f k bt394.1 bt394.2.1 bt394.2.2).bind fun t402 => ((impl_AckList.f k t402).bind fun bt405 => ((impl_ReadAck.f k bt405.1).bind fun bt407 => ((impl_AckedBy.f k bt394.1 bt394.2.1 bt394.2.2 t402).bind fun bt411 => ((impl_SaidAgain.f k bt394.1 bt394.2.1 bt394.2.2).bind fun bt419 => ((impl_SaidAgain.f k bt411.1 bt411.2.1 bt411.2.2).bind fun bt430 => (laws_FnAcks.l0 k l0 t402 bt405.2 bt407.1 bt407.2 bt419.2.2.2 bt430.2.2.2 0 bt394.1 bt394.2.1 bt394.2.2 bt411.1 bt411.2.1 bt411.2.2 bt419.1 bt419.2.1 bt419.2.2.1 bt430.1 bt430.2.1 bt430.2.2.1)))))))))) = some r := h
 clear h
 replace H := Option.bind_eq_some_iff.mp H
 obtain ⟨t393, A20, H⟩ := H
 replace H : (if t393 = true then (some true) else ((spec_DrawFlight.f k l0).bind fun bt394 => ((impl_LeftOf.f k bt394.1 bt394.2.1 bt394.2.2).bind fun t402 => ((impl_AckList.f k t402).bind fun bt405 => ((impl_ReadAck.f k bt405.1).bind fun bt407 => ((impl_AckedBy.f k bt394.1 bt394.2.1 bt394.2.2 t402).bind fun bt411 => ((impl_SaidAgain.f k bt394.1 bt394.2.1 bt394.2.2).bind fun bt419 => ((impl_SaidAgain.f k bt411.1 bt411.2.1 bt411.2.2).bind fun bt430 => (laws_FnAcks.l0 k l0 t402 bt405.2 bt407.1 bt407.2 bt419.2.2.2 bt430.2.2.2 0 bt394.1 bt394.2.1 bt394.2.2 bt411.1 bt411.2.1 bt411.2.2 bt419.1 bt419.2.1 bt419.2.2.1 bt430.1 bt430.2.1 bt430.2.2.1))))))))) = some r := H
 have A2 := Aside0.mk A20
 clear A20
 by_cases c3 : t393 = true
 ·
  subst c3
  have H1 : (some true) = some r := by rw [if_pos rfl] at H; exact H
  clear H
  have H := H1
  clear H1
  obtain rfl := Option.some.inj H
  go_enter Try.func4, Try.ntmps4
  go_wp2_with (first | ((with_reducible refine gate_callee (f := 11) rfl ?_); refine goesL_ (some 18) rfl rfl Try.func11 (by kernel_rfl) rfl #[.slice A0 l0.length c0] rfl (by (try simp only [List.map_toArray, List.map_cons, List.map_nil]); first | done | rfl | (simp only [List.length_drop, List.length_take]; rfl)) ?_; (with_reducible refine (laws_big.calls _ _ l0 true _ ?side1 ?side2 A2.out).mono ?_); (case side1 => repeat (first | exact HR0.out | (with_reducible refine Kd.C_alloc ?_ _) | (with_reducible refine Kd.C_drewN ?_ _) | (with_reducible refine Kd.C_drew ?_))); (case side2 => exact HC0.out); rintro e w' ⟨rfl, ⟨nd, rfl⟩⟩; refine ⟨_, rfl, ?_⟩))
  go_ret
  exact ⟨by first | rfl | (simp [errW_none, errW_some] <;> rfl) | (simp [*, errW_none, errW_some] <;> rfl), by repeat (first | (with_reducible first | exact HB.out | apply below_alloc | apply pw_below_drewN | apply below_drew1) | exact HB.out)⟩
 ·
  replace c3 := Bool.eq_false_iff.mpr c3
  subst c3
  have H1 : ((spec_DrawFlight.f k l0).bind fun bt394 => ((impl_LeftOf.f k bt394.1 bt394.2.1 bt394.2.2).bind fun t402 => ((impl_AckList.f k t402).bind fun bt405 => ((impl_ReadAck.f k bt405.1).bind fun bt407 => ((impl_AckedBy.f k bt394.1 bt394.2.1 bt394.2.2 t402).bind fun bt411 => ((impl_SaidAgain.f k bt394.1 bt394.2.1 bt394.2.2).bind fun bt419 => ((impl_SaidAgain.f k bt411.1 bt411.2.1 bt411.2.2).bind fun bt430 => (laws_FnAcks.l0 k l0 t402 bt405.2 bt407.1 bt407.2 bt419.2.2.2 bt430.2.2.2 0 bt394.1 bt394.2.1 bt394.2.2 bt411.1 bt411.2.1 bt411.2.2 bt419.1 bt419.2.1 bt419.2.2.1 bt430.1 bt430.2.1 bt430.2.2.1)))))))) = some r := by rw [if_neg (show ¬ (false = true) by decide)] at H; exact H
  clear H
  have H := H1
  clear H1
  replace H := Option.bind_eq_some_iff.mp H
  obtain ⟨⟨t394, t397, t400⟩, A40, H⟩ := H
  replace H : ((impl_LeftOf.f k t394 t397 t400).bind fun t402 => ((impl_AckList.f k t402).bind fun bt405 => ((impl_ReadAck.f k bt405.1).bind fun bt407 => ((impl_AckedBy.f k t394 t397 t400 t402).bind fun bt411 => ((impl_SaidAgain.f k t394 t397 t400).bind fun bt419 => ((impl_SaidAgain.f k bt411.1 bt411.2.1 bt411.2.2).bind fun bt430 => (laws_FnAcks.l0 k l0 t402 bt405.2 bt407.1 bt407.2 bt419.2.2.2 bt430.2.2.2 0 t394 t397 t400 bt411.1 bt411.2.1 bt411.2.2 bt419.1 bt419.2.1 bt419.2.2.1 bt430.1 bt430.2.1 bt430.2.2.1))))))) = some r := H
  have A4 := Aside0.mk A40
  clear A40
  replace H := Option.bind_eq_some_iff.mp H
  obtain ⟨t402, A50, H⟩ := H
  replace H : ((impl_AckList.f k t402).bind fun bt405 => ((impl_ReadAck.f k bt405.1).bind fun bt407 => ((impl_AckedBy.f k t394 t397 t400 t402).bind fun bt411 => ((impl_SaidAgain.f k t394 t397 t400).bind fun bt419 => ((impl_SaidAgain.f k bt411.1 bt411.2.1 bt411.2.2).bind fun bt430 => (laws_FnAcks.l0 k l0 t402 bt405.2 bt407.1 bt407.2 bt419.2.2.2 bt430.2.2.2 0 t394 t397 t400 bt411.1 bt411.2.1 bt411.2.2 bt419.1 bt419.2.1 bt419.2.2.1 bt430.1 bt430.2.1 bt430.2.2.1)))))) = some r := H
  have A5 := Aside0.mk A50
  clear A50
  replace H := Option.bind_eq_some_iff.mp H
  obtain ⟨⟨t405, t406⟩, A60, H⟩ := H
  replace H : ((impl_ReadAck.f k t405).bind fun bt407 => ((impl_AckedBy.f k t394 t397 t400 t402).bind fun bt411 => ((impl_SaidAgain.f k t394 t397 t400).bind fun bt419 => ((impl_SaidAgain.f k bt411.1 bt411.2.1 bt411.2.2).bind fun bt430 => (laws_FnAcks.l0 k l0 t402 t406 bt407.1 bt407.2 bt419.2.2.2 bt430.2.2.2 0 t394 t397 t400 bt411.1 bt411.2.1 bt411.2.2 bt419.1 bt419.2.1 bt419.2.2.1 bt430.1 bt430.2.1 bt430.2.2.1))))) = some r := H
  have A6 := Aside0.mk A60
  clear A60
  replace H := Option.bind_eq_some_iff.mp H
  obtain ⟨⟨t407, t408⟩, A70, H⟩ := H
  replace H : ((impl_AckedBy.f k t394 t397 t400 t402).bind fun bt411 => ((impl_SaidAgain.f k t394 t397 t400).bind fun bt419 => ((impl_SaidAgain.f k bt411.1 bt411.2.1 bt411.2.2).bind fun bt430 => (laws_FnAcks.l0 k l0 t402 t406 t407 t408 bt419.2.2.2 bt430.2.2.2 0 t394 t397 t400 bt411.1 bt411.2.1 bt411.2.2 bt419.1 bt419.2.1 bt419.2.2.1 bt430.1 bt430.2.1 bt430.2.2.1)))) = some r := H
  have A7 := Aside0.mk A70
  clear A70
  replace H := Option.bind_eq_some_iff.mp H
  obtain ⟨⟨t411, t414, t417⟩, A80, H⟩ := H
  replace H : ((impl_SaidAgain.f k t394 t397 t400).bind fun bt419 => ((impl_SaidAgain.f k t411 t414 t417).bind fun bt430 => (laws_FnAcks.l0 k l0 t402 t406 t407 t408 bt419.2.2.2 bt430.2.2.2 0 t394 t397 t400 t411 t414 t417 bt419.1 bt419.2.1 bt419.2.2.1 bt430.1 bt430.2.1 bt430.2.2.1))) = some r := H
  have A8 := Aside0.mk A80
  clear A80
  replace H := Option.bind_eq_some_iff.mp H
  obtain ⟨⟨t419, t422, t425, t426⟩, A90, H⟩ := H
  replace H : ((impl_SaidAgain.f k t411 t414 t417).bind fun bt430 => (laws_FnAcks.l0 k l0 t402 t406 t407 t408 t426 bt430.2.2.2 0 t394 t397 t400 t411 t414 t417 t419 t422 t425 bt430.1 bt430.2.1 bt430.2.2.1)) = some r := H
  have A9 := Aside0.mk A90
  clear A90
  replace H := Option.bind_eq_some_iff.mp H
  obtain ⟨⟨t430, t433, t436, t437⟩, A100, H⟩ := H
  replace H : (laws_FnAcks.l0 k l0 t402 t406 t407 t408 t426 t437 0 t394 t397 t400 t411 t414 t417 t419 t422 t425 t430 t433 t436) = some r := H
  have A10 := Aside0.mk A100
  clear A100
  have H' := Aside0.mk H
  clear H
  go_enter Try.func4, Try.ntmps4
  dsimp only [List.append]
  go_wp2_with (first | ((with_reducible refine gate_callee (f := 11) rfl ?_); refine goesL_ (some 18) rfl rfl Try.func11 (by kernel_rfl) rfl #[.slice A0 l0.length c0] rfl (by (try simp only [List.map_toArray, List.map_cons, List.map_nil]); first | done | rfl | (simp only [List.length_drop, List.length_take]; rfl)) ?_; (with_reducible refine (laws_big.calls _ _ l0 false _ ?side1 ?side2 A2.out).mono ?_); (case side1 => repeat (first | exact HR0.out | (with_reducible refine Kd.C_alloc ?_ _) | (with_reducible refine Kd.C_drewN ?_ _) | (with_reducible refine Kd.C_drew ?_))); (case side2 => exact HC0.out); rintro e w' ⟨rfl, ⟨nd, rfl⟩⟩; refine ⟨_, rfl, ?_⟩) | ((with_reducible refine gate_callee (f := 21) rfl ?_); refine goesL_ (some 20) rfl rfl Try.func21 (by kernel_rfl) rfl #[.slice A0 l0.length c0] rfl (by (try simp only [List.map_toArray, List.map_cons, List.map_nil]); first | done | rfl | (simp only [List.length_drop, List.length_take]; rfl)) ?_; (with_reducible refine (spec_DrawFlight.calls k _ _ l0 t394 t397 t400 _ ?side1 ?side2 A4.out).mono ?_); (case side1 => repeat (first | exact HR0.out | (with_reducible refine Kd.C_alloc ?_ _) | (with_reducible refine Kd.C_drewN ?_ _) | (with_reducible refine Kd.C_drew ?_))); (case side2 => exact HC0.out); rintro e w11 ⟨v395, v398, rfl, ho0, ho1, hb⟩; refine ⟨_, rfl, ?_⟩; have n0_ := Aside0.mk (Kd.R_lower (Kd.R_mono (ok' := fun _ => True) ho0 (fun _ _ => trivial)) (below_size (by repeat (first | (with_reducible first | exact HB.out | apply below_alloc | apply pw_below_drewN | apply below_drew1) | exact HB.out)))); have n1_ := Aside0.mk (Kd.R_lower (Kd.R_mono (ok' := fun _ => True) ho1 (fun _ _ => trivial)) (below_size (by repeat (first | (with_reducible first | exact HB.out | apply below_alloc | apply pw_below_drewN | apply below_drew1) | exact HB.out)))); have n2_ := Aside0.mk (below_step (by repeat (first | (with_reducible first | exact HB.out | apply below_alloc | apply pw_below_drewN | apply below_drew1) | exact HB.out)) hb); clear HB; have HO396 := n0_; have HO399 := n1_; have HB := n2_; clear n0_ n1_ n2_; (try clear hb); (try clear hb2); (try clear hk); (try clear hi); (try clear ho0); (try clear ho1)) | ((with_reducible refine gate_dst (N := 3) rfl ?_); (try (refine gate_guard (by rfl) ?_; dsimp only)); refine box_event ?hg (N := 3) ?hd (cs := #[.slice none 0 0, .slice none 0 0, .int .i64 0]) (t := 46) ?hr ?_; (case hd => rfl); (case hg => rfl); (case hr => first | (go_simp; done) | (go_simp; rfl)); intro gb401 hg w12 hbox hb; have n0_ := Aside0.mk (Kd.R_below (by (with_reducible repeat (first | apply Kd.R_alloc | apply Kd.R_drewN | apply Kd.R_drew)); exact HO396.out) hb); have n1_ := Aside0.mk (Kd.R_below (by (with_reducible repeat (first | apply Kd.R_alloc | apply Kd.R_drewN | apply Kd.R_drew)); exact HO399.out) hb); have n2_ := Aside0.mk (below_step (by repeat (first | (with_reducible first | exact HB.out | apply below_alloc | apply pw_below_drewN | apply below_drew1) | exact HB.out)) hb); have n3_ := Aside0.mk (hbox); have n4_ := Aside0.mk ((by rw [hg]; exact (below_size (by repeat (first | (with_reducible first | exact HB.out | apply below_alloc | apply pw_below_drewN | apply below_drew1) | exact HB.out))) : w.heap.size ≤ gb401)); have n5_ := Aside0.mk ((by rw [hg]; exact (below_size (by repeat (first | (with_reducible first | exact HB.out | apply below_alloc | apply pw_below_drewN | apply below_drew1) | exact HB.out))) : w.heap.size ≤ gb401)); clear HO396; clear HO399; clear HB; have HO396 := n0_; have HO399 := n1_; have HB := n2_; have BK401 := n3_; have GW401 := n4_; have GE401 := n5_; clear n0_ n1_ n2_ n3_ n4_ n5_; clear hb hbox hg; obtain ⟨Ao13, co13, eo13⟩ := Kd.R_slice HO396.out; subst eo13; have hcz14_0 : w12.cell? ⟨gb401, 0, none⟩ = some (.slice none 0 0) := (blk_cell BK401.out 0).trans rfl; have hcz14_1 : w12.cell? ⟨gb401, 1, none⟩ = some (.slice none 0 0) := (blk_cell BK401.out 1).trans rfl; have hcz14_2 : w12.cell? ⟨gb401, 2, none⟩ = some (.int .i64 0) := (blk_cell BK401.out 2).trans rfl; have hfz14_0 := blk_frozen BK401.out 0; have hfz14_1 := blk_frozen BK401.out 1; have hfz14_2 := blk_frozen BK401.out 2; obtain ⟨Ao15, co15, eo15⟩ := Kd.R_slice HO399.out; subst eo15) | ((with_reducible refine gate_callee (f := 22) rfl ?_); refine goesL_ (some 22) rfl rfl Try.func22 (by kernel_rfl) rfl #[.agg #[.slice Ao13 t394.length co13, .slice Ao15 t397.length co15, .int .i64 t400]] rfl (by (try simp only [List.map_toArray, List.map_cons, List.map_nil]); first | done | rfl | (simp only [List.length_drop, List.length_take]; rfl)) ?_; (with_reducible refine (impl_LeftOf.calls k _ _ t394 _ _ t397 t400 t402 _ ?side1 ?side2 ?side3 ?side4 A5.out).mono ?_); (case side1 => refine (Kd.R_reads' (e := 3) (base := w.heap.size) (ok := fun k_ => True) (n := t394.length) (c := co13) ?_).2.2; exact (by (with_reducible repeat (first | apply Kd.R_alloc | apply Kd.R_drewN | apply Kd.R_drew)); exact (Kd.R_mono (Kd.R_far (p := ⟨gb401, 2, none⟩) (Kd.R_far (p := ⟨gb401, 1, none⟩) (Kd.R_far (p := ⟨gb401, 0, none⟩) (Kd.R_types HO396.out BK401.out (by decide)) (fun _ hk => hk.2) (.slice Ao13 t394.length co13)) (fun _ hk => hk.2) (.slice Ao15 t397.length co15)) (fun _ hk => hk.2) (.int .i64 t400)) (fun _ h_ => h_.1)))); (case side2 => exact (Kd.R_reads' HO396.out).2.1); (case side3 => refine (Kd.R_reads' (e := 3) (base := w.heap.size) (ok := fun k_ => True) (n := t397.length) (c := co15) ?_).2.2; exact (by (with_reducible repeat (first | apply Kd.R_alloc | apply Kd.R_drewN | apply Kd.R_drew)); exact (Kd.R_mono (Kd.R_far (p := ⟨gb401, 2, none⟩) (Kd.R_far (p := ⟨gb401, 1, none⟩) (Kd.R_far (p := ⟨gb401, 0, none⟩) (Kd.R_types HO399.out BK401.out (by decide)) (fun _ hk => hk.2) (.slice Ao13 t394.length co13)) (fun _ hk => hk.2) (.slice Ao15 t397.length co15)) (fun _ hk => hk.2) (.int .i64 t400)) (fun _ h_ => h_.1)))); (case side4 => exact (Kd.R_reads' HO399.out).2.1); rintro e w16 ⟨v403, rfl, ho0, hb⟩; refine ⟨_, rfl, ?_⟩; have n0_ := Aside0.mk (Kd.R_below (by (with_reducible repeat (first | apply Kd.R_alloc | apply Kd.R_drewN | apply Kd.R_drew)); exact (Kd.R_mono (Kd.R_far (p := ⟨gb401, 2, none⟩) (Kd.R_far (p := ⟨gb401, 1, none⟩) (Kd.R_far (p := ⟨gb401, 0, none⟩) (Kd.R_types HO396.out BK401.out (by decide)) (fun _ hk => hk.2) (.slice Ao13 t394.length co13)) (fun _ hk => hk.2) (.slice Ao15 t397.length co15)) (fun _ hk => hk.2) (.int .i64 t400)) (fun _ h_ => h_.1))) hb); have n1_ := Aside0.mk (Kd.R_below (by (with_reducible repeat (first | apply Kd.R_alloc | apply Kd.R_drewN | apply Kd.R_drew)); exact (Kd.R_mono (Kd.R_far (p := ⟨gb401, 2, none⟩) (Kd.R_far (p := ⟨gb401, 1, none⟩) (Kd.R_far (p := ⟨gb401, 0, none⟩) (Kd.R_types HO399.out BK401.out (by decide)) (fun _ hk => hk.2) (.slice Ao13 t394.length co13)) (fun _ hk => hk.2) (.slice Ao15 t397.length co15)) (fun _ hk => hk.2) (.int .i64 t400)) (fun _ h_ => h_.1))) hb); have n2_ := Aside0.mk (Kd.R_lower (Kd.R_mono (ok' := fun _ => True) ho0 (fun _ _ => trivial)) (below_size (by repeat (first | (with_reducible first | exact HB.out | apply below_alloc | apply pw_below_drewN | apply below_drew1 | refine below_set ?_ GE401.out) | exact HB.out)))); have n3_ := Aside0.mk (blk_below (g := gb401) (o := .cells #[.slice Ao13 t394.length co13, .slice Ao15 t397.length co15, .int .i64 t400] 46 (0, 0)) (by (with_reducible repeat (first | refine blk_drewN ?_ _ | refine blk_drew ?_ | refine blk_alloc ?_ _)); refine blk_put (cs := #[.slice Ao13 t394.length co13, .slice Ao15 t397.length co15, .int .i64 0]) ?_ 2 _ rfl; (with_reducible repeat (first | refine blk_drewN ?_ _ | refine blk_drew ?_ | refine blk_alloc ?_ _)); refine blk_put (cs := #[.slice Ao13 t394.length co13, .slice none 0 0, .int .i64 0]) ?_ 1 _ rfl; (with_reducible repeat (first | refine blk_drewN ?_ _ | refine blk_drew ?_ | refine blk_alloc ?_ _)); refine blk_put (cs := #[.slice none 0 0, .slice none 0 0, .int .i64 0]) ?_ 0 _ rfl; (with_reducible repeat (first | refine blk_drewN ?_ _ | refine blk_drew ?_ | refine blk_alloc ?_ _)); exact BK401.out) hb); have n4_ := Aside0.mk (below_step (by repeat (first | (with_reducible first | exact HB.out | apply below_alloc | apply pw_below_drewN | apply below_drew1 | refine below_set ?_ GE401.out) | exact HB.out)) hb); clear HO396; clear HO399; clear BK401; clear HB; have HO396 := n0_; have HO399 := n1_; have HO404 := n2_; have BK401 := n3_; have HB := n4_; clear n0_ n1_ n2_ n3_ n4_; (try clear hb); (try clear hb2); (try clear hk); (try clear hi); (try clear ho0); obtain ⟨Ao17, co17, eo17⟩ := Kd.R_slice HO404.out; subst eo17) | ((with_reducible refine gate_callee (f := 23) rfl ?_); refine goesL_ (some 25) rfl rfl Try.func23 (by kernel_rfl) rfl #[.slice Ao17 t402.length co17] rfl (by (try simp only [List.map_toArray, List.map_cons, List.map_nil]); first | done | rfl | (simp only [List.length_drop, List.length_take]; rfl)) ?_; (with_reducible refine (impl_AckList.calls k _ _ t402 t405 t406 _ ?side1 ?side2 A6.out).mono ?_); (case side1 => repeat (first | exact (Kd.R_reads' HO404.out).2.2 | (with_reducible refine Kd.C_alloc ?_ _) | (with_reducible refine Kd.C_drewN ?_ _) | (with_reducible refine Kd.C_drew ?_))); (case side2 => exact (Kd.R_reads' HO404.out).2.1); rintro e w18 ⟨rfl, hb⟩; refine ⟨_, rfl, ?_⟩; have n0_ := Aside0.mk (Kd.R_below (by (with_reducible repeat (first | apply Kd.R_alloc | apply Kd.R_drewN | apply Kd.R_drew)); exact HO396.out) hb); have n1_ := Aside0.mk (Kd.R_below (by (with_reducible repeat (first | apply Kd.R_alloc | apply Kd.R_drewN | apply Kd.R_drew)); exact HO399.out) hb); have n2_ := Aside0.mk (Kd.R_below (by (with_reducible repeat (first | apply Kd.R_alloc | apply Kd.R_drewN | apply Kd.R_drew)); exact HO404.out) hb); have n3_ := Aside0.mk (blk_below (g := gb401) (o := .cells #[.slice Ao13 t394.length co13, .slice Ao15 t397.length co15, .int .i64 t400] 46 (0, 0)) (by (with_reducible repeat (first | refine blk_drewN ?_ _ | refine blk_drew ?_ | refine blk_alloc ?_ _)); exact BK401.out) hb); have n4_ := Aside0.mk (below_step (by repeat (first | (with_reducible first | exact HB.out | apply below_alloc | apply pw_below_drewN | apply below_drew1 | refine below_set ?_ GE401.out) | exact HB.out)) hb); clear HO396; clear HO399; clear HO404; clear BK401; clear HB; have HO396 := n0_; have HO399 := n1_; have HO404 := n2_; have BK401 := n3_; have HB := n4_; clear n0_ n1_ n2_ n3_ n4_; (try clear hb); (try clear hb2); (try clear hk); (try clear hi)) | ((with_reducible refine gate_callee (f := 24) rfl ?_); refine goesL_ (some 30) rfl rfl Try.func24 (by kernel_rfl) rfl #[.string t405] rfl (by (try simp only [List.map_toArray, List.map_cons, List.map_nil]); first | done | rfl | (simp only [List.length_drop, List.length_take]; rfl)) ?_; (with_reducible refine (impl_ReadAck.calls k t405 t407 t408 _ A7.out).mono ?_); rintro e w19 ⟨v409, rfl, ho0, hb⟩; refine ⟨_, rfl, ?_⟩; have n0_ := Aside0.mk (Kd.R_below (by (with_reducible repeat (first | apply Kd.R_alloc | apply Kd.R_drewN | apply Kd.R_drew)); exact HO396.out) hb); have n1_ := Aside0.mk (Kd.R_below (by (with_reducible repeat (first | apply Kd.R_alloc | apply Kd.R_drewN | apply Kd.R_drew)); exact HO399.out) hb); have n2_ := Aside0.mk (Kd.R_below (by (with_reducible repeat (first | apply Kd.R_alloc | apply Kd.R_drewN | apply Kd.R_drew)); exact HO404.out) hb); have n3_ := Aside0.mk (Kd.R_lower (Kd.R_mono (ok' := fun _ => True) ho0 (fun _ _ => trivial)) (below_size (by repeat (first | (with_reducible first | exact HB.out | apply below_alloc | apply pw_below_drewN | apply below_drew1 | refine below_set ?_ GE401.out) | exact HB.out)))); have n4_ := Aside0.mk (blk_below (g := gb401) (o := .cells #[.slice Ao13 t394.length co13, .slice Ao15 t397.length co15, .int .i64 t400] 46 (0, 0)) (by (with_reducible repeat (first | refine blk_drewN ?_ _ | refine blk_drew ?_ | refine blk_alloc ?_ _)); exact BK401.out) hb); have n5_ := Aside0.mk (below_step (by repeat (first | (with_reducible first | exact HB.out | apply below_alloc | apply pw_below_drewN | apply below_drew1 | refine below_set ?_ GE401.out) | exact HB.out)) hb); clear HO396; clear HO399; clear HO404; clear BK401; clear HB; have HO396 := n0_; have HO399 := n1_; have HO404 := n2_; have HO410 := n3_; have BK401 := n4_; have HB := n5_; clear n0_ n1_ n2_ n3_ n4_ n5_; (try clear hb); (try clear hb2); (try clear hk); (try clear hi); (try clear ho0); have hcz20_0 : w19.cell? ⟨gb401, 0, none⟩ = some (.slice Ao13 t394.length co13) := (blk_cell BK401.out 0).trans rfl; have hcz20_1 : w19.cell? ⟨gb401, 1, none⟩ = some (.slice Ao15 t397.length co15) := (blk_cell BK401.out 1).trans rfl; have hcz20_2 : w19.cell? ⟨gb401, 2, none⟩ = some (.int .i64 t400) := (blk_cell BK401.out 2).trans rfl; have hfz20_0 := blk_frozen BK401.out 0; have hfz20_1 := blk_frozen BK401.out 1; have hfz20_2 := blk_frozen BK401.out 2) | ((with_reducible refine gate_callee (f := 25) rfl ?_); refine goesL_ (some 35) rfl rfl Try.func25 (by kernel_rfl) rfl #[.agg #[.slice Ao13 t394.length co13, .slice Ao15 t397.length co15, .int .i64 t400], .slice Ao17 t402.length co17] rfl (by (try simp only [List.map_toArray, List.map_cons, List.map_nil]); first | done | rfl | (simp only [List.length_drop, List.length_take]; rfl)) ?_; (with_reducible refine (impl_AckedBy.calls k _ _ t394 _ _ t397 t400 _ _ t402 t411 t414 t417 _ ?side1 ?side2 ?side3 ?side4 ?side5 ?side6 A8.out).mono ?_); (case side1 => repeat (first | exact (Kd.R_reads' HO396.out).2.2 | (with_reducible refine Kd.C_alloc ?_ _) | (with_reducible refine Kd.C_drewN ?_ _) | (with_reducible refine Kd.C_drew ?_))); (case side2 => exact (Kd.R_reads' HO396.out).2.1); (case side3 => repeat (first | exact (Kd.R_reads' HO399.out).2.2 | (with_reducible refine Kd.C_alloc ?_ _) | (with_reducible refine Kd.C_drewN ?_ _) | (with_reducible refine Kd.C_drew ?_))); (case side4 => exact (Kd.R_reads' HO399.out).2.1); (case side5 => repeat (first | exact (Kd.R_reads' HO404.out).2.2 | (with_reducible refine Kd.C_alloc ?_ _) | (with_reducible refine Kd.C_drewN ?_ _) | (with_reducible refine Kd.C_drew ?_))); (case side6 => exact (Kd.R_reads' HO404.out).2.1); rintro e w21 ⟨v412, v415, rfl, ho0, ho1, hb⟩; refine ⟨_, rfl, ?_⟩; have n0_ := Aside0.mk (Kd.R_below (by (with_reducible repeat (first | apply Kd.R_alloc | apply Kd.R_drewN | apply Kd.R_drew)); exact HO396.out) hb); have n1_ := Aside0.mk (Kd.R_below (by (with_reducible repeat (first | apply Kd.R_alloc | apply Kd.R_drewN | apply Kd.R_drew)); exact HO399.out) hb); have n2_ := Aside0.mk (Kd.R_below (by (with_reducible repeat (first | apply Kd.R_alloc | apply Kd.R_drewN | apply Kd.R_drew)); exact HO404.out) hb); have n3_ := Aside0.mk (Kd.R_below (by (with_reducible repeat (first | apply Kd.R_alloc | apply Kd.R_drewN | apply Kd.R_drew)); exact HO410.out) hb); have n4_ := Aside0.mk (Kd.R_lower (Kd.R_mono (ok' := fun _ => True) ho0 (fun _ _ => trivial)) (below_size (by repeat (first | (with_reducible first | exact HB.out | apply below_alloc | apply pw_below_drewN | apply below_drew1 | refine below_set ?_ GE401.out) | exact HB.out)))); have n5_ := Aside0.mk (Kd.R_lower (Kd.R_mono (ok' := fun _ => True) ho1 (fun _ _ => trivial)) (below_size (by repeat (first | (with_reducible first | exact HB.out | apply below_alloc | apply pw_below_drewN | apply below_drew1 | refine below_set ?_ GE401.out) | exact HB.out)))); have n6_ := Aside0.mk (blk_below (g := gb401) (o := .cells #[.slice Ao13 t394.length co13, .slice Ao15 t397.length co15, .int .i64 t400] 46 (0, 0)) (by (with_reducible repeat (first | refine blk_drewN ?_ _ | refine blk_drew ?_ | refine blk_alloc ?_ _)); exact BK401.out) hb); have n7_ := Aside0.mk (below_step (by repeat (first | (with_reducible first | exact HB.out | apply below_alloc | apply pw_below_drewN | apply below_drew1 | refine below_set ?_ GE401.out) | exact HB.out)) hb); clear HO396; clear HO399; clear HO404; clear HO410; clear BK401; clear HB; have HO396 := n0_; have HO399 := n1_; have HO404 := n2_; have HO410 := n3_; have HO413 := n4_; have HO416 := n5_; have BK401 := n6_; have HB := n7_; clear n0_ n1_ n2_ n3_ n4_ n5_ n6_ n7_; (try clear hb); (try clear hb2); (try clear hk); (try clear hi); (try clear ho0); (try clear ho1)) | ((with_reducible refine gate_dst (N := 9) rfl ?_); (try (refine gate_guard (by rfl) ?_; dsimp only)); refine box_event ?hg (N := 9) ?hd (cs := #[.slice none 0 0, .slice none 0 0, .int .i64 0]) (t := 46) ?hr ?_; (case hd => rfl); (case hg => rfl); (case hr => first | (go_simp; done) | (go_simp; rfl)); intro gb418 hg w22 hbox hb; have n0_ := Aside0.mk (Kd.R_below (by (with_reducible repeat (first | apply Kd.R_alloc | apply Kd.R_drewN | apply Kd.R_drew)); exact HO396.out) hb); have n1_ := Aside0.mk (Kd.R_below (by (with_reducible repeat (first | apply Kd.R_alloc | apply Kd.R_drewN | apply Kd.R_drew)); exact HO399.out) hb); have n2_ := Aside0.mk (Kd.R_below (by (with_reducible repeat (first | apply Kd.R_alloc | apply Kd.R_drewN | apply Kd.R_drew)); exact HO404.out) hb); have n3_ := Aside0.mk (Kd.R_below (by (with_reducible repeat (first | apply Kd.R_alloc | apply Kd.R_drewN | apply Kd.R_drew)); exact HO410.out) hb); have n4_ := Aside0.mk (Kd.R_below (by (with_reducible repeat (first | apply Kd.R_alloc | apply Kd.R_drewN | apply Kd.R_drew)); exact HO413.out) hb); have n5_ := Aside0.mk (Kd.R_below (by (with_reducible repeat (first | apply Kd.R_alloc | apply Kd.R_drewN | apply Kd.R_drew)); exact HO416.out) hb); have n6_ := Aside0.mk (blk_below (g := gb401) (o := .cells #[.slice Ao13 t394.length co13, .slice Ao15 t397.length co15, .int .i64 t400] 46 (0, 0)) (by (with_reducible repeat (first | refine blk_drewN ?_ _ | refine blk_drew ?_ | refine blk_alloc ?_ _)); exact BK401.out) hb); have n7_ := Aside0.mk (below_step (by repeat (first | (with_reducible first | exact HB.out | apply below_alloc | apply pw_below_drewN | apply below_drew1 | refine below_set ?_ GE401.out) | exact HB.out)) hb); have n8_ := Aside0.mk (hbox); have n9_ := Aside0.mk ((by rw [hg]; exact (below_size (by repeat (first | (with_reducible first | exact HB.out | apply below_alloc | apply pw_below_drewN | apply below_drew1 | refine below_set ?_ GE401.out) | exact HB.out))) : w.heap.size ≤ gb418)); have n10_ := Aside0.mk ((by rw [hg]; exact (below_size (by repeat (first | (with_reducible first | exact HB.out | apply below_alloc | apply pw_below_drewN | apply below_drew1 | refine below_set ?_ GE401.out) | exact HB.out))) : w.heap.size ≤ gb418)); have n11_ := Aside0.mk ((by rw [hg]; exact Nat.ne_of_lt (blk_lt (g := gb401) (o := .cells #[.slice Ao13 t394.length co13, .slice Ao15 t397.length co15, .int .i64 t400] 46 (0, 0)) (by (with_reducible repeat (first | refine blk_drewN ?_ _ | refine blk_drew ?_ | refine blk_alloc ?_ _)); exact BK401.out)) : gb401 ≠ gb418)); have n12_ := Aside0.mk ((by rw [hg]; exact Nat.ne_of_gt (blk_lt (g := gb401) (o := .cells #[.slice Ao13 t394.length co13, .slice Ao15 t397.length co15, .int .i64 t400] 46 (0, 0)) (by (with_reducible repeat (first | refine blk_drewN ?_ _ | refine blk_drew ?_ | refine blk_alloc ?_ _)); exact BK401.out)) : gb418 ≠ gb401)); clear HO396; clear HO399; clear HO404; clear HO410; clear HO413; clear HO416; clear BK401; clear HB; have HO396 := n0_; have HO399 := n1_; have HO404 := n2_; have HO410 := n3_; have HO413 := n4_; have HO416 := n5_; have BK401 := n6_; have HB := n7_; have BK418 := n8_; have GW418 := n9_; have GE418 := n10_; have NB401_418 := n11_; have NB418_401 := n12_; clear n0_ n1_ n2_ n3_ n4_ n5_ n6_ n7_ n8_ n9_ n10_ n11_ n12_; clear hb hbox hg; obtain ⟨Ao23, co23, eo23⟩ := Kd.R_slice HO413.out; subst eo23; have hnb24 := NB418_401.out; have hnc24 := NB401_418.out; have hcz25_0 : w22.cell? ⟨gb418, 0, none⟩ = some (.slice none 0 0) := (blk_cell BK418.out 0).trans rfl; have hcz25_1 : w22.cell? ⟨gb418, 1, none⟩ = some (.slice none 0 0) := (blk_cell BK418.out 1).trans rfl; have hcz25_2 : w22.cell? ⟨gb418, 2, none⟩ = some (.int .i64 0) := (blk_cell BK418.out 2).trans rfl; have hfz25_0 := blk_frozen BK418.out 0; have hfz25_1 := blk_frozen BK418.out 1; have hfz25_2 := blk_frozen BK418.out 2; obtain ⟨Ao26, co26, eo26⟩ := Kd.R_slice HO416.out; subst eo26; have hcz27_0 : w22.cell? ⟨gb401, 0, none⟩ = some (.slice Ao13 t394.length co13) := (blk_cell BK401.out 0).trans rfl; have hcz27_1 : w22.cell? ⟨gb401, 1, none⟩ = some (.slice Ao15 t397.length co15) := (blk_cell BK401.out 1).trans rfl; have hcz27_2 : w22.cell? ⟨gb401, 2, none⟩ = some (.int .i64 t400) := (blk_cell BK401.out 2).trans rfl; have hfz27_0 := blk_frozen BK401.out 0; have hfz27_1 := blk_frozen BK401.out 1; have hfz27_2 := blk_frozen BK401.out 2) | ((with_reducible refine gate_callee (f := 26) rfl ?_); refine goesL_ (some 38) rfl rfl Try.func26 (by kernel_rfl) rfl #[.agg #[.slice Ao13 t394.length co13, .slice Ao15 t397.length co15, .int .i64 t400]] rfl (by (try simp only [List.map_toArray, List.map_cons, List.map_nil]); first | done | rfl | (simp only [List.length_drop, List.length_take]; rfl)) ?_; (with_reducible refine (impl_SaidAgain.calls k _ _ t394 _ _ t397 t400 t419 t422 t425 t426 _ ?side1 ?side2 ?side3 ?side4 A9.out).mono ?_); (case side1 => refine (Kd.R_reads' (e := 3) (base := w.heap.size) (ok := fun k_ => True) (n := t394.length) (c := co13) ?_).2.2; exact (by (with_reducible repeat (first | apply Kd.R_alloc | apply Kd.R_drewN | apply Kd.R_drew)); exact (Kd.R_mono (Kd.R_far (p := ⟨gb418, 2, none⟩) (Kd.R_far (p := ⟨gb418, 1, none⟩) (Kd.R_far (p := ⟨gb418, 0, none⟩) (Kd.R_types HO396.out BK418.out (by decide)) (fun _ hk => hk.2) (.slice Ao23 t411.length co23)) (fun _ hk => hk.2) (.slice Ao26 t414.length co26)) (fun _ hk => hk.2) (.int .i64 t417)) (fun _ h_ => h_.1)))); (case side2 => exact (Kd.R_reads' HO396.out).2.1); (case side3 => refine (Kd.R_reads' (e := 3) (base := w.heap.size) (ok := fun k_ => True) (n := t397.length) (c := co15) ?_).2.2; exact (by (with_reducible repeat (first | apply Kd.R_alloc | apply Kd.R_drewN | apply Kd.R_drew)); exact (Kd.R_mono (Kd.R_far (p := ⟨gb418, 2, none⟩) (Kd.R_far (p := ⟨gb418, 1, none⟩) (Kd.R_far (p := ⟨gb418, 0, none⟩) (Kd.R_types HO399.out BK418.out (by decide)) (fun _ hk => hk.2) (.slice Ao23 t411.length co23)) (fun _ hk => hk.2) (.slice Ao26 t414.length co26)) (fun _ hk => hk.2) (.int .i64 t417)) (fun _ h_ => h_.1)))); (case side4 => exact (Kd.R_reads' HO399.out).2.1); rintro e w28 ⟨v420, v423, v427, rfl, ho0, ho1, ho2, hb⟩; refine ⟨_, rfl, ?_⟩; have n0_ := Aside0.mk (Kd.R_below (by (with_reducible repeat (first | apply Kd.R_alloc | apply Kd.R_drewN | apply Kd.R_drew)); exact (Kd.R_mono (Kd.R_far (p := ⟨gb418, 2, none⟩) (Kd.R_far (p := ⟨gb418, 1, none⟩) (Kd.R_far (p := ⟨gb418, 0, none⟩) (Kd.R_types HO396.out BK418.out (by decide)) (fun _ hk => hk.2) (.slice Ao23 t411.length co23)) (fun _ hk => hk.2) (.slice Ao26 t414.length co26)) (fun _ hk => hk.2) (.int .i64 t417)) (fun _ h_ => h_.1))) hb); have n1_ := Aside0.mk (Kd.R_below (by (with_reducible repeat (first | apply Kd.R_alloc | apply Kd.R_drewN | apply Kd.R_drew)); exact (Kd.R_mono (Kd.R_far (p := ⟨gb418, 2, none⟩) (Kd.R_far (p := ⟨gb418, 1, none⟩) (Kd.R_far (p := ⟨gb418, 0, none⟩) (Kd.R_types HO399.out BK418.out (by decide)) (fun _ hk => hk.2) (.slice Ao23 t411.length co23)) (fun _ hk => hk.2) (.slice Ao26 t414.length co26)) (fun _ hk => hk.2) (.int .i64 t417)) (fun _ h_ => h_.1))) hb); have n2_ := Aside0.mk (Kd.R_below (by (with_reducible repeat (first | apply Kd.R_alloc | apply Kd.R_drewN | apply Kd.R_drew)); exact (Kd.R_mono (Kd.R_far (p := ⟨gb418, 2, none⟩) (Kd.R_far (p := ⟨gb418, 1, none⟩) (Kd.R_far (p := ⟨gb418, 0, none⟩) (Kd.R_types HO404.out BK418.out (by decide)) (fun _ hk => hk.2) (.slice Ao23 t411.length co23)) (fun _ hk => hk.2) (.slice Ao26 t414.length co26)) (fun _ hk => hk.2) (.int .i64 t417)) (fun _ h_ => h_.1))) hb); have n3_ := Aside0.mk (Kd.R_below (by (with_reducible repeat (first | apply Kd.R_alloc | apply Kd.R_drewN | apply Kd.R_drew)); exact (Kd.R_mono (Kd.R_far (p := ⟨gb418, 2, none⟩) (Kd.R_far (p := ⟨gb418, 1, none⟩) (Kd.R_far (p := ⟨gb418, 0, none⟩) (Kd.R_types HO410.out BK418.out (by decide)) (fun _ hk => hk.2) (.slice Ao23 t411.length co23)) (fun _ hk => hk.2) (.slice Ao26 t414.length co26)) (fun _ hk => hk.2) (.int .i64 t417)) (fun _ h_ => h_.1))) hb); have n4_ := Aside0.mk (Kd.R_below (by (with_reducible repeat (first | apply Kd.R_alloc | apply Kd.R_drewN | apply Kd.R_drew)); exact (Kd.R_mono (Kd.R_far (p := ⟨gb418, 2, none⟩) (Kd.R_far (p := ⟨gb418, 1, none⟩) (Kd.R_far (p := ⟨gb418, 0, none⟩) (Kd.R_types HO413.out BK418.out (by decide)) (fun _ hk => hk.2) (.slice Ao23 t411.length co23)) (fun _ hk => hk.2) (.slice Ao26 t414.length co26)) (fun _ hk => hk.2) (.int .i64 t417)) (fun _ h_ => h_.1))) hb); have n5_ := Aside0.mk (Kd.R_below (by (with_reducible repeat (first | apply Kd.R_alloc | apply Kd.R_drewN | apply Kd.R_drew)); exact (Kd.R_mono (Kd.R_far (p := ⟨gb418, 2, none⟩) (Kd.R_far (p := ⟨gb418, 1, none⟩) (Kd.R_far (p := ⟨gb418, 0, none⟩) (Kd.R_types HO416.out BK418.out (by decide)) (fun _ hk => hk.2) (.slice Ao23 t411.length co23)) (fun _ hk => hk.2) (.slice Ao26 t414.length co26)) (fun _ hk => hk.2) (.int .i64 t417)) (fun _ h_ => h_.1))) hb); have n6_ := Aside0.mk (Kd.R_lower (Kd.R_mono (ok' := fun _ => True) ho0 (fun _ _ => trivial)) (below_size (by repeat (first | (with_reducible first | exact HB.out | apply below_alloc | apply pw_below_drewN | apply below_drew1 | refine below_set ?_ GE401.out | refine below_set ?_ GE418.out) | exact HB.out)))); have n7_ := Aside0.mk (Kd.R_lower (Kd.R_mono (ok' := fun _ => True) ho1 (fun _ _ => trivial)) (below_size (by repeat (first | (with_reducible first | exact HB.out | apply below_alloc | apply pw_below_drewN | apply below_drew1 | refine below_set ?_ GE401.out | refine below_set ?_ GE418.out) | exact HB.out)))); have n8_ := Aside0.mk (Kd.R_lower (Kd.R_mono (ok' := fun _ => True) ho2 (fun _ _ => trivial)) (below_size (by repeat (first | (with_reducible first | exact HB.out | apply below_alloc | apply pw_below_drewN | apply below_drew1 | refine below_set ?_ GE401.out | refine below_set ?_ GE418.out) | exact HB.out)))); have n9_ := Aside0.mk (blk_below (g := gb401) (o := .cells #[.slice Ao13 t394.length co13, .slice Ao15 t397.length co15, .int .i64 t400] 46 (0, 0)) (by (with_reducible repeat (first | refine blk_drewN ?_ _ | refine blk_drew ?_ | refine blk_alloc ?_ _)); refine blk_far ?_ NB401_418.out _; (with_reducible repeat (first | refine blk_drewN ?_ _ | refine blk_drew ?_ | refine blk_alloc ?_ _)); refine blk_far ?_ NB401_418.out _; (with_reducible repeat (first | refine blk_drewN ?_ _ | refine blk_drew ?_ | refine blk_alloc ?_ _)); refine blk_far ?_ NB401_418.out _; (with_reducible repeat (first | refine blk_drewN ?_ _ | refine blk_drew ?_ | refine blk_alloc ?_ _)); exact BK401.out) hb); have n10_ := Aside0.mk (blk_below (g := gb418) (o := .cells #[.slice Ao23 t411.length co23, .slice Ao26 t414.length co26, .int .i64 t417] 46 (0, 0)) (by (with_reducible repeat (first | refine blk_drewN ?_ _ | refine blk_drew ?_ | refine blk_alloc ?_ _)); refine blk_put (cs := #[.slice Ao23 t411.length co23, .slice Ao26 t414.length co26, .int .i64 0]) ?_ 2 _ rfl; (with_reducible repeat (first | refine blk_drewN ?_ _ | refine blk_drew ?_ | refine blk_alloc ?_ _)); refine blk_put (cs := #[.slice Ao23 t411.length co23, .slice none 0 0, .int .i64 0]) ?_ 1 _ rfl; (with_reducible repeat (first | refine blk_drewN ?_ _ | refine blk_drew ?_ | refine blk_alloc ?_ _)); refine blk_put (cs := #[.slice none 0 0, .slice none 0 0, .int .i64 0]) ?_ 0 _ rfl; (with_reducible repeat (first | refine blk_drewN ?_ _ | refine blk_drew ?_ | refine blk_alloc ?_ _)); exact BK418.out) hb); have n11_ := Aside0.mk (below_step (by repeat (first | (with_reducible first | exact HB.out | apply below_alloc | apply pw_below_drewN | apply below_drew1 | refine below_set ?_ GE401.out | refine below_set ?_ GE418.out) | exact HB.out)) hb); clear HO396; clear HO399; clear HO404; clear HO410; clear HO413; clear HO416; clear BK401; clear BK418; clear HB; have HO396 := n0_; have HO399 := n1_; have HO404 := n2_; have HO410 := n3_; have HO413 := n4_; have HO416 := n5_; have HO421 := n6_; have HO424 := n7_; have HO428 := n8_; have BK401 := n9_; have BK418 := n10_; have HB := n11_; clear n0_ n1_ n2_ n3_ n4_ n5_ n6_ n7_ n8_ n9_ n10_ n11_; (try clear hb); (try clear hb2); (try clear hk); (try clear hi); (try clear ho0); (try clear ho1); (try clear ho2)) | ((with_reducible refine gate_dst (N := 10) rfl ?_); (try (refine gate_guard (by rfl) ?_; dsimp only)); refine box_event ?hg (N := 10) ?hd (cs := #[.slice none 0 0, .slice none 0 0, .int .i64 0]) (t := 46) ?hr ?_; (case hd => rfl); (case hg => rfl); (case hr => first | (go_simp; done) | (go_simp; rfl)); intro gb429 hg w29 hbox hb; have n0_ := Aside0.mk (Kd.R_below (by (with_reducible repeat (first | apply Kd.R_alloc | apply Kd.R_drewN | apply Kd.R_drew)); exact HO396.out) hb); have n1_ := Aside0.mk (Kd.R_below (by (with_reducible repeat (first | apply Kd.R_alloc | apply Kd.R_drewN | apply Kd.R_drew)); exact HO399.out) hb); have n2_ := Aside0.mk (Kd.R_below (by (with_reducible repeat (first | apply Kd.R_alloc | apply Kd.R_drewN | apply Kd.R_drew)); exact HO404.out) hb); have n3_ := Aside0.mk (Kd.R_below (by (with_reducible repeat (first | apply Kd.R_alloc | apply Kd.R_drewN | apply Kd.R_drew)); exact HO410.out) hb); have n4_ := Aside0.mk (Kd.R_below (by (with_reducible repeat (first | apply Kd.R_alloc | apply Kd.R_drewN | apply Kd.R_drew)); exact HO413.out) hb); have n5_ := Aside0.mk (Kd.R_below (by (with_reducible repeat (first | apply Kd.R_alloc | apply Kd.R_drewN | apply Kd.R_drew)); exact HO416.out) hb); have n6_ := Aside0.mk (Kd.R_below (by (with_reducible repeat (first | apply Kd.R_alloc | apply Kd.R_drewN | apply Kd.R_drew)); exact HO421.out) hb); have n7_ := Aside0.mk (Kd.R_below (by (with_reducible repeat (first | apply Kd.R_alloc | apply Kd.R_drewN | apply Kd.R_drew)); exact HO424.out) hb); have n8_ := Aside0.mk (Kd.R_below (by (with_reducible repeat (first | apply Kd.R_alloc | apply Kd.R_drewN | apply Kd.R_drew)); exact HO428.out) hb); have n9_ := Aside0.mk (blk_below (g := gb401) (o := .cells #[.slice Ao13 t394.length co13, .slice Ao15 t397.length co15, .int .i64 t400] 46 (0, 0)) (by (with_reducible repeat (first | refine blk_drewN ?_ _ | refine blk_drew ?_ | refine blk_alloc ?_ _)); exact BK401.out) hb); have n10_ := Aside0.mk (blk_below (g := gb418) (o := .cells #[.slice Ao23 t411.length co23, .slice Ao26 t414.length co26, .int .i64 t417] 46 (0, 0)) (by (with_reducible repeat (first | refine blk_drewN ?_ _ | refine blk_drew ?_ | refine blk_alloc ?_ _)); exact BK418.out) hb); have n11_ := Aside0.mk (below_step (by repeat (first | (with_reducible first | exact HB.out | apply below_alloc | apply pw_below_drewN | apply below_drew1 | refine below_set ?_ GE401.out | refine below_set ?_ GE418.out) | exact HB.out)) hb); have n12_ := Aside0.mk (hbox); have n13_ := Aside0.mk ((by rw [hg]; exact (below_size (by repeat (first | (with_reducible first | exact HB.out | apply below_alloc | apply pw_below_drewN | apply below_drew1 | refine below_set ?_ GE401.out | refine below_set ?_ GE418.out) | exact HB.out))) : w.heap.size ≤ gb429)); have n14_ := Aside0.mk ((by rw [hg]; exact (below_size (by repeat (first | (with_reducible first | exact HB.out | apply below_alloc | apply pw_below_drewN | apply below_drew1 | refine below_set ?_ GE401.out | refine below_set ?_ GE418.out) | exact HB.out))) : w.heap.size ≤ gb429)); have n15_ := Aside0.mk ((by rw [hg]; exact Nat.ne_of_lt (blk_lt (g := gb401) (o := .cells #[.slice Ao13 t394.length co13, .slice Ao15 t397.length co15, .int .i64 t400] 46 (0, 0)) (by (with_reducible repeat (first | refine blk_drewN ?_ _ | refine blk_drew ?_ | refine blk_alloc ?_ _)); exact BK401.out)) : gb401 ≠ gb429)); have n16_ := Aside0.mk ((by rw [hg]; exact Nat.ne_of_gt (blk_lt (g := gb401) (o := .cells #[.slice Ao13 t394.length co13, .slice Ao15 t397.length co15, .int .i64 t400] 46 (0, 0)) (by (with_reducible repeat (first | refine blk_drewN ?_ _ | refine blk_drew ?_ | refine blk_alloc ?_ _)); exact BK401.out)) : gb429 ≠ gb401)); have n17_ := Aside0.mk ((by rw [hg]; exact Nat.ne_of_lt (blk_lt (g := gb418) (o := .cells #[.slice Ao23 t411.length co23, .slice Ao26 t414.length co26, .int .i64 t417] 46 (0, 0)) (by (with_reducible repeat (first | refine blk_drewN ?_ _ | refine blk_drew ?_ | refine blk_alloc ?_ _)); exact BK418.out)) : gb418 ≠ gb429)); have n18_ := Aside0.mk ((by rw [hg]; exact Nat.ne_of_gt (blk_lt (g := gb418) (o := .cells #[.slice Ao23 t411.length co23, .slice Ao26 t414.length co26, .int .i64 t417] 46 (0, 0)) (by (with_reducible repeat (first | refine blk_drewN ?_ _ | refine blk_drew ?_ | refine blk_alloc ?_ _)); exact BK418.out)) : gb429 ≠ gb418)); clear HO396; clear HO399; clear HO404; clear HO410; clear HO413; clear HO416; clear HO421; clear HO424; clear HO428; clear BK401; clear BK418; clear HB; have HO396 := n0_; have HO399 := n1_; have HO404 := n2_; have HO410 := n3_; have HO413 := n4_; have HO416 := n5_; have HO421 := n6_; have HO424 := n7_; have HO428 := n8_; have BK401 := n9_; have BK418 := n10_; have HB := n11_; have BK429 := n12_; have GW429 := n13_; have GE429 := n14_; have NB401_429 := n15_; have NB429_401 := n16_; have NB418_429 := n17_; have NB429_418 := n18_; clear n0_ n1_ n2_ n3_ n4_ n5_ n6_ n7_ n8_ n9_ n10_ n11_ n12_ n13_ n14_ n15_ n16_ n17_ n18_; clear hb hbox hg; obtain ⟨Ao30, co30, eo30⟩ := Kd.R_slice HO421.out; subst eo30; have hnb31 := NB429_401.out; have hnc31 := NB401_429.out; have hnb32 := NB429_418.out; have hnc32 := NB418_429.out; have hcz33_0 : w29.cell? ⟨gb429, 0, none⟩ = some (.slice none 0 0) := (blk_cell BK429.out 0).trans rfl; have hcz33_1 : w29.cell? ⟨gb429, 1, none⟩ = some (.slice none 0 0) := (blk_cell BK429.out 1).trans rfl; have hcz33_2 : w29.cell? ⟨gb429, 2, none⟩ = some (.int .i64 0) := (blk_cell BK429.out 2).trans rfl; have hfz33_0 := blk_frozen BK429.out 0; have hfz33_1 := blk_frozen BK429.out 1; have hfz33_2 := blk_frozen BK429.out 2; obtain ⟨Ao34, co34, eo34⟩ := Kd.R_slice HO424.out; subst eo34; have hcz35_0 : w29.cell? ⟨gb418, 0, none⟩ = some (.slice Ao23 t411.length co23) := (blk_cell BK418.out 0).trans rfl; have hcz35_1 : w29.cell? ⟨gb418, 1, none⟩ = some (.slice Ao26 t414.length co26) := (blk_cell BK418.out 1).trans rfl; have hcz35_2 : w29.cell? ⟨gb418, 2, none⟩ = some (.int .i64 t417) := (blk_cell BK418.out 2).trans rfl; have hfz35_0 := blk_frozen BK418.out 0; have hfz35_1 := blk_frozen BK418.out 1; have hfz35_2 := blk_frozen BK418.out 2) | ((with_reducible refine gate_callee (f := 26) rfl ?_); refine goesL_ (some 43) rfl rfl Try.func26 (by kernel_rfl) rfl #[.agg #[.slice Ao23 t411.length co23, .slice Ao26 t414.length co26, .int .i64 t417]] rfl (by (try simp only [List.map_toArray, List.map_cons, List.map_nil]); first | done | rfl | (simp only [List.length_drop, List.length_take]; rfl)) ?_; (with_reducible refine (impl_SaidAgain.calls k _ _ t411 _ _ t414 t417 t430 t433 t436 t437 _ ?side1 ?side2 ?side3 ?side4 A10.out).mono ?_); (case side1 => refine (Kd.R_reads' (e := 3) (base := w.heap.size) (ok := fun k_ => True) (n := t411.length) (c := co23) ?_).2.2; exact (by (with_reducible repeat (first | apply Kd.R_alloc | apply Kd.R_drewN | apply Kd.R_drew)); exact (Kd.R_mono (Kd.R_far (p := ⟨gb429, 2, none⟩) (Kd.R_far (p := ⟨gb429, 1, none⟩) (Kd.R_far (p := ⟨gb429, 0, none⟩) (Kd.R_types HO413.out BK429.out (by decide)) (fun _ hk => hk.2) (.slice Ao30 t419.length co30)) (fun _ hk => hk.2) (.slice Ao34 t422.length co34)) (fun _ hk => hk.2) (.int .i64 t425)) (fun _ h_ => h_.1)))); (case side2 => exact (Kd.R_reads' HO413.out).2.1); (case side3 => refine (Kd.R_reads' (e := 3) (base := w.heap.size) (ok := fun k_ => True) (n := t414.length) (c := co26) ?_).2.2; exact (by (with_reducible repeat (first | apply Kd.R_alloc | apply Kd.R_drewN | apply Kd.R_drew)); exact (Kd.R_mono (Kd.R_far (p := ⟨gb429, 2, none⟩) (Kd.R_far (p := ⟨gb429, 1, none⟩) (Kd.R_far (p := ⟨gb429, 0, none⟩) (Kd.R_types HO416.out BK429.out (by decide)) (fun _ hk => hk.2) (.slice Ao30 t419.length co30)) (fun _ hk => hk.2) (.slice Ao34 t422.length co34)) (fun _ hk => hk.2) (.int .i64 t425)) (fun _ h_ => h_.1)))); (case side4 => exact (Kd.R_reads' HO416.out).2.1); rintro e w36 ⟨v431, v434, v438, rfl, ho0, ho1, ho2, hb⟩; refine ⟨_, rfl, ?_⟩; have n0_ := Aside0.mk (Kd.R_below (by (with_reducible repeat (first | apply Kd.R_alloc | apply Kd.R_drewN | apply Kd.R_drew)); exact (Kd.R_mono (Kd.R_far (p := ⟨gb429, 2, none⟩) (Kd.R_far (p := ⟨gb429, 1, none⟩) (Kd.R_far (p := ⟨gb429, 0, none⟩) (Kd.R_types HO396.out BK429.out (by decide)) (fun _ hk => hk.2) (.slice Ao30 t419.length co30)) (fun _ hk => hk.2) (.slice Ao34 t422.length co34)) (fun _ hk => hk.2) (.int .i64 t425)) (fun _ h_ => h_.1))) hb); have n1_ := Aside0.mk (Kd.R_below (by (with_reducible repeat (first | apply Kd.R_alloc | apply Kd.R_drewN | apply Kd.R_drew)); exact (Kd.R_mono (Kd.R_far (p := ⟨gb429, 2, none⟩) (Kd.R_far (p := ⟨gb429, 1, none⟩) (Kd.R_far (p := ⟨gb429, 0, none⟩) (Kd.R_types HO399.out BK429.out (by decide)) (fun _ hk => hk.2) (.slice Ao30 t419.length co30)) (fun _ hk => hk.2) (.slice Ao34 t422.length co34)) (fun _ hk => hk.2) (.int .i64 t425)) (fun _ h_ => h_.1))) hb); have n2_ := Aside0.mk (Kd.R_below (by (with_reducible repeat (first | apply Kd.R_alloc | apply Kd.R_drewN | apply Kd.R_drew)); exact (Kd.R_mono (Kd.R_far (p := ⟨gb429, 2, none⟩) (Kd.R_far (p := ⟨gb429, 1, none⟩) (Kd.R_far (p := ⟨gb429, 0, none⟩) (Kd.R_types HO404.out BK429.out (by decide)) (fun _ hk => hk.2) (.slice Ao30 t419.length co30)) (fun _ hk => hk.2) (.slice Ao34 t422.length co34)) (fun _ hk => hk.2) (.int .i64 t425)) (fun _ h_ => h_.1))) hb); have n3_ := Aside0.mk (Kd.R_below (by (with_reducible repeat (first | apply Kd.R_alloc | apply Kd.R_drewN | apply Kd.R_drew)); exact (Kd.R_mono (Kd.R_far (p := ⟨gb429, 2, none⟩) (Kd.R_far (p := ⟨gb429, 1, none⟩) (Kd.R_far (p := ⟨gb429, 0, none⟩) (Kd.R_types HO410.out BK429.out (by decide)) (fun _ hk => hk.2) (.slice Ao30 t419.length co30)) (fun _ hk => hk.2) (.slice Ao34 t422.length co34)) (fun _ hk => hk.2) (.int .i64 t425)) (fun _ h_ => h_.1))) hb); have n4_ := Aside0.mk (Kd.R_below (by (with_reducible repeat (first | apply Kd.R_alloc | apply Kd.R_drewN | apply Kd.R_drew)); exact (Kd.R_mono (Kd.R_far (p := ⟨gb429, 2, none⟩) (Kd.R_far (p := ⟨gb429, 1, none⟩) (Kd.R_far (p := ⟨gb429, 0, none⟩) (Kd.R_types HO413.out BK429.out (by decide)) (fun _ hk => hk.2) (.slice Ao30 t419.length co30)) (fun _ hk => hk.2) (.slice Ao34 t422.length co34)) (fun _ hk => hk.2) (.int .i64 t425)) (fun _ h_ => h_.1))) hb); have n5_ := Aside0.mk (Kd.R_below (by (with_reducible repeat (first | apply Kd.R_alloc | apply Kd.R_drewN | apply Kd.R_drew)); exact (Kd.R_mono (Kd.R_far (p := ⟨gb429, 2, none⟩) (Kd.R_far (p := ⟨gb429, 1, none⟩) (Kd.R_far (p := ⟨gb429, 0, none⟩) (Kd.R_types HO416.out BK429.out (by decide)) (fun _ hk => hk.2) (.slice Ao30 t419.length co30)) (fun _ hk => hk.2) (.slice Ao34 t422.length co34)) (fun _ hk => hk.2) (.int .i64 t425)) (fun _ h_ => h_.1))) hb); have n6_ := Aside0.mk (Kd.R_below (by (with_reducible repeat (first | apply Kd.R_alloc | apply Kd.R_drewN | apply Kd.R_drew)); exact (Kd.R_mono (Kd.R_far (p := ⟨gb429, 2, none⟩) (Kd.R_far (p := ⟨gb429, 1, none⟩) (Kd.R_far (p := ⟨gb429, 0, none⟩) (Kd.R_types HO421.out BK429.out (by decide)) (fun _ hk => hk.2) (.slice Ao30 t419.length co30)) (fun _ hk => hk.2) (.slice Ao34 t422.length co34)) (fun _ hk => hk.2) (.int .i64 t425)) (fun _ h_ => h_.1))) hb); have n7_ := Aside0.mk (Kd.R_below (by (with_reducible repeat (first | apply Kd.R_alloc | apply Kd.R_drewN | apply Kd.R_drew)); exact (Kd.R_mono (Kd.R_far (p := ⟨gb429, 2, none⟩) (Kd.R_far (p := ⟨gb429, 1, none⟩) (Kd.R_far (p := ⟨gb429, 0, none⟩) (Kd.R_types HO424.out BK429.out (by decide)) (fun _ hk => hk.2) (.slice Ao30 t419.length co30)) (fun _ hk => hk.2) (.slice Ao34 t422.length co34)) (fun _ hk => hk.2) (.int .i64 t425)) (fun _ h_ => h_.1))) hb); have n8_ := Aside0.mk (Kd.R_below (by (with_reducible repeat (first | apply Kd.R_alloc | apply Kd.R_drewN | apply Kd.R_drew)); exact (Kd.R_mono (Kd.R_far (p := ⟨gb429, 2, none⟩) (Kd.R_far (p := ⟨gb429, 1, none⟩) (Kd.R_far (p := ⟨gb429, 0, none⟩) (Kd.R_types HO428.out BK429.out (by decide)) (fun _ hk => hk.2) (.slice Ao30 t419.length co30)) (fun _ hk => hk.2) (.slice Ao34 t422.length co34)) (fun _ hk => hk.2) (.int .i64 t425)) (fun _ h_ => h_.1))) hb); have n9_ := Aside0.mk (Kd.R_lower (Kd.R_mono (ok' := fun _ => True) ho0 (fun _ _ => trivial)) (below_size (by repeat (first | (with_reducible first | exact HB.out | apply below_alloc | apply pw_below_drewN | apply below_drew1 | refine below_set ?_ GE401.out | refine below_set ?_ GE418.out | refine below_set ?_ GE429.out) | exact HB.out)))); have n10_ := Aside0.mk (Kd.R_lower (Kd.R_mono (ok' := fun _ => True) ho1 (fun _ _ => trivial)) (below_size (by repeat (first | (with_reducible first | exact HB.out | apply below_alloc | apply pw_below_drewN | apply below_drew1 | refine below_set ?_ GE401.out | refine below_set ?_ GE418.out | refine below_set ?_ GE429.out) | exact HB.out)))); have n11_ := Aside0.mk (Kd.R_lower (Kd.R_mono (ok' := fun _ => True) ho2 (fun _ _ => trivial)) (below_size (by repeat (first | (with_reducible first | exact HB.out | apply below_alloc | apply pw_below_drewN | apply below_drew1 | refine below_set ?_ GE401.out | refine below_set ?_ GE418.out | refine below_set ?_ GE429.out) | exact HB.out)))); have n12_ := Aside0.mk (blk_below (g := gb401) (o := .cells #[.slice Ao13 t394.length co13, .slice Ao15 t397.length co15, .int .i64 t400] 46 (0, 0)) (by (with_reducible repeat (first | refine blk_drewN ?_ _ | refine blk_drew ?_ | refine blk_alloc ?_ _)); refine blk_far ?_ NB401_429.out _; (with_reducible repeat (first | refine blk_drewN ?_ _ | refine blk_drew ?_ | refine blk_alloc ?_ _)); refine blk_far ?_ NB401_429.out _; (with_reducible repeat (first | refine blk_drewN ?_ _ | refine blk_drew ?_ | refine blk_alloc ?_ _)); refine blk_far ?_ NB401_429.out _; (with_reducible repeat (first | refine blk_drewN ?_ _ | refine blk_drew ?_ | refine blk_alloc ?_ _)); exact BK401.out) hb); have n13_ := Aside0.mk (blk_below (g := gb418) (o := .cells #[.slice Ao23 t411.length co23, .slice Ao26 t414.length co26, .int .i64 t417] 46 (0, 0)) (by (with_reducible repeat (first | refine blk_drewN ?_ _ | refine blk_drew ?_ | refine blk_alloc ?_ _)); refine blk_far ?_ NB418_429.out _; (with_reducible repeat (first | refine blk_drewN ?_ _ | refine blk_drew ?_ | refine blk_alloc ?_ _)); refine blk_far ?_ NB418_429.out _; (with_reducible repeat (first | refine blk_drewN ?_ _ | refine blk_drew ?_ | refine blk_alloc ?_ _)); refine blk_far ?_ NB418_429.out _; (with_reducible repeat (first | refine blk_drewN ?_ _ | refine blk_drew ?_ | refine blk_alloc ?_ _)); exact BK418.out) hb); have n14_ := Aside0.mk (blk_below (g := gb429) (o := .cells #[.slice Ao30 t419.length co30, .slice Ao34 t422.length co34, .int .i64 t425] 46 (0, 0)) (by (with_reducible repeat (first | refine blk_drewN ?_ _ | refine blk_drew ?_ | refine blk_alloc ?_ _)); refine blk_put (cs := #[.slice Ao30 t419.length co30, .slice Ao34 t422.length co34, .int .i64 0]) ?_ 2 _ rfl; (with_reducible repeat (first | refine blk_drewN ?_ _ | refine blk_drew ?_ | refine blk_alloc ?_ _)); refine blk_put (cs := #[.slice Ao30 t419.length co30, .slice none 0 0, .int .i64 0]) ?_ 1 _ rfl; (with_reducible repeat (first | refine blk_drewN ?_ _ | refine blk_drew ?_ | refine blk_alloc ?_ _)); refine blk_put (cs := #[.slice none 0 0, .slice none 0 0, .int .i64 0]) ?_ 0 _ rfl; (with_reducible repeat (first | refine blk_drewN ?_ _ | refine blk_drew ?_ | refine blk_alloc ?_ _)); exact BK429.out) hb); have n15_ := Aside0.mk (below_step (by repeat (first | (with_reducible first | exact HB.out | apply below_alloc | apply pw_below_drewN | apply below_drew1 | refine below_set ?_ GE401.out | refine below_set ?_ GE418.out | refine below_set ?_ GE429.out) | exact HB.out)) hb); clear HO396; clear HO399; clear HO404; clear HO410; clear HO413; clear HO416; clear HO421; clear HO424; clear HO428; clear BK401; clear BK418; clear BK429; clear HB; have HO396 := n0_; have HO399 := n1_; have HO404 := n2_; have HO410 := n3_; have HO413 := n4_; have HO416 := n5_; have HO421 := n6_; have HO424 := n7_; have HO428 := n8_; have HO432 := n9_; have HO435 := n10_; have HO439 := n11_; have BK401 := n12_; have BK418 := n13_; have BK429 := n14_; have HB := n15_; clear n0_ n1_ n2_ n3_ n4_ n5_ n6_ n7_ n8_ n9_ n10_ n11_ n12_ n13_ n14_ n15_; (try clear hb); (try clear hb2); (try clear hk); (try clear hi); (try clear ho0); (try clear ho1); (try clear ho2)) | ((with_reducible refine gate_dst (N := 12) rfl ?_); (try (refine gate_guard (by rfl) ?_; dsimp only)); refine box_event ?hg (N := 12) ?hd (cs := #[.slice none 0 0, .slice none 0 0, .int .i64 0]) (t := 46) ?hr ?_; (case hd => rfl); (case hg => rfl); (case hr => first | (go_simp; done) | (go_simp; rfl)); intro gb440 hg w37 hbox hb; have n0_ := Aside0.mk (Kd.R_below (by (with_reducible repeat (first | apply Kd.R_alloc | apply Kd.R_drewN | apply Kd.R_drew)); exact HO396.out) hb); have n1_ := Aside0.mk (Kd.R_below (by (with_reducible repeat (first | apply Kd.R_alloc | apply Kd.R_drewN | apply Kd.R_drew)); exact HO399.out) hb); have n2_ := Aside0.mk (Kd.R_below (by (with_reducible repeat (first | apply Kd.R_alloc | apply Kd.R_drewN | apply Kd.R_drew)); exact HO404.out) hb); have n3_ := Aside0.mk (Kd.R_below (by (with_reducible repeat (first | apply Kd.R_alloc | apply Kd.R_drewN | apply Kd.R_drew)); exact HO410.out) hb); have n4_ := Aside0.mk (Kd.R_below (by (with_reducible repeat (first | apply Kd.R_alloc | apply Kd.R_drewN | apply Kd.R_drew)); exact HO413.out) hb); have n5_ := Aside0.mk (Kd.R_below (by (with_reducible repeat (first | apply Kd.R_alloc | apply Kd.R_drewN | apply Kd.R_drew)); exact HO416.out) hb); have n6_ := Aside0.mk (Kd.R_below (by (with_reducible repeat (first | apply Kd.R_alloc | apply Kd.R_drewN | apply Kd.R_drew)); exact HO421.out) hb); have n7_ := Aside0.mk (Kd.R_below (by (with_reducible repeat (first | apply Kd.R_alloc | apply Kd.R_drewN | apply Kd.R_drew)); exact HO424.out) hb); have n8_ := Aside0.mk (Kd.R_below (by (with_reducible repeat (first | apply Kd.R_alloc | apply Kd.R_drewN | apply Kd.R_drew)); exact HO428.out) hb); have n9_ := Aside0.mk (Kd.R_below (by (with_reducible repeat (first | apply Kd.R_alloc | apply Kd.R_drewN | apply Kd.R_drew)); exact HO432.out) hb); have n10_ := Aside0.mk (Kd.R_below (by (with_reducible repeat (first | apply Kd.R_alloc | apply Kd.R_drewN | apply Kd.R_drew)); exact HO435.out) hb); have n11_ := Aside0.mk (Kd.R_below (by (with_reducible repeat (first | apply Kd.R_alloc | apply Kd.R_drewN | apply Kd.R_drew)); exact HO439.out) hb); have n12_ := Aside0.mk (blk_below (g := gb401) (o := .cells #[.slice Ao13 t394.length co13, .slice Ao15 t397.length co15, .int .i64 t400] 46 (0, 0)) (by (with_reducible repeat (first | refine blk_drewN ?_ _ | refine blk_drew ?_ | refine blk_alloc ?_ _)); exact BK401.out) hb); have n13_ := Aside0.mk (blk_below (g := gb418) (o := .cells #[.slice Ao23 t411.length co23, .slice Ao26 t414.length co26, .int .i64 t417] 46 (0, 0)) (by (with_reducible repeat (first | refine blk_drewN ?_ _ | refine blk_drew ?_ | refine blk_alloc ?_ _)); exact BK418.out) hb); have n14_ := Aside0.mk (blk_below (g := gb429) (o := .cells #[.slice Ao30 t419.length co30, .slice Ao34 t422.length co34, .int .i64 t425] 46 (0, 0)) (by (with_reducible repeat (first | refine blk_drewN ?_ _ | refine blk_drew ?_ | refine blk_alloc ?_ _)); exact BK429.out) hb); have n15_ := Aside0.mk (below_step (by repeat (first | (with_reducible first | exact HB.out | apply below_alloc | apply pw_below_drewN | apply below_drew1 | refine below_set ?_ GE401.out | refine below_set ?_ GE418.out | refine below_set ?_ GE429.out) | exact HB.out)) hb); have n16_ := Aside0.mk (hbox); have n17_ := Aside0.mk ((by rw [hg]; exact (below_size (by repeat (first | (with_reducible first | exact HB.out | apply below_alloc | apply pw_below_drewN | apply below_drew1 | refine below_set ?_ GE401.out | refine below_set ?_ GE418.out | refine below_set ?_ GE429.out) | exact HB.out))) : w.heap.size ≤ gb440)); have n18_ := Aside0.mk ((by rw [hg]; exact (below_size (by repeat (first | (with_reducible first | exact HB.out | apply below_alloc | apply pw_below_drewN | apply below_drew1 | refine below_set ?_ GE401.out | refine below_set ?_ GE418.out | refine below_set ?_ GE429.out) | exact HB.out))) : w.heap.size ≤ gb440)); have n19_ := Aside0.mk ((by rw [hg]; exact Nat.ne_of_lt (blk_lt (g := gb401) (o := .cells #[.slice Ao13 t394.length co13, .slice Ao15 t397.length co15, .int .i64 t400] 46 (0, 0)) (by (with_reducible repeat (first | refine blk_drewN ?_ _ | refine blk_drew ?_ | refine blk_alloc ?_ _)); exact BK401.out)) : gb401 ≠ gb440)); have n20_ := Aside0.mk ((by rw [hg]; exact Nat.ne_of_gt (blk_lt (g := gb401) (o := .cells #[.slice Ao13 t394.length co13, .slice Ao15 t397.length co15, .int .i64 t400] 46 (0, 0)) (by (with_reducible repeat (first | refine blk_drewN ?_ _ | refine blk_drew ?_ | refine blk_alloc ?_ _)); exact BK401.out)) : gb440 ≠ gb401)); have n21_ := Aside0.mk ((by rw [hg]; exact Nat.ne_of_lt (blk_lt (g := gb418) (o := .cells #[.slice Ao23 t411.length co23, .slice Ao26 t414.length co26, .int .i64 t417] 46 (0, 0)) (by (with_reducible repeat (first | refine blk_drewN ?_ _ | refine blk_drew ?_ | refine blk_alloc ?_ _)); exact BK418.out)) : gb418 ≠ gb440)); have n22_ := Aside0.mk ((by rw [hg]; exact Nat.ne_of_gt (blk_lt (g := gb418) (o := .cells #[.slice Ao23 t411.length co23, .slice Ao26 t414.length co26, .int .i64 t417] 46 (0, 0)) (by (with_reducible repeat (first | refine blk_drewN ?_ _ | refine blk_drew ?_ | refine blk_alloc ?_ _)); exact BK418.out)) : gb440 ≠ gb418)); have n23_ := Aside0.mk ((by rw [hg]; exact Nat.ne_of_lt (blk_lt (g := gb429) (o := .cells #[.slice Ao30 t419.length co30, .slice Ao34 t422.length co34, .int .i64 t425] 46 (0, 0)) (by (with_reducible repeat (first | refine blk_drewN ?_ _ | refine blk_drew ?_ | refine blk_alloc ?_ _)); exact BK429.out)) : gb429 ≠ gb440)); have n24_ := Aside0.mk ((by rw [hg]; exact Nat.ne_of_gt (blk_lt (g := gb429) (o := .cells #[.slice Ao30 t419.length co30, .slice Ao34 t422.length co34, .int .i64 t425] 46 (0, 0)) (by (with_reducible repeat (first | refine blk_drewN ?_ _ | refine blk_drew ?_ | refine blk_alloc ?_ _)); exact BK429.out)) : gb440 ≠ gb429)); clear HO396; clear HO399; clear HO404; clear HO410; clear HO413; clear HO416; clear HO421; clear HO424; clear HO428; clear HO432; clear HO435; clear HO439; clear BK401; clear BK418; clear BK429; clear HB; have HO396 := n0_; have HO399 := n1_; have HO404 := n2_; have HO410 := n3_; have HO413 := n4_; have HO416 := n5_; have HO421 := n6_; have HO424 := n7_; have HO428 := n8_; have HO432 := n9_; have HO435 := n10_; have HO439 := n11_; have BK401 := n12_; have BK418 := n13_; have BK429 := n14_; have HB := n15_; have BK440 := n16_; have GW440 := n17_; have GE440 := n18_; have NB401_440 := n19_; have NB440_401 := n20_; have NB418_440 := n21_; have NB440_418 := n22_; have NB429_440 := n23_; have NB440_429 := n24_; clear n0_ n1_ n2_ n3_ n4_ n5_ n6_ n7_ n8_ n9_ n10_ n11_ n12_ n13_ n14_ n15_ n16_ n17_ n18_ n19_ n20_ n21_ n22_ n23_ n24_; clear hb hbox hg; obtain ⟨Ao38, co38, eo38⟩ := Kd.R_slice HO432.out; subst eo38; have hnb39 := NB440_401.out; have hnc39 := NB401_440.out; have hnb40 := NB440_418.out; have hnc40 := NB418_440.out; have hnb41 := NB440_429.out; have hnc41 := NB429_440.out; have hcz42_0 : w37.cell? ⟨gb440, 0, none⟩ = some (.slice none 0 0) := (blk_cell BK440.out 0).trans rfl; have hcz42_1 : w37.cell? ⟨gb440, 1, none⟩ = some (.slice none 0 0) := (blk_cell BK440.out 1).trans rfl; have hcz42_2 : w37.cell? ⟨gb440, 2, none⟩ = some (.int .i64 0) := (blk_cell BK440.out 2).trans rfl; have hfz42_0 := blk_frozen BK440.out 0; have hfz42_1 := blk_frozen BK440.out 1; have hfz42_2 := blk_frozen BK440.out 2; obtain ⟨Ao43, co43, eo43⟩ := Kd.R_slice HO435.out; subst eo43))
  go_loopg [14] k (fun kq v14 w' => ∃ (x14_1 : Int), v14 = .int .i64 x14_1 ∧ Aside0 (laws_FnAcks.l0 kq l0 t402 t406 t407 t408 t426 t437 x14_1 t394 t397 t400 t411 t414 t417 t419 t422 t425 t430 t433 t436 = some r) ∧ Aside0 (kq ≤ k) ∧ Aside0 (Kd.R (Kd.int .i64) 3 w' w.heap.size (fun _ => True) (.slice Ao17 t402.length co17) t402) ∧ Aside0 (Kd.R (Kd.int .i64) 3 w' w.heap.size (fun _ => True) v409 t407) ∧ Aside0 (Kd.R (Kd.int .i64) 3 w' w.heap.size (fun _ => True) v427 t426) ∧ Aside0 (Kd.R (Kd.int .i64) 3 w' w.heap.size (fun _ => True) v438 t437) ∧ Aside0 (Kd.R (Kd.int .i64) 3 w' w.heap.size (fun _ => True) (.slice Ao13 t394.length co13) t394) ∧ Aside0 (Kd.R (Kd.int .i64) 3 w' w.heap.size (fun _ => True) (.slice Ao15 t397.length co15) t397) ∧ Aside0 (Kd.R (Kd.int .i64) 3 w' w.heap.size (fun _ => True) (.slice Ao23 t411.length co23) t411) ∧ Aside0 (Kd.R (Kd.int .i64) 3 w' w.heap.size (fun _ => True) (.slice Ao26 t414.length co26) t414) ∧ Aside0 (Kd.R (Kd.int .i64) 3 w' w.heap.size (fun _ => True) (.slice Ao30 t419.length co30) t419) ∧ Aside0 (Kd.R (Kd.int .i64) 3 w' w.heap.size (fun _ => True) (.slice Ao34 t422.length co34) t422) ∧ Aside0 (Kd.R (Kd.int .i64) 3 w' w.heap.size (fun _ => True) (.slice Ao38 t430.length co38) t430) ∧ Aside0 (Kd.R (Kd.int .i64) 3 w' w.heap.size (fun _ => True) (.slice Ao43 t433.length co43) t433) ∧ Aside0 (w'.heap[gb401]? = some (.cells #[(.slice Ao13 t394.length co13), (.slice Ao15 t397.length co15), .int .i64 t400] 46 (0, 0))) ∧ Aside0 (w'.heap[gb418]? = some (.cells #[(.slice Ao23 t411.length co23), (.slice Ao26 t414.length co26), .int .i64 t417] 46 (0, 0))) ∧ Aside0 (w'.heap[gb429]? = some (.cells #[(.slice Ao30 t419.length co30), (.slice Ao34 t422.length co34), .int .i64 t425] 46 (0, 0))) ∧ Aside0 (w'.heap[gb440]? = some (.cells #[(.slice Ao38 t430.length co38), (.slice Ao43 t433.length co43), .int .i64 t436] 46 (0, 0))) ∧ Aside0 (Below w.heap.size w w'))
  case atStart => exact ⟨(0), (by first | rfl | (simp; done) | (simp [*]; done)), H', ⟨Nat.le_refl _⟩, ⟨by (with_reducible repeat (first | apply Kd.R_alloc | apply Kd.R_drewN | apply Kd.R_drew)); exact Kd.R_mono (Kd.R_far (p := ⟨gb440, 2, none⟩) (Kd.R_far (p := ⟨gb440, 1, none⟩) (Kd.R_far (p := ⟨gb440, 0, none⟩) (Kd.R_types HO404.out BK440.out (by decide)) (fun _ hk => hk.2) (.slice Ao38 t430.length co38)) (fun _ hk => hk.2) (.slice Ao43 t433.length co43)) (fun _ hk => hk.2) (.int .i64 t436)) (fun _ hk => trivial)⟩, ⟨by (with_reducible repeat (first | apply Kd.R_alloc | apply Kd.R_drewN | apply Kd.R_drew)); exact Kd.R_mono (Kd.R_far (p := ⟨gb440, 2, none⟩) (Kd.R_far (p := ⟨gb440, 1, none⟩) (Kd.R_far (p := ⟨gb440, 0, none⟩) (Kd.R_types HO410.out BK440.out (by decide)) (fun _ hk => hk.2) (.slice Ao38 t430.length co38)) (fun _ hk => hk.2) (.slice Ao43 t433.length co43)) (fun _ hk => hk.2) (.int .i64 t436)) (fun _ hk => trivial)⟩, ⟨by (with_reducible repeat (first | apply Kd.R_alloc | apply Kd.R_drewN | apply Kd.R_drew)); exact Kd.R_mono (Kd.R_far (p := ⟨gb440, 2, none⟩) (Kd.R_far (p := ⟨gb440, 1, none⟩) (Kd.R_far (p := ⟨gb440, 0, none⟩) (Kd.R_types HO428.out BK440.out (by decide)) (fun _ hk => hk.2) (.slice Ao38 t430.length co38)) (fun _ hk => hk.2) (.slice Ao43 t433.length co43)) (fun _ hk => hk.2) (.int .i64 t436)) (fun _ hk => trivial)⟩, ⟨by (with_reducible repeat (first | apply Kd.R_alloc | apply Kd.R_drewN | apply Kd.R_drew)); exact Kd.R_mono (Kd.R_far (p := ⟨gb440, 2, none⟩) (Kd.R_far (p := ⟨gb440, 1, none⟩) (Kd.R_far (p := ⟨gb440, 0, none⟩) (Kd.R_types HO439.out BK440.out (by decide)) (fun _ hk => hk.2) (.slice Ao38 t430.length co38)) (fun _ hk => hk.2) (.slice Ao43 t433.length co43)) (fun _ hk => hk.2) (.int .i64 t436)) (fun _ hk => trivial)⟩, ⟨by (with_reducible repeat (first | apply Kd.R_alloc | apply Kd.R_drewN | apply Kd.R_drew)); exact Kd.R_mono (Kd.R_far (p := ⟨gb440, 2, none⟩) (Kd.R_far (p := ⟨gb440, 1, none⟩) (Kd.R_far (p := ⟨gb440, 0, none⟩) (Kd.R_types HO396.out BK440.out (by decide)) (fun _ hk => hk.2) (.slice Ao38 t430.length co38)) (fun _ hk => hk.2) (.slice Ao43 t433.length co43)) (fun _ hk => hk.2) (.int .i64 t436)) (fun _ hk => trivial)⟩, ⟨by (with_reducible repeat (first | apply Kd.R_alloc | apply Kd.R_drewN | apply Kd.R_drew)); exact Kd.R_mono (Kd.R_far (p := ⟨gb440, 2, none⟩) (Kd.R_far (p := ⟨gb440, 1, none⟩) (Kd.R_far (p := ⟨gb440, 0, none⟩) (Kd.R_types HO399.out BK440.out (by decide)) (fun _ hk => hk.2) (.slice Ao38 t430.length co38)) (fun _ hk => hk.2) (.slice Ao43 t433.length co43)) (fun _ hk => hk.2) (.int .i64 t436)) (fun _ hk => trivial)⟩, ⟨by (with_reducible repeat (first | apply Kd.R_alloc | apply Kd.R_drewN | apply Kd.R_drew)); exact Kd.R_mono (Kd.R_far (p := ⟨gb440, 2, none⟩) (Kd.R_far (p := ⟨gb440, 1, none⟩) (Kd.R_far (p := ⟨gb440, 0, none⟩) (Kd.R_types HO413.out BK440.out (by decide)) (fun _ hk => hk.2) (.slice Ao38 t430.length co38)) (fun _ hk => hk.2) (.slice Ao43 t433.length co43)) (fun _ hk => hk.2) (.int .i64 t436)) (fun _ hk => trivial)⟩, ⟨by (with_reducible repeat (first | apply Kd.R_alloc | apply Kd.R_drewN | apply Kd.R_drew)); exact Kd.R_mono (Kd.R_far (p := ⟨gb440, 2, none⟩) (Kd.R_far (p := ⟨gb440, 1, none⟩) (Kd.R_far (p := ⟨gb440, 0, none⟩) (Kd.R_types HO416.out BK440.out (by decide)) (fun _ hk => hk.2) (.slice Ao38 t430.length co38)) (fun _ hk => hk.2) (.slice Ao43 t433.length co43)) (fun _ hk => hk.2) (.int .i64 t436)) (fun _ hk => trivial)⟩, ⟨by (with_reducible repeat (first | apply Kd.R_alloc | apply Kd.R_drewN | apply Kd.R_drew)); exact Kd.R_mono (Kd.R_far (p := ⟨gb440, 2, none⟩) (Kd.R_far (p := ⟨gb440, 1, none⟩) (Kd.R_far (p := ⟨gb440, 0, none⟩) (Kd.R_types HO421.out BK440.out (by decide)) (fun _ hk => hk.2) (.slice Ao38 t430.length co38)) (fun _ hk => hk.2) (.slice Ao43 t433.length co43)) (fun _ hk => hk.2) (.int .i64 t436)) (fun _ hk => trivial)⟩, ⟨by (with_reducible repeat (first | apply Kd.R_alloc | apply Kd.R_drewN | apply Kd.R_drew)); exact Kd.R_mono (Kd.R_far (p := ⟨gb440, 2, none⟩) (Kd.R_far (p := ⟨gb440, 1, none⟩) (Kd.R_far (p := ⟨gb440, 0, none⟩) (Kd.R_types HO424.out BK440.out (by decide)) (fun _ hk => hk.2) (.slice Ao38 t430.length co38)) (fun _ hk => hk.2) (.slice Ao43 t433.length co43)) (fun _ hk => hk.2) (.int .i64 t436)) (fun _ hk => trivial)⟩, ⟨by (with_reducible repeat (first | apply Kd.R_alloc | apply Kd.R_drewN | apply Kd.R_drew)); exact Kd.R_mono (Kd.R_far (p := ⟨gb440, 2, none⟩) (Kd.R_far (p := ⟨gb440, 1, none⟩) (Kd.R_far (p := ⟨gb440, 0, none⟩) (Kd.R_types HO432.out BK440.out (by decide)) (fun _ hk => hk.2) (.slice Ao38 t430.length co38)) (fun _ hk => hk.2) (.slice Ao43 t433.length co43)) (fun _ hk => hk.2) (.int .i64 t436)) (fun _ hk => trivial)⟩, ⟨by (with_reducible repeat (first | apply Kd.R_alloc | apply Kd.R_drewN | apply Kd.R_drew)); exact Kd.R_mono (Kd.R_far (p := ⟨gb440, 2, none⟩) (Kd.R_far (p := ⟨gb440, 1, none⟩) (Kd.R_far (p := ⟨gb440, 0, none⟩) (Kd.R_types HO435.out BK440.out (by decide)) (fun _ hk => hk.2) (.slice Ao38 t430.length co38)) (fun _ hk => hk.2) (.slice Ao43 t433.length co43)) (fun _ hk => hk.2) (.int .i64 t436)) (fun _ hk => trivial)⟩, ⟨by (with_reducible repeat (first | refine blk_drewN ?_ _ | refine blk_drew ?_ | refine blk_alloc ?_ _)); refine blk_far ?_ NB401_440.out _; (with_reducible repeat (first | refine blk_drewN ?_ _ | refine blk_drew ?_ | refine blk_alloc ?_ _)); refine blk_far ?_ NB401_440.out _; (with_reducible repeat (first | refine blk_drewN ?_ _ | refine blk_drew ?_ | refine blk_alloc ?_ _)); refine blk_far ?_ NB401_440.out _; (with_reducible repeat (first | refine blk_drewN ?_ _ | refine blk_drew ?_ | refine blk_alloc ?_ _)); exact BK401.out⟩, ⟨by (with_reducible repeat (first | refine blk_drewN ?_ _ | refine blk_drew ?_ | refine blk_alloc ?_ _)); refine blk_far ?_ NB418_440.out _; (with_reducible repeat (first | refine blk_drewN ?_ _ | refine blk_drew ?_ | refine blk_alloc ?_ _)); refine blk_far ?_ NB418_440.out _; (with_reducible repeat (first | refine blk_drewN ?_ _ | refine blk_drew ?_ | refine blk_alloc ?_ _)); refine blk_far ?_ NB418_440.out _; (with_reducible repeat (first | refine blk_drewN ?_ _ | refine blk_drew ?_ | refine blk_alloc ?_ _)); exact BK418.out⟩, ⟨by (with_reducible repeat (first | refine blk_drewN ?_ _ | refine blk_drew ?_ | refine blk_alloc ?_ _)); refine blk_far ?_ NB429_440.out _; (with_reducible repeat (first | refine blk_drewN ?_ _ | refine blk_drew ?_ | refine blk_alloc ?_ _)); refine blk_far ?_ NB429_440.out _; (with_reducible repeat (first | refine blk_drewN ?_ _ | refine blk_drew ?_ | refine blk_alloc ?_ _)); refine blk_far ?_ NB429_440.out _; (with_reducible repeat (first | refine blk_drewN ?_ _ | refine blk_drew ?_ | refine blk_alloc ?_ _)); exact BK429.out⟩, ⟨by (with_reducible repeat (first | refine blk_drewN ?_ _ | refine blk_drew ?_ | refine blk_alloc ?_ _)); refine blk_put (cs := #[.slice Ao38 t430.length co38, .slice Ao43 t433.length co43, .int .i64 0]) ?_ 2 _ rfl; (with_reducible repeat (first | refine blk_drewN ?_ _ | refine blk_drew ?_ | refine blk_alloc ?_ _)); refine blk_put (cs := #[.slice Ao38 t430.length co38, .slice none 0 0, .int .i64 0]) ?_ 1 _ rfl; (with_reducible repeat (first | refine blk_drewN ?_ _ | refine blk_drew ?_ | refine blk_alloc ?_ _)); refine blk_put (cs := #[.slice none 0 0, .slice none 0 0, .int .i64 0]) ?_ 0 _ rfl; (with_reducible repeat (first | refine blk_drewN ?_ _ | refine blk_drew ?_ | refine blk_alloc ?_ _)); exact BK440.out⟩, ⟨by repeat (first | (with_reducible first | exact HB.out | apply below_alloc | apply pw_below_drewN | apply below_drew1 | refine below_set ?_ GE401.out | refine below_set ?_ GE418.out | refine below_set ?_ GE429.out | refine below_set ?_ GE440.out) | exact HB.out)⟩⟩
  case round =>
   clear H'
   try clear c1
   try clear c2
   try clear p2
   try clear c3
   try clear c4
   try clear c11
   try clear c21
   try clear c22
   try clear c23
   try clear c24
   try clear c25
   try clear c26
   try clear c31
   try clear c32
   try clear c39
   try clear c40
   try clear c41
   try clear hcz14_0
   try clear hcz14_1
   try clear hcz14_2
   try clear hcz20_0
   try clear hcz20_1
   try clear hcz20_2
   try clear hcz25_0
   try clear hcz25_1
   try clear hcz25_2
   try clear hcz27_0
   try clear hcz27_1
   try clear hcz27_2
   try clear hcz33_0
   try clear hcz33_1
   try clear hcz33_2
   try clear hcz35_0
   try clear hcz35_1
   try clear hcz35_2
   try clear hcz42_0
   try clear hcz42_1
   try clear hcz42_2
   try clear hfz14_0
   try clear hfz14_1
   try clear hfz14_2
   try clear hfz20_0
   try clear hfz20_1
   try clear hfz20_2
   try clear hfz25_0
   try clear hfz25_1
   try clear hfz25_2
   try clear hfz27_0
   try clear hfz27_1
   try clear hfz27_2
   try clear hfz33_0
   try clear hfz33_1
   try clear hfz33_2
   try clear hfz35_0
   try clear hfz35_1
   try clear hfz35_2
   try clear hfz42_0
   try clear hfz42_1
   try clear hfz42_2
   obtain ⟨x14_1, rfl, HA, HK1, HO_4, HO_7, HO_11, HO_13, HO_402000, HO_402001, HO_419000, HO_419001, HO_430000, HO_430001, HO_441000, HO_441001, BK401, BK418, BK429, BK440, HB⟩ := hrel
   cases gk with
   | zero => exact absurd HA.out (by simp [laws_FnAcks.l0])
   | succ k1 =>
    have H := HA.out
    clear HA
    simp only [laws_FnAcks.l0] at H
    by_cases c44 : x14_1 < (t426.length : Int)
    ·
     rw [if_pos c44] at H
     have c44b0 : decide (x14_1 < (t426.length : Int)) = true := decide_eq_true c44
     clear c44
     by_cases c45 : x14_1 ≥ (t402.length : Int)
     ·
      rw [if_pos c45] at H
      exact absurd H (by simp)
     ·
      rw [if_neg c45] at H
      have c45b0 : decide ((t402.length : Int) ≤ x14_1) = false := decide_eq_false c45
      clear c45
      by_cases c46 : 0 ≤ x14_1
      ·
       rw [if_pos c46] at H
       have c46b0 : decide (0 ≤ x14_1) = true := decide_eq_true c46
       clear c46
       by_cases c47 : x14_1 < (t402.length : Int)
       ·
        rw [if_pos c47] at H
        have c47b0 : decide (x14_1 < (t402.length : Int)) = true := decide_eq_true c47
        clear c47
        by_cases c48 : (rd t426 x14_1) = (rd t402 x14_1)
        ·
         rw [if_pos c48] at H
         have c48b0 : ((rd t426 x14_1) == (rd t402 x14_1)) = true := beq_iff_eq.mpr c48
         have c48b1 : ((rd t426 x14_1) != (rd t402 x14_1)) = false := bne_eq_false_iff_eq.mpr c48
         clear c48
         have H' := Aside0.mk H
         clear H
         obtain ⟨Ao49, co49, eo49⟩ := Kd.R_slice HO_11.out
         subst eo49
         try go_wp2
         have n0_ := Aside0.mk (Kd.R_drew HO_4.out)
         have n1_ := Aside0.mk (Kd.R_drew HO_7.out)
         have n2_ := Aside0.mk (Kd.R_drew HO_11.out)
         have n3_ := Aside0.mk (Kd.R_drew HO_13.out)
         have n4_ := Aside0.mk (Kd.R_drew HO_402000.out)
         have n5_ := Aside0.mk (Kd.R_drew HO_402001.out)
         have n6_ := Aside0.mk (Kd.R_drew HO_419000.out)
         have n7_ := Aside0.mk (Kd.R_drew HO_419001.out)
         have n8_ := Aside0.mk (Kd.R_drew HO_430000.out)
         have n9_ := Aside0.mk (Kd.R_drew HO_430001.out)
         have n10_ := Aside0.mk (Kd.R_drew HO_441000.out)
         have n11_ := Aside0.mk (Kd.R_drew HO_441001.out)
         have n12_ := Aside0.mk (blk_drew BK401.out)
         have n13_ := Aside0.mk (blk_drew BK418.out)
         have n14_ := Aside0.mk (blk_drew BK429.out)
         have n15_ := Aside0.mk (blk_drew BK440.out)
         have n16_ := Aside0.mk (below_drew1 HB.out)
         clear HO_4
         clear HO_7
         clear HO_11
         clear HO_13
         clear HO_402000
         clear HO_402001
         clear HO_419000
         clear HO_419001
         clear HO_430000
         clear HO_430001
         clear HO_441000
         clear HO_441001
         clear BK401
         clear BK418
         clear BK429
         clear BK440
         clear HB
         have HO_4 := n0_
         have HO_7 := n1_
         have HO_11 := n2_
         have HO_13 := n3_
         have HO_402000 := n4_
         have HO_402001 := n5_
         have HO_419000 := n6_
         have HO_419001 := n7_
         have HO_430000 := n8_
         have HO_430001 := n9_
         have HO_441000 := n10_
         have HO_441001 := n11_
         have BK401 := n12_
         have BK418 := n13_
         have BK429 := n14_
         have BK440 := n15_
         have HB := n16_
         clear n0_ n1_ n2_ n3_ n4_ n5_ n6_ n7_ n8_ n9_ n10_ n11_ n12_ n13_ n14_ n15_ n16_
         have p441 : 0 ≤ (x14_1 : Int) := of_decide_eq_true (by first | (with_reducible assumption) | assumption)
         have q441 : x14_1 < (t426.length : Int) := of_decide_eq_true (by first | (with_reducible assumption) | assumption)
         obtain ⟨ad441, e441, hx441_0⟩ := Kd.at_int (Kd.R_reads' HO_11.out).2.2 x14_1 p441 q441
         cases e441
         replace p441 := eq_true p441
         replace q441 := eq_true q441
         have p442 : 0 ≤ (x14_1 : Int) := of_decide_eq_true (by first | (with_reducible assumption) | assumption)
         have q442 : x14_1 < (t402.length : Int) := of_decide_eq_true (by first | (with_reducible assumption) | assumption)
         obtain ⟨ad442, e442, hx442_0⟩ := Kd.at_int (Kd.R_reads' HO_4.out).2.2 x14_1 p442 q442
         cases e442
         replace p442 := eq_true p442
         replace q442 := eq_true q442
         refine start_ (n := 15) (S := fun w' => w'.cell? (ad441.add (x14_1).toNat) = some (.int .i64 (rd t426 x14_1)) ∧ w'.cell? (ad442.add (x14_1).toNat) = some (.int .i64 (rd t402 x14_1))) (ds := []) #[false, false, false, false, false, false, false, false, false, false, false, false, false, false, false] (by kernel_rfl) rfl rfl ⟨hx441_0, hx442_0⟩ (fun hHeld => ?_); refine with_tabW laws_FnAcks.tab13 laws_FnAcks.bits13 (fun HT_ HW_ => ?_)
         generalize wr.drew = w50 at HO_4 HO_7 HO_11 HO_13 HO_402000 HO_402001 HO_419000 HO_419001 HO_430000 HO_430001 HO_441000 HO_441001 BK401 BK418 BK429 BK440 HB hx441_0 hx442_0 hHeld ⊢
         refine pure_ (i := 0) (N := some 52) (v := ?_) (a' := ?_) #[true, false, false, false, false, false, false, false, false, false, false, false, false, false, false] rfl rfl (any_of HT_.out (by kernel_rfl)) (fun _ _ _ h => h) (Or.inl ⟨by rfl, ?_⟩) ?_ ?_
         rotate_left
         ·
          intro w'
          go_simp
          with_reducible rfl
         rotate_left
         ·
          simp only [Act.put, List.setIfInBounds_toArray, List.set_cons_zero, List.set_cons_succ, i64_w, i32_w]
          rfl
         refine pure_ (i := 1) (N := some 53) (v := ?_) (a' := ?_) #[true, true, false, false, false, false, false, false, false, false, false, false, false, false, false] rfl rfl (any_of HT_.out (by kernel_rfl)) (fun _ _ _ h => h) (Or.inl ⟨by rfl, ?_⟩) ?_ ?_
         rotate_left
         ·
          intro w'
          go_simp
          with_reducible rfl
         rotate_left
         ·
          simp only [Act.put, List.setIfInBounds_toArray, List.set_cons_zero, List.set_cons_succ, i64_w, i32_w]
          rfl
         refine pure_ (i := 2) (N := some 54) (v := ?_) (a' := ?_) #[true, true, true, false, false, false, false, false, false, false, false, false, false, false, false] rfl rfl (any_of HT_.out (by kernel_rfl)) (fun _ _ _ h => h) (Or.inl ⟨by rfl, ?_⟩) ?_ ?_
         rotate_left
         ·
          intro w'
          go_simp
          with_reducible rfl
         rotate_left
         ·
          simp only [Act.put, List.setIfInBounds_toArray, List.set_cons_zero, List.set_cons_succ, i64_w, i32_w]
          rfl
         refine pure_ (i := 3) (N := some 55) (v := ?_) (a' := ?_) #[true, true, true, true, false, false, false, false, false, false, false, false, false, false, false] rfl rfl (any_of HT_.out (by kernel_rfl)) (fun _ _ _ h => h) (Or.inl ⟨by rfl, ?_⟩) ?_ ?_
         rotate_left
         ·
          intro w'
          go_simp
          with_reducible rfl
         rotate_left
         ·
          simp only [Act.put, List.setIfInBounds_toArray, List.set_cons_zero, List.set_cons_succ, i64_w, i32_w]
          rfl
         refine pure_ (i := 4) (N := some 56) (v := ?_) (a' := ?_) #[true, true, true, true, true, false, false, false, false, false, false, false, false, false, false] rfl rfl (any_of HT_.out (by kernel_rfl)) (fun _ _ _ h => h) (Or.inl ⟨by rfl, ?_⟩) ?_ ?_
         rotate_left
         ·
          intro w'
          go_simp
          with_reducible rfl
         rotate_left
         ·
          simp only [Act.put, List.setIfInBounds_toArray, List.set_cons_zero, List.set_cons_succ, i64_w, i32_w]
          rfl
         refine pure_ (i := 5) (N := some 57) (v := ?_) (a' := ?_) #[true, true, true, true, true, true, false, false, false, false, false, false, false, false, false] rfl rfl (any_of HT_.out (by kernel_rfl)) (fun _ _ _ h => h) (Or.inl ⟨by rfl, ?_⟩) ?_ ?_
         rotate_left
         ·
          intro w'
          go_simp
          with_reducible rfl
         rotate_left
         ·
          simp only [Act.put, List.setIfInBounds_toArray, List.set_cons_zero, List.set_cons_succ, i64_w, i32_w]
          rfl
         refine pure_ (i := 6) (N := some 58) (v := ?_) (a' := ?_) #[true, true, true, true, true, true, true, false, false, false, false, false, false, false, false] rfl rfl (any_of HT_.out (by kernel_rfl)) (fun _ _ _ h => h) (Or.inl ⟨by rfl, ?_⟩) ?_ ?_
         rotate_left
         ·
          intro w'
          go_simp
          with_reducible rfl
         rotate_left
         ·
          simp only [Act.put, List.setIfInBounds_toArray, List.set_cons_zero, List.set_cons_succ, i64_w, i32_w]
          rfl
         refine pure_ (i := 7) (N := some 59) (v := ?_) (a' := ?_) #[true, true, true, true, true, true, true, true, false, false, false, false, false, false, false] rfl rfl (any_of HT_.out (by kernel_rfl)) (fun _ _ _ h => h) (Or.inl ⟨by rfl, ?_⟩) ?_ ?_
         rotate_left
         ·
          intro w'
          go_simp
          with_reducible rfl
         rotate_left
         ·
          simp only [Act.put, List.setIfInBounds_toArray, List.set_cons_zero, List.set_cons_succ, i64_w, i32_w]
          rfl
         refine pure_ (i := 9) (N := some 61) (v := ?_) (a' := ?_) #[true, true, true, true, true, true, true, true, false, true, false, false, false, false, false] rfl rfl (any_of HT_.out (by kernel_rfl)) (fun _ _ _ h => h) (Or.inl ⟨by rfl, ?_⟩) ?_ ?_
         rotate_left
         ·
          intro w'
          go_simp
          with_reducible rfl
         rotate_left
         ·
          simp only [Act.put, List.setIfInBounds_toArray, List.set_cons_zero, List.set_cons_succ, i64_w, i32_w]
          rfl
         refine pure_ (i := 10) (N := some 62) (v := ?_) (a' := ?_) #[true, true, true, true, true, true, true, true, false, true, true, false, false, false, false] rfl rfl (any_of HT_.out (by kernel_rfl)) (fun _ _ _ h => h) (Or.inl ⟨by rfl, ?_⟩) ?_ ?_
         rotate_left
         ·
          intro w'
          go_simp
          with_reducible rfl
         rotate_left
         ·
          simp only [Act.put, List.setIfInBounds_toArray, List.set_cons_zero, List.set_cons_succ, i64_w, i32_w]
          rfl
         refine pure_ (i := 11) (N := some 63) (v := ?_) (a' := ?_) #[true, true, true, true, true, true, true, true, false, true, true, true, false, false, false] rfl rfl (any_of HT_.out (by kernel_rfl)) (fun _ _ _ h => h) (Or.inl ⟨by rfl, ?_⟩) ?_ ?_
         rotate_left
         ·
          intro w'
          go_simp
          with_reducible rfl
         rotate_left
         ·
          simp only [Act.put, List.setIfInBounds_toArray, List.set_cons_zero, List.set_cons_succ, i64_w, i32_w]
          rfl
         refine take_ (i := 8) (N := some 60) (v := ?_) (a' := ?_) #[true, true, true, true, true, true, true, true, true, true, true, true, false, false, false] rfl rfl (take_ofW HT_.out HW_.out (by kernel_rfl)) (fun _ _ _ h => h) (Or.inl ⟨by rfl, ?_⟩) hHeld ?_ ?_
         rotate_left
         ·
          rintro w' ⟨s0, s1⟩
          go_simp
          with_reducible rfl
         rotate_left
         ·
          simp only [Act.put, List.setIfInBounds_toArray, List.set_cons_zero, List.set_cons_succ, i64_w, i32_w]
          rfl
         refine take_ (i := 12) (N := some 64) (v := ?_) (a' := ?_) #[true, true, true, true, true, true, true, true, true, true, true, true, true, false, false] rfl rfl (take_ofW HT_.out HW_.out (by kernel_rfl)) (fun _ _ _ h => h) (Or.inl ⟨by rfl, ?_⟩) hHeld ?_ ?_
         rotate_left
         ·
          rintro w' ⟨s0, s1⟩
          go_simp
          with_reducible rfl
         rotate_left
         ·
          simp only [Act.put, List.setIfInBounds_toArray, List.set_cons_zero, List.set_cons_succ, i64_w, i32_w]
          rfl
         refine pure_ (i := 13) (N := some 65) (v := ?_) (a' := ?_) #[true, true, true, true, true, true, true, true, true, true, true, true, true, true, false] rfl rfl (any_of HT_.out (by kernel_rfl)) (fun _ _ _ h => h) (Or.inl ⟨by rfl, ?_⟩) ?_ ?_
         rotate_left
         ·
          intro w'
          go_simp
          with_reducible rfl
         rotate_left
         ·
          simp only [Act.put, List.setIfInBounds_toArray, List.set_cons_zero, List.set_cons_succ, i64_w, i32_w]
          rfl
         refine pure_ (i := 14) (N := some 66) (v := ?_) (a' := ?_) #[true, true, true, true, true, true, true, true, true, true, true, true, true, true, true] rfl rfl (any_of HT_.out (by kernel_rfl)) (fun _ _ _ h => h) (Or.inl ⟨by rfl, ?_⟩) ?_ ?_
         rotate_left
         ·
          intro w'
          go_simp
          with_reducible rfl
         rotate_left
         ·
          simp only [Act.put, List.setIfInBounds_toArray, List.set_cons_zero, List.set_cons_succ, i64_w, i32_w]
          rfl
         refine done_ (done_of HT_.out (by kernel_rfl)) ?_
         try go_wp2
         go_roundg k1
         case measure => have := HK1.out; omega
         case rel => exact ⟨(wrap64 (x14_1 + 1)), (by first | rfl | (simp; done) | (simp [*]; done)), H', ⟨by have := HK1.out; omega⟩, ⟨by (with_reducible repeat (first | apply Kd.R_alloc | apply Kd.R_drewN | apply Kd.R_drew)); exact HO_4.out⟩, ⟨by (with_reducible repeat (first | apply Kd.R_alloc | apply Kd.R_drewN | apply Kd.R_drew)); exact HO_7.out⟩, ⟨by (with_reducible repeat (first | apply Kd.R_alloc | apply Kd.R_drewN | apply Kd.R_drew)); exact HO_11.out⟩, ⟨by (with_reducible repeat (first | apply Kd.R_alloc | apply Kd.R_drewN | apply Kd.R_drew)); exact HO_13.out⟩, ⟨by (with_reducible repeat (first | apply Kd.R_alloc | apply Kd.R_drewN | apply Kd.R_drew)); exact HO_402000.out⟩, ⟨by (with_reducible repeat (first | apply Kd.R_alloc | apply Kd.R_drewN | apply Kd.R_drew)); exact HO_402001.out⟩, ⟨by (with_reducible repeat (first | apply Kd.R_alloc | apply Kd.R_drewN | apply Kd.R_drew)); exact HO_419000.out⟩, ⟨by (with_reducible repeat (first | apply Kd.R_alloc | apply Kd.R_drewN | apply Kd.R_drew)); exact HO_419001.out⟩, ⟨by (with_reducible repeat (first | apply Kd.R_alloc | apply Kd.R_drewN | apply Kd.R_drew)); exact HO_430000.out⟩, ⟨by (with_reducible repeat (first | apply Kd.R_alloc | apply Kd.R_drewN | apply Kd.R_drew)); exact HO_430001.out⟩, ⟨by (with_reducible repeat (first | apply Kd.R_alloc | apply Kd.R_drewN | apply Kd.R_drew)); exact HO_441000.out⟩, ⟨by (with_reducible repeat (first | apply Kd.R_alloc | apply Kd.R_drewN | apply Kd.R_drew)); exact HO_441001.out⟩, ⟨by (with_reducible repeat (first | refine blk_drewN ?_ _ | refine blk_drew ?_ | refine blk_alloc ?_ _)); exact BK401.out⟩, ⟨by (with_reducible repeat (first | refine blk_drewN ?_ _ | refine blk_drew ?_ | refine blk_alloc ?_ _)); exact BK418.out⟩, ⟨by (with_reducible repeat (first | refine blk_drewN ?_ _ | refine blk_drew ?_ | refine blk_alloc ?_ _)); exact BK429.out⟩, ⟨by (with_reducible repeat (first | refine blk_drewN ?_ _ | refine blk_drew ?_ | refine blk_alloc ?_ _)); exact BK440.out⟩, ⟨by repeat (first | (with_reducible first | exact HB.out | apply below_alloc | apply pw_below_drewN | apply below_drew1 | refine below_set ?_ GE401.out | refine below_set ?_ GE418.out | refine below_set ?_ GE429.out | refine below_set ?_ GE440.out) | exact HB.out)⟩⟩
        ·
         rw [if_neg c48] at H
         exact absurd H (by simp)
       ·
        rw [if_neg c47] at H
        exact absurd H (by simp)
      ·
       rw [if_neg c46] at H
       exact absurd H (by simp)
    ·
     rw [if_neg c44] at H
     have c44b0 : decide (x14_1 < (t426.length : Int)) = false := decide_eq_false c44
     clear c44
     replace H := Option.bind_eq_some_iff.mp H
     obtain ⟨t443, A510, H⟩ := H
     replace H : (if 0 < (t443.length : Int) then ((impl_AckedBy.f k1 t394 t397 t400 (([Int.tmod (rd t443 0) 4] : List Int))).bind fun bt450 => (if t406 = true then (if t408 = true then ((laws_sameInts.f k1 t407 t402).bind fun t458 => (if t458 = true then ((impl_LeftOf.f k1 t411 t414 t417).bind fun t459 => (if (t459.length : Int) = 0 then (if (t437.length : Int) = 0 then ((laws_sameFlight.f k1 t430 t433 t436 t411 t414 t417).bind fun t462 => (if t462 = true then (if (t426.length : Int) = (t402.length : Int) then (if t425 = (wrap64 (t400 + 1)) then ((impl_FlightOk.f k1 t394 t397 t400).bind fun t463 => (if t463 = true then ((impl_FlightOk.f k1 bt450.1 bt450.2.1 bt450.2.2).bind fun t464 => (if t464 = true then ((impl_LeftOf.f k1 bt450.1 bt450.2.1 bt450.2.2).bind fun t465 => (if (t465.length : Int) ≤ (t402.length : Int) then (some ((wrap64 ((t402.length : Int) + (t397.length : Int))) == (t394.length : Int))) else (none))) else (none))) else (none))) else (if (t426.length : Int) = 0 then (if t425 = t400 then ((impl_FlightOk.f k1 t394 t397 t400).bind fun t468 => (if t468 = true then ((impl_FlightOk.f k1 bt450.1 bt450.2.1 bt450.2.2).bind fun t469 => (if t469 = true then ((impl_LeftOf.f k1 bt450.1 bt450.2.1 bt450.2.2).bind fun t470 => (if (t470.length : Int) ≤ (t402.length : Int) then (some ((wrap64 ((t402.length : Int) + (t397.length : Int))) == (t394.length : Int))) else (none))) else (none))) else (none))) else (none)) else (none))) else (if (t426.length : Int) = 0 then (if t425 = t400 then ((impl_FlightOk.f k1 t394 t397 t400).bind fun t473 => (if t473 = true then ((impl_FlightOk.f k1 bt450.1 bt450.2.1 bt450.2.2).bind fun t474 => (if t474 = true then ((impl_LeftOf.f k1 bt450.1 bt450.2.1 bt450.2.2).bind fun t475 => (if (t475.length : Int) ≤ (t402.length : Int) then (some ((wrap64 ((t402.length : Int) + (t397.length : Int))) == (t394.length : Int))) else (none))) else (none))) else (none))) else (none)) else (none))) else (none))) else (none)) else (none))) else (none))) else (none)) else (none))) else (none)) = some r := H
     have A51 := Aside0.mk A510
     clear A510
     by_cases c52 : 0 < (t443.length : Int)
     ·
      rw [if_pos c52] at H
      have c52b0 : decide (0 < (t443.length : Int)) = true := decide_eq_true c52
      have c52b1 : decide (0 < t443.length) = true := decide_eq_true (by omega)
      clear c52
      obtain ⟨y447, hy447⟩ : ∃ y_ : List Int, y_ = (([Int.tmod (rd t443 0) 4] : List Int)) := ⟨_, rfl⟩
      replace H : ((impl_AckedBy.f k1 t394 t397 t400 y447).bind fun bt450 => (if t406 = true then (if t408 = true then ((laws_sameInts.f k1 t407 t402).bind fun t458 => (if t458 = true then ((impl_LeftOf.f k1 t411 t414 t417).bind fun t459 => (if (t459.length : Int) = 0 then (if (t437.length : Int) = 0 then ((laws_sameFlight.f k1 t430 t433 t436 t411 t414 t417).bind fun t462 => (if t462 = true then (if (t426.length : Int) = (t402.length : Int) then (if t425 = (wrap64 (t400 + 1)) then ((impl_FlightOk.f k1 t394 t397 t400).bind fun t463 => (if t463 = true then ((impl_FlightOk.f k1 bt450.1 bt450.2.1 bt450.2.2).bind fun t464 => (if t464 = true then ((impl_LeftOf.f k1 bt450.1 bt450.2.1 bt450.2.2).bind fun t465 => (if (t465.length : Int) ≤ (t402.length : Int) then (some ((wrap64 ((t402.length : Int) + (t397.length : Int))) == (t394.length : Int))) else (none))) else (none))) else (none))) else (if (t426.length : Int) = 0 then (if t425 = t400 then ((impl_FlightOk.f k1 t394 t397 t400).bind fun t468 => (if t468 = true then ((impl_FlightOk.f k1 bt450.1 bt450.2.1 bt450.2.2).bind fun t469 => (if t469 = true then ((impl_LeftOf.f k1 bt450.1 bt450.2.1 bt450.2.2).bind fun t470 => (if (t470.length : Int) ≤ (t402.length : Int) then (some ((wrap64 ((t402.length : Int) + (t397.length : Int))) == (t394.length : Int))) else (none))) else (none))) else (none))) else (none)) else (none))) else (if (t426.length : Int) = 0 then (if t425 = t400 then ((impl_FlightOk.f k1 t394 t397 t400).bind fun t473 => (if t473 = true then ((impl_FlightOk.f k1 bt450.1 bt450.2.1 bt450.2.2).bind fun t474 => (if t474 = true then ((impl_LeftOf.f k1 bt450.1 bt450.2.1 bt450.2.2).bind fun t475 => (if (t475.length : Int) ≤ (t402.length : Int) then (some ((wrap64 ((t402.length : Int) + (t397.length : Int))) == (t394.length : Int))) else (none))) else (none))) else (none))) else (none)) else (none))) else (none))) else (none)) else (none))) else (none))) else (none)) else (none))) = some r := by first | (rw [hy447]; with_reducible exact H) | (have H2_ := (Option.bind_some _ _).symm.trans H; rw [hy447]; with_reducible exact H2_) | (have H2_ := (Option.bind_some _ _).symm.trans H; with_reducible exact H2_) | with_reducible exact H | (rw [hy447]; exact H) | exact H
      have Ny447 := Aside0.mk hy447
      clear hy447
      replace H := Option.bind_eq_some_iff.mp H
      obtain ⟨⟨t450, t453, t456⟩, A530, H⟩ := H
      replace H : (if t406 = true then (if t408 = true then ((laws_sameInts.f k1 t407 t402).bind fun t458 => (if t458 = true then ((impl_LeftOf.f k1 t411 t414 t417).bind fun t459 => (if (t459.length : Int) = 0 then (if (t437.length : Int) = 0 then ((laws_sameFlight.f k1 t430 t433 t436 t411 t414 t417).bind fun t462 => (if t462 = true then (if (t426.length : Int) = (t402.length : Int) then (if t425 = (wrap64 (t400 + 1)) then ((impl_FlightOk.f k1 t394 t397 t400).bind fun t463 => (if t463 = true then ((impl_FlightOk.f k1 t450 t453 t456).bind fun t464 => (if t464 = true then ((impl_LeftOf.f k1 t450 t453 t456).bind fun t465 => (if (t465.length : Int) ≤ (t402.length : Int) then (some ((wrap64 ((t402.length : Int) + (t397.length : Int))) == (t394.length : Int))) else (none))) else (none))) else (none))) else (if (t426.length : Int) = 0 then (if t425 = t400 then ((impl_FlightOk.f k1 t394 t397 t400).bind fun t468 => (if t468 = true then ((impl_FlightOk.f k1 t450 t453 t456).bind fun t469 => (if t469 = true then ((impl_LeftOf.f k1 t450 t453 t456).bind fun t470 => (if (t470.length : Int) ≤ (t402.length : Int) then (some ((wrap64 ((t402.length : Int) + (t397.length : Int))) == (t394.length : Int))) else (none))) else (none))) else (none))) else (none)) else (none))) else (if (t426.length : Int) = 0 then (if t425 = t400 then ((impl_FlightOk.f k1 t394 t397 t400).bind fun t473 => (if t473 = true then ((impl_FlightOk.f k1 t450 t453 t456).bind fun t474 => (if t474 = true then ((impl_LeftOf.f k1 t450 t453 t456).bind fun t475 => (if (t475.length : Int) ≤ (t402.length : Int) then (some ((wrap64 ((t402.length : Int) + (t397.length : Int))) == (t394.length : Int))) else (none))) else (none))) else (none))) else (none)) else (none))) else (none))) else (none)) else (none))) else (none))) else (none)) else (none)) = some r := H
      have A53 := Aside0.mk A530
      clear A530
      have HC54 := Aside0.mk H
      clear H
      obtain ⟨Ao71, co71, eo71⟩ := Kd.R_slice HO_11.out
      subst eo71
      try go_wp2_with (first | ((with_reducible refine gate_callee (f := 13) rfl ?_); refine goesL_ (some 68) rfl rfl Try.func13 (by kernel_rfl) rfl #[.slice A0 l0.length c0] rfl (by (try simp only [List.map_toArray, List.map_cons, List.map_nil]); first | done | rfl | (simp only [List.length_drop, List.length_take]; rfl)) ?_; (with_reducible refine (spec_DrawPlaces.calls k1 _ _ l0 t443 _ ?side1 ?side2 A51.out).mono ?_); (case side1 => repeat (first | exact (Kd.C_below HR0.out HB.out) | (with_reducible refine Kd.C_alloc ?_ _) | (with_reducible refine Kd.C_drewN ?_ _) | (with_reducible refine Kd.C_drew ?_))); (case side2 => exact HC0.out); rintro e w72 ⟨v444, rfl, ho0, hb⟩; refine ⟨_, rfl, ?_⟩; have n0_ := Aside0.mk (Kd.R_below (by (with_reducible repeat (first | apply Kd.R_alloc | apply Kd.R_drewN | apply Kd.R_drew)); exact HO_4.out) hb); have n1_ := Aside0.mk (Kd.R_below (by (with_reducible repeat (first | apply Kd.R_alloc | apply Kd.R_drewN | apply Kd.R_drew)); exact HO_7.out) hb); have n2_ := Aside0.mk (Kd.R_below (by (with_reducible repeat (first | apply Kd.R_alloc | apply Kd.R_drewN | apply Kd.R_drew)); exact HO_11.out) hb); have n3_ := Aside0.mk (Kd.R_below (by (with_reducible repeat (first | apply Kd.R_alloc | apply Kd.R_drewN | apply Kd.R_drew)); exact HO_13.out) hb); have n4_ := Aside0.mk (Kd.R_below (by (with_reducible repeat (first | apply Kd.R_alloc | apply Kd.R_drewN | apply Kd.R_drew)); exact HO_402000.out) hb); have n5_ := Aside0.mk (Kd.R_below (by (with_reducible repeat (first | apply Kd.R_alloc | apply Kd.R_drewN | apply Kd.R_drew)); exact HO_402001.out) hb); have n6_ := Aside0.mk (Kd.R_below (by (with_reducible repeat (first | apply Kd.R_alloc | apply Kd.R_drewN | apply Kd.R_drew)); exact HO_419000.out) hb); have n7_ := Aside0.mk (Kd.R_below (by (with_reducible repeat (first | apply Kd.R_alloc | apply Kd.R_drewN | apply Kd.R_drew)); exact HO_419001.out) hb); have n8_ := Aside0.mk (Kd.R_below (by (with_reducible repeat (first | apply Kd.R_alloc | apply Kd.R_drewN | apply Kd.R_drew)); exact HO_430000.out) hb); have n9_ := Aside0.mk (Kd.R_below (by (with_reducible repeat (first | apply Kd.R_alloc | apply Kd.R_drewN | apply Kd.R_drew)); exact HO_430001.out) hb); have n10_ := Aside0.mk (Kd.R_below (by (with_reducible repeat (first | apply Kd.R_alloc | apply Kd.R_drewN | apply Kd.R_drew)); exact HO_441000.out) hb); have n11_ := Aside0.mk (Kd.R_below (by (with_reducible repeat (first | apply Kd.R_alloc | apply Kd.R_drewN | apply Kd.R_drew)); exact HO_441001.out) hb); have n12_ := Aside0.mk (Kd.R_lower (Kd.R_mono (ok' := fun _ => True) ho0 (fun _ _ => trivial)) (below_size (by repeat (first | (with_reducible first | exact HB.out | apply below_alloc | apply pw_below_drewN | apply below_drew1 | refine below_set ?_ GE401.out | refine below_set ?_ GE418.out | refine below_set ?_ GE429.out | refine below_set ?_ GE440.out) | exact HB.out)))); have n13_ := Aside0.mk (blk_below (g := gb401) (o := .cells #[.slice Ao13 t394.length co13, .slice Ao15 t397.length co15, .int .i64 t400] 46 (0, 0)) (by (with_reducible repeat (first | refine blk_drewN ?_ _ | refine blk_drew ?_ | refine blk_alloc ?_ _)); exact BK401.out) hb); have n14_ := Aside0.mk (blk_below (g := gb418) (o := .cells #[.slice Ao23 t411.length co23, .slice Ao26 t414.length co26, .int .i64 t417] 46 (0, 0)) (by (with_reducible repeat (first | refine blk_drewN ?_ _ | refine blk_drew ?_ | refine blk_alloc ?_ _)); exact BK418.out) hb); have n15_ := Aside0.mk (blk_below (g := gb429) (o := .cells #[.slice Ao30 t419.length co30, .slice Ao34 t422.length co34, .int .i64 t425] 46 (0, 0)) (by (with_reducible repeat (first | refine blk_drewN ?_ _ | refine blk_drew ?_ | refine blk_alloc ?_ _)); exact BK429.out) hb); have n16_ := Aside0.mk (blk_below (g := gb440) (o := .cells #[.slice Ao38 t430.length co38, .slice Ao43 t433.length co43, .int .i64 t436] 46 (0, 0)) (by (with_reducible repeat (first | refine blk_drewN ?_ _ | refine blk_drew ?_ | refine blk_alloc ?_ _)); exact BK440.out) hb); have n17_ := Aside0.mk (below_step (by repeat (first | (with_reducible first | exact HB.out | apply below_alloc | apply pw_below_drewN | apply below_drew1 | refine below_set ?_ GE401.out | refine below_set ?_ GE418.out | refine below_set ?_ GE429.out | refine below_set ?_ GE440.out) | exact HB.out)) hb); clear HO_4; clear HO_7; clear HO_11; clear HO_13; clear HO_402000; clear HO_402001; clear HO_419000; clear HO_419001; clear HO_430000; clear HO_430001; clear HO_441000; clear HO_441001; clear BK401; clear BK418; clear BK429; clear BK440; clear HB; have HO_4 := n0_; have HO_7 := n1_; have HO_11 := n2_; have HO_13 := n3_; have HO_402000 := n4_; have HO_402001 := n5_; have HO_419000 := n6_; have HO_419001 := n7_; have HO_430000 := n8_; have HO_430001 := n9_; have HO_441000 := n10_; have HO_441001 := n11_; have HO445 := n12_; have BK401 := n13_; have BK418 := n14_; have BK429 := n15_; have BK440 := n16_; have HB := n17_; clear n0_ n1_ n2_ n3_ n4_ n5_ n6_ n7_ n8_ n9_ n10_ n11_ n12_ n13_ n14_ n15_ n16_ n17_; (try clear hb); (try clear hb2); (try clear hk); (try clear hi); (try clear ho0)))
      have n0_ := Aside0.mk (Kd.R_drew HO_4.out)
      have n1_ := Aside0.mk (Kd.R_drew HO_7.out)
      have n2_ := Aside0.mk (Kd.R_drew HO_11.out)
      have n3_ := Aside0.mk (Kd.R_drew HO_13.out)
      have n4_ := Aside0.mk (Kd.R_drew HO_402000.out)
      have n5_ := Aside0.mk (Kd.R_drew HO_402001.out)
      have n6_ := Aside0.mk (Kd.R_drew HO_419000.out)
      have n7_ := Aside0.mk (Kd.R_drew HO_419001.out)
      have n8_ := Aside0.mk (Kd.R_drew HO_430000.out)
      have n9_ := Aside0.mk (Kd.R_drew HO_430001.out)
      have n10_ := Aside0.mk (Kd.R_drew HO_441000.out)
      have n11_ := Aside0.mk (Kd.R_drew HO_441001.out)
      have n12_ := Aside0.mk (Kd.R_drew HO445.out)
      have n13_ := Aside0.mk (blk_drew BK401.out)
      have n14_ := Aside0.mk (blk_drew BK418.out)
      have n15_ := Aside0.mk (blk_drew BK429.out)
      have n16_ := Aside0.mk (blk_drew BK440.out)
      have n17_ := Aside0.mk (below_drew1 HB.out)
      clear HO_4
      clear HO_7
      clear HO_11
      clear HO_13
      clear HO_402000
      clear HO_402001
      clear HO_419000
      clear HO_419001
      clear HO_430000
      clear HO_430001
      clear HO_441000
      clear HO_441001
      clear HO445
      clear BK401
      clear BK418
      clear BK429
      clear BK440
      clear HB
      have HO_4 := n0_
      have HO_7 := n1_
      have HO_11 := n2_
      have HO_13 := n3_
      have HO_402000 := n4_
      have HO_402001 := n5_
      have HO_419000 := n6_
      have HO_419001 := n7_
      have HO_430000 := n8_
      have HO_430001 := n9_
      have HO_441000 := n10_
      have HO_441001 := n11_
      have HO445 := n12_
      have BK401 := n13_
      have BK418 := n14_
      have BK429 := n15_
      have BK440 := n16_
      have HB := n17_
      clear n0_ n1_ n2_ n3_ n4_ n5_ n6_ n7_ n8_ n9_ n10_ n11_ n12_ n13_ n14_ n15_ n16_ n17_
      obtain ⟨Ao74, co74, eo74⟩ := Kd.R_slice HO445.out
      (first | subst eo74 | (injection eo74 with f1_ f2_ f3_; have f4_ := f1_.symm; have f5_ := f3_.symm; clear f1_ f2_ f3_; subst f4_; subst f5_))
      have p446 : 0 ≤ (0 : Int) := (by omega)
      have q446 : 0 < (t443.length : Int) := of_decide_eq_true (by first | (with_reducible assumption) | assumption)
      obtain ⟨ad446, e446, hx446_0⟩ := Kd.at_int (Kd.R_reads' HO445.out).2.2 0 p446 q446
      cases e446
      have qi446 : (0 < t443.length) = True := eq_true (by omega)
      (try rw [show ((0 : Int)).toNat = 0 from rfl] at hx446_0)
      (try rw [Addr.add_zero'] at hx446_0)
      replace p446 := eq_true p446
      replace q446 := eq_true q446
      refine start_ (n := 9) (S := fun w' => w'.cell? ⟨gb401, 0, none⟩ = some (.slice Ao13 t394.length co13) ∧ w'.cell? ⟨gb401, 1, none⟩ = some (.slice Ao15 t397.length co15) ∧ w'.cell? ⟨gb401, 2, none⟩ = some (.int .i64 t400) ∧ w'.cell? ad446 = some (.int .i64 (rd t443 0))) (ds := []) #[false, false, false, false, false, false, false, false, false] (by kernel_rfl) rfl rfl ⟨(blk_cell BK401.out 0).trans rfl, (blk_cell BK401.out 1).trans rfl, (blk_cell BK401.out 2).trans rfl, hx446_0⟩ (fun hHeld => ?_); refine with_tabW laws_FnAcks.tab16 laws_FnAcks.bits16 (fun HT_ HW_ => ?_)
      generalize w72.drew = w73 at HO_4 HO_7 HO_11 HO_13 HO_402000 HO_402001 HO_419000 HO_419001 HO_430000 HO_430001 HO_441000 HO_441001 HO445 BK401 BK418 BK429 BK440 HB hx446_0 hHeld ⊢
      refine pure_ (i := 1) (N := some 70) (v := ?_) (a' := ?_) #[false, true, false, false, false, false, false, false, false] rfl rfl (any_of HT_.out (by kernel_rfl)) (fun _ _ _ h => h) (Or.inl ⟨by rfl, ?_⟩) ?_ ?_
      rotate_left
      ·
       intro w'
       go_simp
       with_reducible rfl
      rotate_left
      ·
       simp only [Act.put, List.setIfInBounds_toArray, List.set_cons_zero, List.set_cons_succ, i64_w, i32_w]
       rfl
      refine pure_ (i := 2) (N := some 71) (v := ?_) (a' := ?_) #[false, true, true, false, false, false, false, false, false] rfl rfl (any_of HT_.out (by kernel_rfl)) (fun _ _ _ h => h) (Or.inl ⟨by rfl, ?_⟩) ?_ ?_
      rotate_left
      ·
       intro w'
       go_simp
       with_reducible rfl
      rotate_left
      ·
       simp only [Act.put, List.setIfInBounds_toArray, List.set_cons_zero, List.set_cons_succ, i64_w, i32_w]
       rfl
      refine take_ (i := 0) (N := some 69) (v := ?_) (a' := ?_) #[true, true, true, false, false, false, false, false, false] rfl rfl (take_ofW HT_.out HW_.out (by kernel_rfl)) (fun _ _ _ h => h) (Or.inl ⟨by rfl, ?_⟩) hHeld ?_ ?_
      rotate_left
      ·
       rintro w' ⟨s0, s1, s2, s3⟩
       go_simp
       with_reducible rfl
      rotate_left
      ·
       simp only [Act.put, List.setIfInBounds_toArray, List.set_cons_zero, List.set_cons_succ, i64_w, i32_w]
       rfl
      refine take_ (i := 3) (N := some 72) (v := ?_) (a' := ?_) #[true, true, true, true, false, false, false, false, false] rfl rfl (take_ofW HT_.out HW_.out (by kernel_rfl)) (fun _ _ _ h => h) (Or.inl ⟨by rfl, ?_⟩) hHeld ?_ ?_
      rotate_left
      ·
       rintro w' ⟨s0, s1, s2, s3⟩
       go_simp
       with_reducible rfl
      rotate_left
      ·
       simp only [Act.put, List.setIfInBounds_toArray, List.set_cons_zero, List.set_cons_succ, i64_w, i32_w]
       rfl
      refine pure_ (i := 4) (N := some 73) (v := ?_) (a' := ?_) #[true, true, true, true, true, false, false, false, false] rfl rfl (any_of HT_.out (by kernel_rfl)) (fun _ _ _ h => h) (Or.inl ⟨by rfl, ?_⟩) ?_ ?_
      rotate_left
      ·
       intro w'
       go_simp
       with_reducible rfl
      rotate_left
      ·
       simp only [Act.put, List.setIfInBounds_toArray, List.set_cons_zero, List.set_cons_succ, i64_w, i32_w]
       rfl
      refine join_ (σ := Value × Value × Value × Nat) 1 #[true, true, true, true, true, true, true, true, false] (fun s_ => [(74, s_.1), (75, .agg #[s_.2.1, s_.2.2.1, .int .i64 t456]), (16, .pointer (some ⟨s_.2.2.2, 0, none⟩))]) (fun s_ w' => (w'.cell? ⟨gb401, 0, none⟩ = some (.slice Ao13 t394.length co13) ∧ w'.cell? ⟨gb401, 1, none⟩ = some (.slice Ao15 t397.length co15) ∧ w'.cell? ⟨gb401, 2, none⟩ = some (.int .i64 t400) ∧ w'.cell? ad446 = some (.int .i64 (rd t443 0))) ∧ (Kd.R (Kd.int .i64) 3 w' w.heap.size (fun _ => True) (.slice (some ad446) t443.length co74) t443) ∧ (Kd.R (Kd.int .i64) 3 w' w.heap.size (fun _ => True) s_.1 y447) ∧ (Kd.R (Kd.int .i64) 3 w' w.heap.size (fun _ => True) s_.2.1 t450) ∧ (Kd.R (Kd.int .i64) 3 w' w.heap.size (fun _ => True) s_.2.2.1 t453) ∧ (Kd.R (Kd.int .i64) 3 w' w.heap.size (fun _ => True) (.slice Ao71 t426.length co71) t426) ∧ (Kd.R (Kd.int .i64) 3 w' w.heap.size (fun _ => True) v438 t437) ∧ (Kd.R (Kd.int .i64) 3 w' w.heap.size (fun _ => True) (.slice Ao17 t402.length co17) t402) ∧ (Kd.R (Kd.int .i64) 3 w' w.heap.size (fun _ => True) (.slice Ao13 t394.length co13) t394) ∧ (Kd.R (Kd.int .i64) 3 w' w.heap.size (fun _ => True) (.slice Ao15 t397.length co15) t397) ∧ (Kd.R (Kd.int .i64) 3 w' w.heap.size (fun _ => True) (.slice Ao23 t411.length co23) t411) ∧ (Kd.R (Kd.int .i64) 3 w' w.heap.size (fun _ => True) (.slice Ao26 t414.length co26) t414) ∧ (Kd.R (Kd.int .i64) 3 w' w.heap.size (fun _ => True) (.slice Ao30 t419.length co30) t419) ∧ (Kd.R (Kd.int .i64) 3 w' w.heap.size (fun _ => True) (.slice Ao34 t422.length co34) t422) ∧ (Kd.R (Kd.int .i64) 3 w' w.heap.size (fun _ => True) (.slice Ao38 t430.length co38) t430) ∧ (Kd.R (Kd.int .i64) 3 w' w.heap.size (fun _ => True) (.slice Ao43 t433.length co43) t433) ∧ (Kd.R (Kd.int .i64) 3 w' w.heap.size (fun _ => True) v409 t407) ∧ (w'.heap[gb401]? = some (.cells #[.slice Ao13 t394.length co13, .slice Ao15 t397.length co15, .int .i64 t400] 46 (0, 0))) ∧ (w'.heap[gb418]? = some (.cells #[.slice Ao23 t411.length co23, .slice Ao26 t414.length co26, .int .i64 t417] 46 (0, 0))) ∧ (w'.heap[gb429]? = some (.cells #[.slice Ao30 t419.length co30, .slice Ao34 t422.length co34, .int .i64 t425] 46 (0, 0))) ∧ (w'.heap[gb440]? = some (.cells #[.slice Ao38 t430.length co38, .slice Ao43 t433.length co43, .int .i64 t436] 46 (0, 0))) ∧ (w'.heap[s_.2.2.2]? = some (.cells #[.slice none 0 0, .slice none 0 0, .int .i64 0] 46 (0, 0))) ∧ (w.heap.size ≤ s_.2.2.2) ∧ (w.heap.size ≤ s_.2.2.2) ∧ (gb401 ≠ s_.2.2.2) ∧ (s_.2.2.2 ≠ gb401) ∧ (gb418 ≠ s_.2.2.2) ∧ (s_.2.2.2 ≠ gb418) ∧ (gb429 ≠ s_.2.2.2) ∧ (s_.2.2.2 ≠ gb429) ∧ (gb440 ≠ s_.2.2.2) ∧ (s_.2.2.2 ≠ gb440) ∧ (Below w.heap.size w w')) ?_ ?_
      rotate_left
      ·
       intro hCont
       refine two_ (i := 5) (j := 7) (Ni := some 74) (Nj := some 16) #[true, true, true, true, true, true, false, false, false] #[true, true, true, true, true, false, false, true, false] rfl rfl rfl rfl (two_of HT_.out (by kernel_rfl)) (by decide) (by decide) (fun K hK => ?_) (fun K hK => ?_)
       ·
        skip
        refine Kd.R_lit_step (Kd.int .i64) _ 3 ?hg (N := 74) ?hd (xs := ([Int.tmod (rd t443 0) 4] : List Int)) (inner := [.int .i64 (Int.tmod (rd t443 0) 4)]) (ok := fun _ => True) (okp := fun _ => True) ?hr ?hp (fun _ hk => hk) trivial (Below.refl _ _) (Nat.le_refl _) (by simp) ?_; (case hd => rfl); (case hg => rfl); (case hr => first | (go_simp; done) | (go_simp; rfl)); (case hp => exact (Reps.one (show Kd.M (Kd.int .i64) _ _ _ (Int.tmod (rd t443 0) 4) [.int .i64 (Int.tmod (rd t443 0) 4)] from rfl) (Reps.none _ _)))
        intro v448 w75 ho76 hb hg_ hnew_
        have HS3_ := (hb.cell (World.block_lt_of_cell? _ _ (hHeld.2.2.2))).trans (hHeld.2.2.2)
        clear hg_ hnew_
        (first | rw [← Ny447.out] at ho76 | (simp only [Int.reduceToNat] at ho76; rw [← Ny447.out] at ho76))
        have n0_ := Aside0.mk (Kd.R_below (by (with_reducible repeat (first | apply Kd.R_alloc | apply Kd.R_drewN | apply Kd.R_drew)); exact HO_4.out) hb)
        have n1_ := Aside0.mk (Kd.R_below (by (with_reducible repeat (first | apply Kd.R_alloc | apply Kd.R_drewN | apply Kd.R_drew)); exact HO_7.out) hb)
        have n2_ := Aside0.mk (Kd.R_below (by (with_reducible repeat (first | apply Kd.R_alloc | apply Kd.R_drewN | apply Kd.R_drew)); exact HO_11.out) hb)
        have n3_ := Aside0.mk (Kd.R_below (by (with_reducible repeat (first | apply Kd.R_alloc | apply Kd.R_drewN | apply Kd.R_drew)); exact HO_13.out) hb)
        have n4_ := Aside0.mk (Kd.R_below (by (with_reducible repeat (first | apply Kd.R_alloc | apply Kd.R_drewN | apply Kd.R_drew)); exact HO_402000.out) hb)
        have n5_ := Aside0.mk (Kd.R_below (by (with_reducible repeat (first | apply Kd.R_alloc | apply Kd.R_drewN | apply Kd.R_drew)); exact HO_402001.out) hb)
        have n6_ := Aside0.mk (Kd.R_below (by (with_reducible repeat (first | apply Kd.R_alloc | apply Kd.R_drewN | apply Kd.R_drew)); exact HO_419000.out) hb)
        have n7_ := Aside0.mk (Kd.R_below (by (with_reducible repeat (first | apply Kd.R_alloc | apply Kd.R_drewN | apply Kd.R_drew)); exact HO_419001.out) hb)
        have n8_ := Aside0.mk (Kd.R_below (by (with_reducible repeat (first | apply Kd.R_alloc | apply Kd.R_drewN | apply Kd.R_drew)); exact HO_430000.out) hb)
        have n9_ := Aside0.mk (Kd.R_below (by (with_reducible repeat (first | apply Kd.R_alloc | apply Kd.R_drewN | apply Kd.R_drew)); exact HO_430001.out) hb)
        have n10_ := Aside0.mk (Kd.R_below (by (with_reducible repeat (first | apply Kd.R_alloc | apply Kd.R_drewN | apply Kd.R_drew)); exact HO_441000.out) hb)
        have n11_ := Aside0.mk (Kd.R_below (by (with_reducible repeat (first | apply Kd.R_alloc | apply Kd.R_drewN | apply Kd.R_drew)); exact HO_441001.out) hb)
        have n12_ := Aside0.mk (Kd.R_below (by (with_reducible repeat (first | apply Kd.R_alloc | apply Kd.R_drewN | apply Kd.R_drew)); exact HO445.out) hb)
        have n13_ := Aside0.mk (Kd.R_lower (Kd.R_mono (ok' := fun _ => True) ho76 (fun _ _ => trivial)) (below_size (by repeat (first | (with_reducible first | exact HB.out | apply below_alloc | apply pw_below_drewN | apply below_drew1 | refine below_set ?_ GE401.out | refine below_set ?_ GE418.out | refine below_set ?_ GE429.out | refine below_set ?_ GE440.out) | exact HB.out))))
        have n14_ := Aside0.mk (blk_below (g := gb401) (o := .cells #[.slice Ao13 t394.length co13, .slice Ao15 t397.length co15, .int .i64 t400] 46 (0, 0)) (by (with_reducible repeat (first | refine blk_drewN ?_ _ | refine blk_drew ?_ | refine blk_alloc ?_ _)); exact BK401.out) hb)
        have n15_ := Aside0.mk (blk_below (g := gb418) (o := .cells #[.slice Ao23 t411.length co23, .slice Ao26 t414.length co26, .int .i64 t417] 46 (0, 0)) (by (with_reducible repeat (first | refine blk_drewN ?_ _ | refine blk_drew ?_ | refine blk_alloc ?_ _)); exact BK418.out) hb)
        have n16_ := Aside0.mk (blk_below (g := gb429) (o := .cells #[.slice Ao30 t419.length co30, .slice Ao34 t422.length co34, .int .i64 t425] 46 (0, 0)) (by (with_reducible repeat (first | refine blk_drewN ?_ _ | refine blk_drew ?_ | refine blk_alloc ?_ _)); exact BK429.out) hb)
        have n17_ := Aside0.mk (blk_below (g := gb440) (o := .cells #[.slice Ao38 t430.length co38, .slice Ao43 t433.length co43, .int .i64 t436] 46 (0, 0)) (by (with_reducible repeat (first | refine blk_drewN ?_ _ | refine blk_drew ?_ | refine blk_alloc ?_ _)); exact BK440.out) hb)
        have n18_ := Aside0.mk (below_step (by repeat (first | (with_reducible first | exact HB.out | apply below_alloc | apply pw_below_drewN | apply below_drew1 | refine below_set ?_ GE401.out | refine below_set ?_ GE418.out | refine below_set ?_ GE429.out | refine below_set ?_ GE440.out) | exact HB.out)) hb)
        clear HO_4
        clear HO_7
        clear HO_11
        clear HO_13
        clear HO_402000
        clear HO_402001
        clear HO_419000
        clear HO_419001
        clear HO_430000
        clear HO_430001
        clear HO_441000
        clear HO_441001
        clear HO445
        clear BK401
        clear BK418
        clear BK429
        clear BK440
        clear HB
        have HO_4 := n0_
        have HO_7 := n1_
        have HO_11 := n2_
        have HO_13 := n3_
        have HO_402000 := n4_
        have HO_402001 := n5_
        have HO_419000 := n6_
        have HO_419001 := n7_
        have HO_430000 := n8_
        have HO_430001 := n9_
        have HO_441000 := n10_
        have HO_441001 := n11_
        have HO445 := n12_
        have HO449 := n13_
        have BK401 := n14_
        have BK418 := n15_
        have BK429 := n16_
        have BK440 := n17_
        have HB := n18_
        clear n0_ n1_ n2_ n3_ n4_ n5_ n6_ n7_ n8_ n9_ n10_ n11_ n12_ n13_ n14_ n15_ n16_ n17_ n18_
        clear hb ho76
        obtain ⟨Ao77, co77, eo77⟩ := Kd.R_slice HO449.out
        (first | subst eo77 | (injection eo77 with f1_ f2_ f3_; have f4_ := f1_.symm; have f5_ := f3_.symm; clear f1_ f2_ f3_; subst f4_; subst f5_))
        refine hK.out _ _ ⟨(blk_cell BK401.out 0).trans rfl, (blk_cell BK401.out 1).trans rfl, (blk_cell BK401.out 2).trans rfl, HS3_⟩ (fun hHeld => ?_)
        clear hK K
        refine norm_ (a' := ?_) ?_ ?_
        rotate_left
        ·
         show Act.put _ (some 74) _ = _
         simp only [Act.put, List.setIfInBounds_toArray, List.set_cons_zero, List.set_cons_succ, i64_w, i32_w]
         rfl
        refine two_ (i := 6) (j := 7) (Ni := some 75) (Nj := some 16) #[true, true, true, true, true, true, true, false, false] #[true, true, true, true, true, true, false, true, false] rfl rfl rfl rfl (two_of HT_.out (by kernel_rfl)) (by decide) (by decide) (fun K hK => ?_) (fun K hK => ?_)
        ·
         skip
         refine goes_ Try.func25 (by kernel_rfl) rfl #[.agg #[.slice Ao13 t394.length co13, .slice Ao15 t397.length co15, .int .i64 t400], .slice Ao77 y447.length co77] (by rfl) rfl rfl (by (try simp only [List.map_toArray, List.map_cons, List.map_nil]); first | done | rfl | (simp only [List.length_drop, List.length_take]; rfl)) ?_
         with_reducible refine (impl_AckedBy.calls k1 _ _ t394 _ _ t397 t400 _ _ y447 t450 t453 t456 _ ?side1 ?side2 ?side3 ?side4 ?side5 ?side6 A53.out).mono ?_
         (case side1 => repeat (first | exact (Kd.R_reads' HO_402000.out).2.2 | (with_reducible refine Kd.C_alloc ?_ _) | (with_reducible refine Kd.C_drewN ?_ _) | (with_reducible refine Kd.C_drew ?_)))
         (case side2 => exact (Kd.R_reads' HO_402000.out).2.1)
         (case side3 => repeat (first | exact (Kd.R_reads' HO_402001.out).2.2 | (with_reducible refine Kd.C_alloc ?_ _) | (with_reducible refine Kd.C_drewN ?_ _) | (with_reducible refine Kd.C_drew ?_)))
         (case side4 => exact (Kd.R_reads' HO_402001.out).2.1)
         (case side5 => repeat (first | exact (Kd.R_reads' HO449.out).2.2 | (with_reducible refine Kd.C_alloc ?_ _) | (with_reducible refine Kd.C_drewN ?_ _) | (with_reducible refine Kd.C_drew ?_)))
         (case side6 => exact (Kd.R_reads' HO449.out).2.1)
         rintro e w78 ⟨v451, v454, rfl, ho0, ho1, hb⟩
         have HS3_ := (hb.cell (World.block_lt_of_cell? _ _ (hHeld.2.2.2))).trans (hHeld.2.2.2)
         refine ⟨_, rfl, ?_⟩
         have n0_ := Aside0.mk (Kd.R_below (by (with_reducible repeat (first | apply Kd.R_alloc | apply Kd.R_drewN | apply Kd.R_drew)); exact HO_4.out) hb)
         have n1_ := Aside0.mk (Kd.R_below (by (with_reducible repeat (first | apply Kd.R_alloc | apply Kd.R_drewN | apply Kd.R_drew)); exact HO_7.out) hb)
         have n2_ := Aside0.mk (Kd.R_below (by (with_reducible repeat (first | apply Kd.R_alloc | apply Kd.R_drewN | apply Kd.R_drew)); exact HO_11.out) hb)
         have n3_ := Aside0.mk (Kd.R_below (by (with_reducible repeat (first | apply Kd.R_alloc | apply Kd.R_drewN | apply Kd.R_drew)); exact HO_13.out) hb)
         have n4_ := Aside0.mk (Kd.R_below (by (with_reducible repeat (first | apply Kd.R_alloc | apply Kd.R_drewN | apply Kd.R_drew)); exact HO_402000.out) hb)
         have n5_ := Aside0.mk (Kd.R_below (by (with_reducible repeat (first | apply Kd.R_alloc | apply Kd.R_drewN | apply Kd.R_drew)); exact HO_402001.out) hb)
         have n6_ := Aside0.mk (Kd.R_below (by (with_reducible repeat (first | apply Kd.R_alloc | apply Kd.R_drewN | apply Kd.R_drew)); exact HO_419000.out) hb)
         have n7_ := Aside0.mk (Kd.R_below (by (with_reducible repeat (first | apply Kd.R_alloc | apply Kd.R_drewN | apply Kd.R_drew)); exact HO_419001.out) hb)
         have n8_ := Aside0.mk (Kd.R_below (by (with_reducible repeat (first | apply Kd.R_alloc | apply Kd.R_drewN | apply Kd.R_drew)); exact HO_430000.out) hb)
         have n9_ := Aside0.mk (Kd.R_below (by (with_reducible repeat (first | apply Kd.R_alloc | apply Kd.R_drewN | apply Kd.R_drew)); exact HO_430001.out) hb)
         have n10_ := Aside0.mk (Kd.R_below (by (with_reducible repeat (first | apply Kd.R_alloc | apply Kd.R_drewN | apply Kd.R_drew)); exact HO_441000.out) hb)
         have n11_ := Aside0.mk (Kd.R_below (by (with_reducible repeat (first | apply Kd.R_alloc | apply Kd.R_drewN | apply Kd.R_drew)); exact HO_441001.out) hb)
         have n12_ := Aside0.mk (Kd.R_below (by (with_reducible repeat (first | apply Kd.R_alloc | apply Kd.R_drewN | apply Kd.R_drew)); exact HO445.out) hb)
         have n13_ := Aside0.mk (Kd.R_below (by (with_reducible repeat (first | apply Kd.R_alloc | apply Kd.R_drewN | apply Kd.R_drew)); exact HO449.out) hb)
         have n14_ := Aside0.mk (Kd.R_lower (Kd.R_mono (ok' := fun _ => True) ho0 (fun _ _ => trivial)) (below_size (by repeat (first | (with_reducible first | exact HB.out | apply below_alloc | apply pw_below_drewN | apply below_drew1 | refine below_set ?_ GE401.out | refine below_set ?_ GE418.out | refine below_set ?_ GE429.out | refine below_set ?_ GE440.out) | exact HB.out))))
         have n15_ := Aside0.mk (Kd.R_lower (Kd.R_mono (ok' := fun _ => True) ho1 (fun _ _ => trivial)) (below_size (by repeat (first | (with_reducible first | exact HB.out | apply below_alloc | apply pw_below_drewN | apply below_drew1 | refine below_set ?_ GE401.out | refine below_set ?_ GE418.out | refine below_set ?_ GE429.out | refine below_set ?_ GE440.out) | exact HB.out))))
         have n16_ := Aside0.mk (blk_below (g := gb401) (o := .cells #[.slice Ao13 t394.length co13, .slice Ao15 t397.length co15, .int .i64 t400] 46 (0, 0)) (by (with_reducible repeat (first | refine blk_drewN ?_ _ | refine blk_drew ?_ | refine blk_alloc ?_ _)); exact BK401.out) hb)
         have n17_ := Aside0.mk (blk_below (g := gb418) (o := .cells #[.slice Ao23 t411.length co23, .slice Ao26 t414.length co26, .int .i64 t417] 46 (0, 0)) (by (with_reducible repeat (first | refine blk_drewN ?_ _ | refine blk_drew ?_ | refine blk_alloc ?_ _)); exact BK418.out) hb)
         have n18_ := Aside0.mk (blk_below (g := gb429) (o := .cells #[.slice Ao30 t419.length co30, .slice Ao34 t422.length co34, .int .i64 t425] 46 (0, 0)) (by (with_reducible repeat (first | refine blk_drewN ?_ _ | refine blk_drew ?_ | refine blk_alloc ?_ _)); exact BK429.out) hb)
         have n19_ := Aside0.mk (blk_below (g := gb440) (o := .cells #[.slice Ao38 t430.length co38, .slice Ao43 t433.length co43, .int .i64 t436] 46 (0, 0)) (by (with_reducible repeat (first | refine blk_drewN ?_ _ | refine blk_drew ?_ | refine blk_alloc ?_ _)); exact BK440.out) hb)
         have n20_ := Aside0.mk (below_step (by repeat (first | (with_reducible first | exact HB.out | apply below_alloc | apply pw_below_drewN | apply below_drew1 | refine below_set ?_ GE401.out | refine below_set ?_ GE418.out | refine below_set ?_ GE429.out | refine below_set ?_ GE440.out) | exact HB.out)) hb)
         clear HO_4
         clear HO_7
         clear HO_11
         clear HO_13
         clear HO_402000
         clear HO_402001
         clear HO_419000
         clear HO_419001
         clear HO_430000
         clear HO_430001
         clear HO_441000
         clear HO_441001
         clear HO445
         clear HO449
         clear BK401
         clear BK418
         clear BK429
         clear BK440
         clear HB
         have HO_4 := n0_
         have HO_7 := n1_
         have HO_11 := n2_
         have HO_13 := n3_
         have HO_402000 := n4_
         have HO_402001 := n5_
         have HO_419000 := n6_
         have HO_419001 := n7_
         have HO_430000 := n8_
         have HO_430001 := n9_
         have HO_441000 := n10_
         have HO_441001 := n11_
         have HO445 := n12_
         have HO449 := n13_
         have HO452 := n14_
         have HO455 := n15_
         have BK401 := n16_
         have BK418 := n17_
         have BK429 := n18_
         have BK440 := n19_
         have HB := n20_
         clear n0_ n1_ n2_ n3_ n4_ n5_ n6_ n7_ n8_ n9_ n10_ n11_ n12_ n13_ n14_ n15_ n16_ n17_ n18_ n19_ n20_
         (try clear hb)
         (try clear hb2)
         (try clear hk)
         (try clear hi)
         (try clear ho0)
         (try clear ho1)
         refine hK.out _ _ ⟨(blk_cell BK401.out 0).trans rfl, (blk_cell BK401.out 1).trans rfl, (blk_cell BK401.out 2).trans rfl, HS3_⟩ (fun hHeld => ?_)
         clear hK K
         refine norm_ (a' := ?_) ?_ ?_
         rotate_left
         ·
          show Act.put _ (some 75) _ = _
          simp only [Act.put, List.setIfInBounds_toArray, List.set_cons_zero, List.set_cons_succ, i64_w, i32_w]
          rfl
         refine one_ (i := 7) (N := some 16) #[true, true, true, true, true, true, true, true, false] rfl rfl (one_of HT_.out (by kernel_rfl)) (by decide) (fun K hK => ?_)
         refine box_step ?hg (N := 16) ?hd (cs := #[.slice none 0 0, .slice none 0 0, .int .i64 0]) (t := 46) ?hr ?_; (case hd => rfl); (case hg => rfl); (case hr => first | (go_simp; done) | (go_simp; rfl))
         intro gb457 hg w79 hbox hb
         have HS3_ := (hb.cell (World.block_lt_of_cell? _ _ (hHeld.2.2.2))).trans (hHeld.2.2.2)
         have n0_ := Aside0.mk (Kd.R_below (by (with_reducible repeat (first | apply Kd.R_alloc | apply Kd.R_drewN | apply Kd.R_drew)); exact HO_4.out) hb)
         have n1_ := Aside0.mk (Kd.R_below (by (with_reducible repeat (first | apply Kd.R_alloc | apply Kd.R_drewN | apply Kd.R_drew)); exact HO_7.out) hb)
         have n2_ := Aside0.mk (Kd.R_below (by (with_reducible repeat (first | apply Kd.R_alloc | apply Kd.R_drewN | apply Kd.R_drew)); exact HO_11.out) hb)
         have n3_ := Aside0.mk (Kd.R_below (by (with_reducible repeat (first | apply Kd.R_alloc | apply Kd.R_drewN | apply Kd.R_drew)); exact HO_13.out) hb)
         have n4_ := Aside0.mk (Kd.R_below (by (with_reducible repeat (first | apply Kd.R_alloc | apply Kd.R_drewN | apply Kd.R_drew)); exact HO_402000.out) hb)
         have n5_ := Aside0.mk (Kd.R_below (by (with_reducible repeat (first | apply Kd.R_alloc | apply Kd.R_drewN | apply Kd.R_drew)); exact HO_402001.out) hb)
         have n6_ := Aside0.mk (Kd.R_below (by (with_reducible repeat (first | apply Kd.R_alloc | apply Kd.R_drewN | apply Kd.R_drew)); exact HO_419000.out) hb)
         have n7_ := Aside0.mk (Kd.R_below (by (with_reducible repeat (first | apply Kd.R_alloc | apply Kd.R_drewN | apply Kd.R_drew)); exact HO_419001.out) hb)
         have n8_ := Aside0.mk (Kd.R_below (by (with_reducible repeat (first | apply Kd.R_alloc | apply Kd.R_drewN | apply Kd.R_drew)); exact HO_430000.out) hb)
         have n9_ := Aside0.mk (Kd.R_below (by (with_reducible repeat (first | apply Kd.R_alloc | apply Kd.R_drewN | apply Kd.R_drew)); exact HO_430001.out) hb)
         have n10_ := Aside0.mk (Kd.R_below (by (with_reducible repeat (first | apply Kd.R_alloc | apply Kd.R_drewN | apply Kd.R_drew)); exact HO_441000.out) hb)
         have n11_ := Aside0.mk (Kd.R_below (by (with_reducible repeat (first | apply Kd.R_alloc | apply Kd.R_drewN | apply Kd.R_drew)); exact HO_441001.out) hb)
         have n12_ := Aside0.mk (Kd.R_below (by (with_reducible repeat (first | apply Kd.R_alloc | apply Kd.R_drewN | apply Kd.R_drew)); exact HO445.out) hb)
         have n13_ := Aside0.mk (Kd.R_below (by (with_reducible repeat (first | apply Kd.R_alloc | apply Kd.R_drewN | apply Kd.R_drew)); exact HO449.out) hb)
         have n14_ := Aside0.mk (Kd.R_below (by (with_reducible repeat (first | apply Kd.R_alloc | apply Kd.R_drewN | apply Kd.R_drew)); exact HO452.out) hb)
         have n15_ := Aside0.mk (Kd.R_below (by (with_reducible repeat (first | apply Kd.R_alloc | apply Kd.R_drewN | apply Kd.R_drew)); exact HO455.out) hb)
         have n16_ := Aside0.mk (blk_below (g := gb401) (o := .cells #[.slice Ao13 t394.length co13, .slice Ao15 t397.length co15, .int .i64 t400] 46 (0, 0)) (by (with_reducible repeat (first | refine blk_drewN ?_ _ | refine blk_drew ?_ | refine blk_alloc ?_ _)); exact BK401.out) hb)
         have n17_ := Aside0.mk (blk_below (g := gb418) (o := .cells #[.slice Ao23 t411.length co23, .slice Ao26 t414.length co26, .int .i64 t417] 46 (0, 0)) (by (with_reducible repeat (first | refine blk_drewN ?_ _ | refine blk_drew ?_ | refine blk_alloc ?_ _)); exact BK418.out) hb)
         have n18_ := Aside0.mk (blk_below (g := gb429) (o := .cells #[.slice Ao30 t419.length co30, .slice Ao34 t422.length co34, .int .i64 t425] 46 (0, 0)) (by (with_reducible repeat (first | refine blk_drewN ?_ _ | refine blk_drew ?_ | refine blk_alloc ?_ _)); exact BK429.out) hb)
         have n19_ := Aside0.mk (blk_below (g := gb440) (o := .cells #[.slice Ao38 t430.length co38, .slice Ao43 t433.length co43, .int .i64 t436] 46 (0, 0)) (by (with_reducible repeat (first | refine blk_drewN ?_ _ | refine blk_drew ?_ | refine blk_alloc ?_ _)); exact BK440.out) hb)
         have n20_ := Aside0.mk (below_step (by repeat (first | (with_reducible first | exact HB.out | apply below_alloc | apply pw_below_drewN | apply below_drew1 | refine below_set ?_ GE401.out | refine below_set ?_ GE418.out | refine below_set ?_ GE429.out | refine below_set ?_ GE440.out) | exact HB.out)) hb)
         have n21_ := Aside0.mk (hbox)
         have n22_ := Aside0.mk ((by rw [hg]; exact (below_size (by repeat (first | (with_reducible first | exact HB.out | apply below_alloc | apply pw_below_drewN | apply below_drew1 | refine below_set ?_ GE401.out | refine below_set ?_ GE418.out | refine below_set ?_ GE429.out | refine below_set ?_ GE440.out) | exact HB.out))) : w.heap.size ≤ gb457))
         have n23_ := Aside0.mk ((by rw [hg]; exact (below_size (by repeat (first | (with_reducible first | exact HB.out | apply below_alloc | apply pw_below_drewN | apply below_drew1 | refine below_set ?_ GE401.out | refine below_set ?_ GE418.out | refine below_set ?_ GE429.out | refine below_set ?_ GE440.out) | exact HB.out))) : w.heap.size ≤ gb457))
         have n24_ := Aside0.mk ((by rw [hg]; exact Nat.ne_of_lt (blk_lt (g := gb401) (o := .cells #[.slice Ao13 t394.length co13, .slice Ao15 t397.length co15, .int .i64 t400] 46 (0, 0)) (by (with_reducible repeat (first | refine blk_drewN ?_ _ | refine blk_drew ?_ | refine blk_alloc ?_ _)); exact BK401.out)) : gb401 ≠ gb457))
         have n25_ := Aside0.mk ((by rw [hg]; exact Nat.ne_of_gt (blk_lt (g := gb401) (o := .cells #[.slice Ao13 t394.length co13, .slice Ao15 t397.length co15, .int .i64 t400] 46 (0, 0)) (by (with_reducible repeat (first | refine blk_drewN ?_ _ | refine blk_drew ?_ | refine blk_alloc ?_ _)); exact BK401.out)) : gb457 ≠ gb401))
         have n26_ := Aside0.mk ((by rw [hg]; exact Nat.ne_of_lt (blk_lt (g := gb418) (o := .cells #[.slice Ao23 t411.length co23, .slice Ao26 t414.length co26, .int .i64 t417] 46 (0, 0)) (by (with_reducible repeat (first | refine blk_drewN ?_ _ | refine blk_drew ?_ | refine blk_alloc ?_ _)); exact BK418.out)) : gb418 ≠ gb457))
         have n27_ := Aside0.mk ((by rw [hg]; exact Nat.ne_of_gt (blk_lt (g := gb418) (o := .cells #[.slice Ao23 t411.length co23, .slice Ao26 t414.length co26, .int .i64 t417] 46 (0, 0)) (by (with_reducible repeat (first | refine blk_drewN ?_ _ | refine blk_drew ?_ | refine blk_alloc ?_ _)); exact BK418.out)) : gb457 ≠ gb418))
         have n28_ := Aside0.mk ((by rw [hg]; exact Nat.ne_of_lt (blk_lt (g := gb429) (o := .cells #[.slice Ao30 t419.length co30, .slice Ao34 t422.length co34, .int .i64 t425] 46 (0, 0)) (by (with_reducible repeat (first | refine blk_drewN ?_ _ | refine blk_drew ?_ | refine blk_alloc ?_ _)); exact BK429.out)) : gb429 ≠ gb457))
         have n29_ := Aside0.mk ((by rw [hg]; exact Nat.ne_of_gt (blk_lt (g := gb429) (o := .cells #[.slice Ao30 t419.length co30, .slice Ao34 t422.length co34, .int .i64 t425] 46 (0, 0)) (by (with_reducible repeat (first | refine blk_drewN ?_ _ | refine blk_drew ?_ | refine blk_alloc ?_ _)); exact BK429.out)) : gb457 ≠ gb429))
         have n30_ := Aside0.mk ((by rw [hg]; exact Nat.ne_of_lt (blk_lt (g := gb440) (o := .cells #[.slice Ao38 t430.length co38, .slice Ao43 t433.length co43, .int .i64 t436] 46 (0, 0)) (by (with_reducible repeat (first | refine blk_drewN ?_ _ | refine blk_drew ?_ | refine blk_alloc ?_ _)); exact BK440.out)) : gb440 ≠ gb457))
         have n31_ := Aside0.mk ((by rw [hg]; exact Nat.ne_of_gt (blk_lt (g := gb440) (o := .cells #[.slice Ao38 t430.length co38, .slice Ao43 t433.length co43, .int .i64 t436] 46 (0, 0)) (by (with_reducible repeat (first | refine blk_drewN ?_ _ | refine blk_drew ?_ | refine blk_alloc ?_ _)); exact BK440.out)) : gb457 ≠ gb440))
         clear HO_4
         clear HO_7
         clear HO_11
         clear HO_13
         clear HO_402000
         clear HO_402001
         clear HO_419000
         clear HO_419001
         clear HO_430000
         clear HO_430001
         clear HO_441000
         clear HO_441001
         clear HO445
         clear HO449
         clear HO452
         clear HO455
         clear BK401
         clear BK418
         clear BK429
         clear BK440
         clear HB
         have HO_4 := n0_
         have HO_7 := n1_
         have HO_11 := n2_
         have HO_13 := n3_
         have HO_402000 := n4_
         have HO_402001 := n5_
         have HO_419000 := n6_
         have HO_419001 := n7_
         have HO_430000 := n8_
         have HO_430001 := n9_
         have HO_441000 := n10_
         have HO_441001 := n11_
         have HO445 := n12_
         have HO449 := n13_
         have HO452 := n14_
         have HO455 := n15_
         have BK401 := n16_
         have BK418 := n17_
         have BK429 := n18_
         have BK440 := n19_
         have HB := n20_
         have BK457 := n21_
         have GW457 := n22_
         have GE457 := n23_
         have NB401_457 := n24_
         have NB457_401 := n25_
         have NB418_457 := n26_
         have NB457_418 := n27_
         have NB429_457 := n28_
         have NB457_429 := n29_
         have NB440_457 := n30_
         have NB457_440 := n31_
         clear n0_ n1_ n2_ n3_ n4_ n5_ n6_ n7_ n8_ n9_ n10_ n11_ n12_ n13_ n14_ n15_ n16_ n17_ n18_ n19_ n20_ n21_ n22_ n23_ n24_ n25_ n26_ n27_ n28_ n29_ n30_ n31_
         clear hb hbox hg
         refine hK.out _ _ ⟨(blk_cell BK401.out 0).trans rfl, (blk_cell BK401.out 1).trans rfl, (blk_cell BK401.out 2).trans rfl, HS3_⟩ (fun hHeld => ?_)
         clear hK K
         refine norm_ (a' := ?_) ?_ ?_
         rotate_left
         ·
          show Act.put _ (some 16) _ = _
          simp only [Act.put, List.setIfInBounds_toArray, List.set_cons_zero, List.set_cons_succ, i64_w, i32_w]
          rfl
         exact norm_ (by simp only [putAll, Act.put, List.setIfInBounds_toArray, List.set_cons_zero, List.set_cons_succ]) (hCont (.slice Ao77 y447.length co77, v451, v454, gb457) _ ⟨hHeld, (by (with_reducible repeat (first | apply Kd.R_alloc | apply Kd.R_drewN | apply Kd.R_drew)); exact HO445.out), (by (with_reducible repeat (first | apply Kd.R_alloc | apply Kd.R_drewN | apply Kd.R_drew)); exact HO449.out), (by (with_reducible repeat (first | apply Kd.R_alloc | apply Kd.R_drewN | apply Kd.R_drew)); exact HO452.out), (by (with_reducible repeat (first | apply Kd.R_alloc | apply Kd.R_drewN | apply Kd.R_drew)); exact HO455.out), (by (with_reducible repeat (first | apply Kd.R_alloc | apply Kd.R_drewN | apply Kd.R_drew)); exact HO_11.out), (by (with_reducible repeat (first | apply Kd.R_alloc | apply Kd.R_drewN | apply Kd.R_drew)); exact HO_13.out), (by (with_reducible repeat (first | apply Kd.R_alloc | apply Kd.R_drewN | apply Kd.R_drew)); exact HO_4.out), (by (with_reducible repeat (first | apply Kd.R_alloc | apply Kd.R_drewN | apply Kd.R_drew)); exact HO_402000.out), (by (with_reducible repeat (first | apply Kd.R_alloc | apply Kd.R_drewN | apply Kd.R_drew)); exact HO_402001.out), (by (with_reducible repeat (first | apply Kd.R_alloc | apply Kd.R_drewN | apply Kd.R_drew)); exact HO_419000.out), (by (with_reducible repeat (first | apply Kd.R_alloc | apply Kd.R_drewN | apply Kd.R_drew)); exact HO_419001.out), (by (with_reducible repeat (first | apply Kd.R_alloc | apply Kd.R_drewN | apply Kd.R_drew)); exact HO_430000.out), (by (with_reducible repeat (first | apply Kd.R_alloc | apply Kd.R_drewN | apply Kd.R_drew)); exact HO_430001.out), (by (with_reducible repeat (first | apply Kd.R_alloc | apply Kd.R_drewN | apply Kd.R_drew)); exact HO_441000.out), (by (with_reducible repeat (first | apply Kd.R_alloc | apply Kd.R_drewN | apply Kd.R_drew)); exact HO_441001.out), (by (with_reducible repeat (first | apply Kd.R_alloc | apply Kd.R_drewN | apply Kd.R_drew)); exact HO_7.out), (by (with_reducible repeat (first | refine blk_drewN ?_ _ | refine blk_drew ?_ | refine blk_alloc ?_ _)); exact BK401.out), (by (with_reducible repeat (first | refine blk_drewN ?_ _ | refine blk_drew ?_ | refine blk_alloc ?_ _)); exact BK418.out), (by (with_reducible repeat (first | refine blk_drewN ?_ _ | refine blk_drew ?_ | refine blk_alloc ?_ _)); exact BK429.out), (by (with_reducible repeat (first | refine blk_drewN ?_ _ | refine blk_drew ?_ | refine blk_alloc ?_ _)); exact BK440.out), (by (with_reducible repeat (first | refine blk_drewN ?_ _ | refine blk_drew ?_ | refine blk_alloc ?_ _)); exact BK457.out), GW457.out, GE457.out, NB401_457.out, NB457_401.out, NB418_457.out, NB457_418.out, NB429_457.out, NB457_429.out, NB440_457.out, NB457_440.out, (by repeat (first | (with_reducible first | exact HB.out | apply below_alloc | apply pw_below_drewN | apply below_drew1 | refine below_set ?_ GE401.out | refine below_set ?_ GE418.out | refine below_set ?_ GE429.out | refine below_set ?_ GE440.out | refine below_set ?_ GE457.out) | exact HB.out))⟩)
        ·
         skip
         refine box_step ?hg (N := 16) ?hd (cs := #[.slice none 0 0, .slice none 0 0, .int .i64 0]) (t := 46) ?hr ?_; (case hd => rfl); (case hg => rfl); (case hr => first | (go_simp; done) | (go_simp; rfl))
         intro gb457 hg w77 hbox hb
         have HS3_ := (hb.cell (World.block_lt_of_cell? _ _ (hHeld.2.2.2))).trans (hHeld.2.2.2)
         have n0_ := Aside0.mk (Kd.R_below (by (with_reducible repeat (first | apply Kd.R_alloc | apply Kd.R_drewN | apply Kd.R_drew)); exact HO_4.out) hb)
         have n1_ := Aside0.mk (Kd.R_below (by (with_reducible repeat (first | apply Kd.R_alloc | apply Kd.R_drewN | apply Kd.R_drew)); exact HO_7.out) hb)
         have n2_ := Aside0.mk (Kd.R_below (by (with_reducible repeat (first | apply Kd.R_alloc | apply Kd.R_drewN | apply Kd.R_drew)); exact HO_11.out) hb)
         have n3_ := Aside0.mk (Kd.R_below (by (with_reducible repeat (first | apply Kd.R_alloc | apply Kd.R_drewN | apply Kd.R_drew)); exact HO_13.out) hb)
         have n4_ := Aside0.mk (Kd.R_below (by (with_reducible repeat (first | apply Kd.R_alloc | apply Kd.R_drewN | apply Kd.R_drew)); exact HO_402000.out) hb)
         have n5_ := Aside0.mk (Kd.R_below (by (with_reducible repeat (first | apply Kd.R_alloc | apply Kd.R_drewN | apply Kd.R_drew)); exact HO_402001.out) hb)
         have n6_ := Aside0.mk (Kd.R_below (by (with_reducible repeat (first | apply Kd.R_alloc | apply Kd.R_drewN | apply Kd.R_drew)); exact HO_419000.out) hb)
         have n7_ := Aside0.mk (Kd.R_below (by (with_reducible repeat (first | apply Kd.R_alloc | apply Kd.R_drewN | apply Kd.R_drew)); exact HO_419001.out) hb)
         have n8_ := Aside0.mk (Kd.R_below (by (with_reducible repeat (first | apply Kd.R_alloc | apply Kd.R_drewN | apply Kd.R_drew)); exact HO_430000.out) hb)
         have n9_ := Aside0.mk (Kd.R_below (by (with_reducible repeat (first | apply Kd.R_alloc | apply Kd.R_drewN | apply Kd.R_drew)); exact HO_430001.out) hb)
         have n10_ := Aside0.mk (Kd.R_below (by (with_reducible repeat (first | apply Kd.R_alloc | apply Kd.R_drewN | apply Kd.R_drew)); exact HO_441000.out) hb)
         have n11_ := Aside0.mk (Kd.R_below (by (with_reducible repeat (first | apply Kd.R_alloc | apply Kd.R_drewN | apply Kd.R_drew)); exact HO_441001.out) hb)
         have n12_ := Aside0.mk (Kd.R_below (by (with_reducible repeat (first | apply Kd.R_alloc | apply Kd.R_drewN | apply Kd.R_drew)); exact HO445.out) hb)
         have n13_ := Aside0.mk (Kd.R_below (by (with_reducible repeat (first | apply Kd.R_alloc | apply Kd.R_drewN | apply Kd.R_drew)); exact HO449.out) hb)
         have n14_ := Aside0.mk (blk_below (g := gb401) (o := .cells #[.slice Ao13 t394.length co13, .slice Ao15 t397.length co15, .int .i64 t400] 46 (0, 0)) (by (with_reducible repeat (first | refine blk_drewN ?_ _ | refine blk_drew ?_ | refine blk_alloc ?_ _)); exact BK401.out) hb)
         have n15_ := Aside0.mk (blk_below (g := gb418) (o := .cells #[.slice Ao23 t411.length co23, .slice Ao26 t414.length co26, .int .i64 t417] 46 (0, 0)) (by (with_reducible repeat (first | refine blk_drewN ?_ _ | refine blk_drew ?_ | refine blk_alloc ?_ _)); exact BK418.out) hb)
         have n16_ := Aside0.mk (blk_below (g := gb429) (o := .cells #[.slice Ao30 t419.length co30, .slice Ao34 t422.length co34, .int .i64 t425] 46 (0, 0)) (by (with_reducible repeat (first | refine blk_drewN ?_ _ | refine blk_drew ?_ | refine blk_alloc ?_ _)); exact BK429.out) hb)
         have n17_ := Aside0.mk (blk_below (g := gb440) (o := .cells #[.slice Ao38 t430.length co38, .slice Ao43 t433.length co43, .int .i64 t436] 46 (0, 0)) (by (with_reducible repeat (first | refine blk_drewN ?_ _ | refine blk_drew ?_ | refine blk_alloc ?_ _)); exact BK440.out) hb)
         have n18_ := Aside0.mk (below_step (by repeat (first | (with_reducible first | exact HB.out | apply below_alloc | apply pw_below_drewN | apply below_drew1 | refine below_set ?_ GE401.out | refine below_set ?_ GE418.out | refine below_set ?_ GE429.out | refine below_set ?_ GE440.out) | exact HB.out)) hb)
         have n19_ := Aside0.mk (hbox)
         have n20_ := Aside0.mk ((by rw [hg]; exact (below_size (by repeat (first | (with_reducible first | exact HB.out | apply below_alloc | apply pw_below_drewN | apply below_drew1 | refine below_set ?_ GE401.out | refine below_set ?_ GE418.out | refine below_set ?_ GE429.out | refine below_set ?_ GE440.out) | exact HB.out))) : w.heap.size ≤ gb457))
         have n21_ := Aside0.mk ((by rw [hg]; exact (below_size (by repeat (first | (with_reducible first | exact HB.out | apply below_alloc | apply pw_below_drewN | apply below_drew1 | refine below_set ?_ GE401.out | refine below_set ?_ GE418.out | refine below_set ?_ GE429.out | refine below_set ?_ GE440.out) | exact HB.out))) : w.heap.size ≤ gb457))
         have n22_ := Aside0.mk ((by rw [hg]; exact Nat.ne_of_lt (blk_lt (g := gb401) (o := .cells #[.slice Ao13 t394.length co13, .slice Ao15 t397.length co15, .int .i64 t400] 46 (0, 0)) (by (with_reducible repeat (first | refine blk_drewN ?_ _ | refine blk_drew ?_ | refine blk_alloc ?_ _)); exact BK401.out)) : gb401 ≠ gb457))
         have n23_ := Aside0.mk ((by rw [hg]; exact Nat.ne_of_gt (blk_lt (g := gb401) (o := .cells #[.slice Ao13 t394.length co13, .slice Ao15 t397.length co15, .int .i64 t400] 46 (0, 0)) (by (with_reducible repeat (first | refine blk_drewN ?_ _ | refine blk_drew ?_ | refine blk_alloc ?_ _)); exact BK401.out)) : gb457 ≠ gb401))
         have n24_ := Aside0.mk ((by rw [hg]; exact Nat.ne_of_lt (blk_lt (g := gb418) (o := .cells #[.slice Ao23 t411.length co23, .slice Ao26 t414.length co26, .int .i64 t417] 46 (0, 0)) (by (with_reducible repeat (first | refine blk_drewN ?_ _ | refine blk_drew ?_ | refine blk_alloc ?_ _)); exact BK418.out)) : gb418 ≠ gb457))
         have n25_ := Aside0.mk ((by rw [hg]; exact Nat.ne_of_gt (blk_lt (g := gb418) (o := .cells #[.slice Ao23 t411.length co23, .slice Ao26 t414.length co26, .int .i64 t417] 46 (0, 0)) (by (with_reducible repeat (first | refine blk_drewN ?_ _ | refine blk_drew ?_ | refine blk_alloc ?_ _)); exact BK418.out)) : gb457 ≠ gb418))
         have n26_ := Aside0.mk ((by rw [hg]; exact Nat.ne_of_lt (blk_lt (g := gb429) (o := .cells #[.slice Ao30 t419.length co30, .slice Ao34 t422.length co34, .int .i64 t425] 46 (0, 0)) (by (with_reducible repeat (first | refine blk_drewN ?_ _ | refine blk_drew ?_ | refine blk_alloc ?_ _)); exact BK429.out)) : gb429 ≠ gb457))
         have n27_ := Aside0.mk ((by rw [hg]; exact Nat.ne_of_gt (blk_lt (g := gb429) (o := .cells #[.slice Ao30 t419.length co30, .slice Ao34 t422.length co34, .int .i64 t425] 46 (0, 0)) (by (with_reducible repeat (first | refine blk_drewN ?_ _ | refine blk_drew ?_ | refine blk_alloc ?_ _)); exact BK429.out)) : gb457 ≠ gb429))
         have n28_ := Aside0.mk ((by rw [hg]; exact Nat.ne_of_lt (blk_lt (g := gb440) (o := .cells #[.slice Ao38 t430.length co38, .slice Ao43 t433.length co43, .int .i64 t436] 46 (0, 0)) (by (with_reducible repeat (first | refine blk_drewN ?_ _ | refine blk_drew ?_ | refine blk_alloc ?_ _)); exact BK440.out)) : gb440 ≠ gb457))
         have n29_ := Aside0.mk ((by rw [hg]; exact Nat.ne_of_gt (blk_lt (g := gb440) (o := .cells #[.slice Ao38 t430.length co38, .slice Ao43 t433.length co43, .int .i64 t436] 46 (0, 0)) (by (with_reducible repeat (first | refine blk_drewN ?_ _ | refine blk_drew ?_ | refine blk_alloc ?_ _)); exact BK440.out)) : gb457 ≠ gb440))
         clear HO_4
         clear HO_7
         clear HO_11
         clear HO_13
         clear HO_402000
         clear HO_402001
         clear HO_419000
         clear HO_419001
         clear HO_430000
         clear HO_430001
         clear HO_441000
         clear HO_441001
         clear HO445
         clear HO449
         clear BK401
         clear BK418
         clear BK429
         clear BK440
         clear HB
         have HO_4 := n0_
         have HO_7 := n1_
         have HO_11 := n2_
         have HO_13 := n3_
         have HO_402000 := n4_
         have HO_402001 := n5_
         have HO_419000 := n6_
         have HO_419001 := n7_
         have HO_430000 := n8_
         have HO_430001 := n9_
         have HO_441000 := n10_
         have HO_441001 := n11_
         have HO445 := n12_
         have HO449 := n13_
         have BK401 := n14_
         have BK418 := n15_
         have BK429 := n16_
         have BK440 := n17_
         have HB := n18_
         have BK457 := n19_
         have GW457 := n20_
         have GE457 := n21_
         have NB401_457 := n22_
         have NB457_401 := n23_
         have NB418_457 := n24_
         have NB457_418 := n25_
         have NB429_457 := n26_
         have NB457_429 := n27_
         have NB440_457 := n28_
         have NB457_440 := n29_
         clear n0_ n1_ n2_ n3_ n4_ n5_ n6_ n7_ n8_ n9_ n10_ n11_ n12_ n13_ n14_ n15_ n16_ n17_ n18_ n19_ n20_ n21_ n22_ n23_ n24_ n25_ n26_ n27_ n28_ n29_
         clear hb hbox hg
         obtain ⟨Ao78, co78, eo78⟩ := Kd.R_slice HO449.out
         (first | subst eo78 | (injection eo78 with f1_ f2_ f3_; have f4_ := f1_.symm; have f5_ := f3_.symm; clear f1_ f2_ f3_; subst f4_; subst f5_))
         refine hK.out _ _ ⟨(blk_cell BK401.out 0).trans rfl, (blk_cell BK401.out 1).trans rfl, (blk_cell BK401.out 2).trans rfl, HS3_⟩ (fun hHeld => ?_)
         clear hK K
         refine norm_ (a' := ?_) ?_ ?_
         rotate_left
         ·
          show Act.put _ (some 16) _ = _
          simp only [Act.put, List.setIfInBounds_toArray, List.set_cons_zero, List.set_cons_succ, i64_w, i32_w]
          rfl
         refine one_ (i := 6) (N := some 75) #[true, true, true, true, true, true, true, true, false] rfl rfl (one_of HT_.out (by kernel_rfl)) (by decide) (fun K hK => ?_)
         refine goes_ Try.func25 (by kernel_rfl) rfl #[.agg #[.slice Ao13 t394.length co13, .slice Ao15 t397.length co15, .int .i64 t400], .slice Ao78 y447.length co78] (by rfl) rfl rfl (by (try simp only [List.map_toArray, List.map_cons, List.map_nil]); first | done | rfl | (simp only [List.length_drop, List.length_take]; rfl)) ?_
         with_reducible refine (impl_AckedBy.calls k1 _ _ t394 _ _ t397 t400 _ _ y447 t450 t453 t456 _ ?side1 ?side2 ?side3 ?side4 ?side5 ?side6 A53.out).mono ?_
         (case side1 => repeat (first | exact (Kd.R_reads' HO_402000.out).2.2 | (with_reducible refine Kd.C_alloc ?_ _) | (with_reducible refine Kd.C_drewN ?_ _) | (with_reducible refine Kd.C_drew ?_)))
         (case side2 => exact (Kd.R_reads' HO_402000.out).2.1)
         (case side3 => repeat (first | exact (Kd.R_reads' HO_402001.out).2.2 | (with_reducible refine Kd.C_alloc ?_ _) | (with_reducible refine Kd.C_drewN ?_ _) | (with_reducible refine Kd.C_drew ?_)))
         (case side4 => exact (Kd.R_reads' HO_402001.out).2.1)
         (case side5 => repeat (first | exact (Kd.R_reads' HO449.out).2.2 | (with_reducible refine Kd.C_alloc ?_ _) | (with_reducible refine Kd.C_drewN ?_ _) | (with_reducible refine Kd.C_drew ?_)))
         (case side6 => exact (Kd.R_reads' HO449.out).2.1)
         rintro e w79 ⟨v451, v454, rfl, ho0, ho1, hb⟩
         have HS3_ := (hb.cell (World.block_lt_of_cell? _ _ (hHeld.2.2.2))).trans (hHeld.2.2.2)
         refine ⟨_, rfl, ?_⟩
         have n0_ := Aside0.mk (Kd.R_below (by (with_reducible repeat (first | apply Kd.R_alloc | apply Kd.R_drewN | apply Kd.R_drew)); exact HO_4.out) hb)
         have n1_ := Aside0.mk (Kd.R_below (by (with_reducible repeat (first | apply Kd.R_alloc | apply Kd.R_drewN | apply Kd.R_drew)); exact HO_7.out) hb)
         have n2_ := Aside0.mk (Kd.R_below (by (with_reducible repeat (first | apply Kd.R_alloc | apply Kd.R_drewN | apply Kd.R_drew)); exact HO_11.out) hb)
         have n3_ := Aside0.mk (Kd.R_below (by (with_reducible repeat (first | apply Kd.R_alloc | apply Kd.R_drewN | apply Kd.R_drew)); exact HO_13.out) hb)
         have n4_ := Aside0.mk (Kd.R_below (by (with_reducible repeat (first | apply Kd.R_alloc | apply Kd.R_drewN | apply Kd.R_drew)); exact HO_402000.out) hb)
         have n5_ := Aside0.mk (Kd.R_below (by (with_reducible repeat (first | apply Kd.R_alloc | apply Kd.R_drewN | apply Kd.R_drew)); exact HO_402001.out) hb)
         have n6_ := Aside0.mk (Kd.R_below (by (with_reducible repeat (first | apply Kd.R_alloc | apply Kd.R_drewN | apply Kd.R_drew)); exact HO_419000.out) hb)
         have n7_ := Aside0.mk (Kd.R_below (by (with_reducible repeat (first | apply Kd.R_alloc | apply Kd.R_drewN | apply Kd.R_drew)); exact HO_419001.out) hb)
         have n8_ := Aside0.mk (Kd.R_below (by (with_reducible repeat (first | apply Kd.R_alloc | apply Kd.R_drewN | apply Kd.R_drew)); exact HO_430000.out) hb)
         have n9_ := Aside0.mk (Kd.R_below (by (with_reducible repeat (first | apply Kd.R_alloc | apply Kd.R_drewN | apply Kd.R_drew)); exact HO_430001.out) hb)
         have n10_ := Aside0.mk (Kd.R_below (by (with_reducible repeat (first | apply Kd.R_alloc | apply Kd.R_drewN | apply Kd.R_drew)); exact HO_441000.out) hb)
         have n11_ := Aside0.mk (Kd.R_below (by (with_reducible repeat (first | apply Kd.R_alloc | apply Kd.R_drewN | apply Kd.R_drew)); exact HO_441001.out) hb)
         have n12_ := Aside0.mk (Kd.R_below (by (with_reducible repeat (first | apply Kd.R_alloc | apply Kd.R_drewN | apply Kd.R_drew)); exact HO445.out) hb)
         have n13_ := Aside0.mk (Kd.R_below (by (with_reducible repeat (first | apply Kd.R_alloc | apply Kd.R_drewN | apply Kd.R_drew)); exact HO449.out) hb)
         have n14_ := Aside0.mk (Kd.R_lower (Kd.R_mono (ok' := fun _ => True) ho0 (fun _ _ => trivial)) (below_size (by repeat (first | (with_reducible first | exact HB.out | apply below_alloc | apply pw_below_drewN | apply below_drew1 | refine below_set ?_ GE401.out | refine below_set ?_ GE418.out | refine below_set ?_ GE429.out | refine below_set ?_ GE440.out | refine below_set ?_ GE457.out) | exact HB.out))))
         have n15_ := Aside0.mk (Kd.R_lower (Kd.R_mono (ok' := fun _ => True) ho1 (fun _ _ => trivial)) (below_size (by repeat (first | (with_reducible first | exact HB.out | apply below_alloc | apply pw_below_drewN | apply below_drew1 | refine below_set ?_ GE401.out | refine below_set ?_ GE418.out | refine below_set ?_ GE429.out | refine below_set ?_ GE440.out | refine below_set ?_ GE457.out) | exact HB.out))))
         have n16_ := Aside0.mk (blk_below (g := gb401) (o := .cells #[.slice Ao13 t394.length co13, .slice Ao15 t397.length co15, .int .i64 t400] 46 (0, 0)) (by (with_reducible repeat (first | refine blk_drewN ?_ _ | refine blk_drew ?_ | refine blk_alloc ?_ _)); exact BK401.out) hb)
         have n17_ := Aside0.mk (blk_below (g := gb418) (o := .cells #[.slice Ao23 t411.length co23, .slice Ao26 t414.length co26, .int .i64 t417] 46 (0, 0)) (by (with_reducible repeat (first | refine blk_drewN ?_ _ | refine blk_drew ?_ | refine blk_alloc ?_ _)); exact BK418.out) hb)
         have n18_ := Aside0.mk (blk_below (g := gb429) (o := .cells #[.slice Ao30 t419.length co30, .slice Ao34 t422.length co34, .int .i64 t425] 46 (0, 0)) (by (with_reducible repeat (first | refine blk_drewN ?_ _ | refine blk_drew ?_ | refine blk_alloc ?_ _)); exact BK429.out) hb)
         have n19_ := Aside0.mk (blk_below (g := gb440) (o := .cells #[.slice Ao38 t430.length co38, .slice Ao43 t433.length co43, .int .i64 t436] 46 (0, 0)) (by (with_reducible repeat (first | refine blk_drewN ?_ _ | refine blk_drew ?_ | refine blk_alloc ?_ _)); exact BK440.out) hb)
         have n20_ := Aside0.mk (blk_below (g := gb457) (o := .cells #[.slice none 0 0, .slice none 0 0, .int .i64 0] 46 (0, 0)) (by (with_reducible repeat (first | refine blk_drewN ?_ _ | refine blk_drew ?_ | refine blk_alloc ?_ _)); exact BK457.out) hb)
         have n21_ := Aside0.mk (below_step (by repeat (first | (with_reducible first | exact HB.out | apply below_alloc | apply pw_below_drewN | apply below_drew1 | refine below_set ?_ GE401.out | refine below_set ?_ GE418.out | refine below_set ?_ GE429.out | refine below_set ?_ GE440.out | refine below_set ?_ GE457.out) | exact HB.out)) hb)
         clear HO_4
         clear HO_7
         clear HO_11
         clear HO_13
         clear HO_402000
         clear HO_402001
         clear HO_419000
         clear HO_419001
         clear HO_430000
         clear HO_430001
         clear HO_441000
         clear HO_441001
         clear HO445
         clear HO449
         clear BK401
         clear BK418
         clear BK429
         clear BK440
         clear BK457
         clear HB
         have HO_4 := n0_
         have HO_7 := n1_
         have HO_11 := n2_
         have HO_13 := n3_
         have HO_402000 := n4_
         have HO_402001 := n5_
         have HO_419000 := n6_
         have HO_419001 := n7_
         have HO_430000 := n8_
         have HO_430001 := n9_
         have HO_441000 := n10_
         have HO_441001 := n11_
         have HO445 := n12_
         have HO449 := n13_
         have HO452 := n14_
         have HO455 := n15_
         have BK401 := n16_
         have BK418 := n17_
         have BK429 := n18_
         have BK440 := n19_
         have BK457 := n20_
         have HB := n21_
         clear n0_ n1_ n2_ n3_ n4_ n5_ n6_ n7_ n8_ n9_ n10_ n11_ n12_ n13_ n14_ n15_ n16_ n17_ n18_ n19_ n20_ n21_
         (try clear hb)
         (try clear hb2)
         (try clear hk)
         (try clear hi)
         (try clear ho0)
         (try clear ho1)
         refine hK.out _ _ ⟨(blk_cell BK401.out 0).trans rfl, (blk_cell BK401.out 1).trans rfl, (blk_cell BK401.out 2).trans rfl, HS3_⟩ (fun hHeld => ?_)
         clear hK K
         refine norm_ (a' := ?_) ?_ ?_
         rotate_left
         ·
          show Act.put _ (some 75) _ = _
          simp only [Act.put, List.setIfInBounds_toArray, List.set_cons_zero, List.set_cons_succ, i64_w, i32_w]
          rfl
         exact norm_ (by simp only [putAll, Act.put, List.setIfInBounds_toArray, List.set_cons_zero, List.set_cons_succ]) (hCont (.slice Ao78 y447.length co78, v451, v454, gb457) _ ⟨hHeld, (by (with_reducible repeat (first | apply Kd.R_alloc | apply Kd.R_drewN | apply Kd.R_drew)); exact HO445.out), (by (with_reducible repeat (first | apply Kd.R_alloc | apply Kd.R_drewN | apply Kd.R_drew)); exact HO449.out), (by (with_reducible repeat (first | apply Kd.R_alloc | apply Kd.R_drewN | apply Kd.R_drew)); exact HO452.out), (by (with_reducible repeat (first | apply Kd.R_alloc | apply Kd.R_drewN | apply Kd.R_drew)); exact HO455.out), (by (with_reducible repeat (first | apply Kd.R_alloc | apply Kd.R_drewN | apply Kd.R_drew)); exact HO_11.out), (by (with_reducible repeat (first | apply Kd.R_alloc | apply Kd.R_drewN | apply Kd.R_drew)); exact HO_13.out), (by (with_reducible repeat (first | apply Kd.R_alloc | apply Kd.R_drewN | apply Kd.R_drew)); exact HO_4.out), (by (with_reducible repeat (first | apply Kd.R_alloc | apply Kd.R_drewN | apply Kd.R_drew)); exact HO_402000.out), (by (with_reducible repeat (first | apply Kd.R_alloc | apply Kd.R_drewN | apply Kd.R_drew)); exact HO_402001.out), (by (with_reducible repeat (first | apply Kd.R_alloc | apply Kd.R_drewN | apply Kd.R_drew)); exact HO_419000.out), (by (with_reducible repeat (first | apply Kd.R_alloc | apply Kd.R_drewN | apply Kd.R_drew)); exact HO_419001.out), (by (with_reducible repeat (first | apply Kd.R_alloc | apply Kd.R_drewN | apply Kd.R_drew)); exact HO_430000.out), (by (with_reducible repeat (first | apply Kd.R_alloc | apply Kd.R_drewN | apply Kd.R_drew)); exact HO_430001.out), (by (with_reducible repeat (first | apply Kd.R_alloc | apply Kd.R_drewN | apply Kd.R_drew)); exact HO_441000.out), (by (with_reducible repeat (first | apply Kd.R_alloc | apply Kd.R_drewN | apply Kd.R_drew)); exact HO_441001.out), (by (with_reducible repeat (first | apply Kd.R_alloc | apply Kd.R_drewN | apply Kd.R_drew)); exact HO_7.out), (by (with_reducible repeat (first | refine blk_drewN ?_ _ | refine blk_drew ?_ | refine blk_alloc ?_ _)); exact BK401.out), (by (with_reducible repeat (first | refine blk_drewN ?_ _ | refine blk_drew ?_ | refine blk_alloc ?_ _)); exact BK418.out), (by (with_reducible repeat (first | refine blk_drewN ?_ _ | refine blk_drew ?_ | refine blk_alloc ?_ _)); exact BK429.out), (by (with_reducible repeat (first | refine blk_drewN ?_ _ | refine blk_drew ?_ | refine blk_alloc ?_ _)); exact BK440.out), (by (with_reducible repeat (first | refine blk_drewN ?_ _ | refine blk_drew ?_ | refine blk_alloc ?_ _)); exact BK457.out), GW457.out, GE457.out, NB401_457.out, NB457_401.out, NB418_457.out, NB457_418.out, NB429_457.out, NB457_429.out, NB440_457.out, NB457_440.out, (by repeat (first | (with_reducible first | exact HB.out | apply below_alloc | apply pw_below_drewN | apply below_drew1 | refine below_set ?_ GE401.out | refine below_set ?_ GE418.out | refine below_set ?_ GE429.out | refine below_set ?_ GE440.out | refine below_set ?_ GE457.out) | exact HB.out))⟩)
       ·
        skip
        refine box_step ?hg (N := 16) ?hd (cs := #[.slice none 0 0, .slice none 0 0, .int .i64 0]) (t := 46) ?hr ?_; (case hd => rfl); (case hg => rfl); (case hr => first | (go_simp; done) | (go_simp; rfl))
        intro gb457 hg w75 hbox hb
        have HS3_ := (hb.cell (World.block_lt_of_cell? _ _ (hHeld.2.2.2))).trans (hHeld.2.2.2)
        have n0_ := Aside0.mk (Kd.R_below (by (with_reducible repeat (first | apply Kd.R_alloc | apply Kd.R_drewN | apply Kd.R_drew)); exact HO_4.out) hb)
        have n1_ := Aside0.mk (Kd.R_below (by (with_reducible repeat (first | apply Kd.R_alloc | apply Kd.R_drewN | apply Kd.R_drew)); exact HO_7.out) hb)
        have n2_ := Aside0.mk (Kd.R_below (by (with_reducible repeat (first | apply Kd.R_alloc | apply Kd.R_drewN | apply Kd.R_drew)); exact HO_11.out) hb)
        have n3_ := Aside0.mk (Kd.R_below (by (with_reducible repeat (first | apply Kd.R_alloc | apply Kd.R_drewN | apply Kd.R_drew)); exact HO_13.out) hb)
        have n4_ := Aside0.mk (Kd.R_below (by (with_reducible repeat (first | apply Kd.R_alloc | apply Kd.R_drewN | apply Kd.R_drew)); exact HO_402000.out) hb)
        have n5_ := Aside0.mk (Kd.R_below (by (with_reducible repeat (first | apply Kd.R_alloc | apply Kd.R_drewN | apply Kd.R_drew)); exact HO_402001.out) hb)
        have n6_ := Aside0.mk (Kd.R_below (by (with_reducible repeat (first | apply Kd.R_alloc | apply Kd.R_drewN | apply Kd.R_drew)); exact HO_419000.out) hb)
        have n7_ := Aside0.mk (Kd.R_below (by (with_reducible repeat (first | apply Kd.R_alloc | apply Kd.R_drewN | apply Kd.R_drew)); exact HO_419001.out) hb)
        have n8_ := Aside0.mk (Kd.R_below (by (with_reducible repeat (first | apply Kd.R_alloc | apply Kd.R_drewN | apply Kd.R_drew)); exact HO_430000.out) hb)
        have n9_ := Aside0.mk (Kd.R_below (by (with_reducible repeat (first | apply Kd.R_alloc | apply Kd.R_drewN | apply Kd.R_drew)); exact HO_430001.out) hb)
        have n10_ := Aside0.mk (Kd.R_below (by (with_reducible repeat (first | apply Kd.R_alloc | apply Kd.R_drewN | apply Kd.R_drew)); exact HO_441000.out) hb)
        have n11_ := Aside0.mk (Kd.R_below (by (with_reducible repeat (first | apply Kd.R_alloc | apply Kd.R_drewN | apply Kd.R_drew)); exact HO_441001.out) hb)
        have n12_ := Aside0.mk (Kd.R_below (by (with_reducible repeat (first | apply Kd.R_alloc | apply Kd.R_drewN | apply Kd.R_drew)); exact HO445.out) hb)
        have n13_ := Aside0.mk (blk_below (g := gb401) (o := .cells #[.slice Ao13 t394.length co13, .slice Ao15 t397.length co15, .int .i64 t400] 46 (0, 0)) (by (with_reducible repeat (first | refine blk_drewN ?_ _ | refine blk_drew ?_ | refine blk_alloc ?_ _)); exact BK401.out) hb)
        have n14_ := Aside0.mk (blk_below (g := gb418) (o := .cells #[.slice Ao23 t411.length co23, .slice Ao26 t414.length co26, .int .i64 t417] 46 (0, 0)) (by (with_reducible repeat (first | refine blk_drewN ?_ _ | refine blk_drew ?_ | refine blk_alloc ?_ _)); exact BK418.out) hb)
        have n15_ := Aside0.mk (blk_below (g := gb429) (o := .cells #[.slice Ao30 t419.length co30, .slice Ao34 t422.length co34, .int .i64 t425] 46 (0, 0)) (by (with_reducible repeat (first | refine blk_drewN ?_ _ | refine blk_drew ?_ | refine blk_alloc ?_ _)); exact BK429.out) hb)
        have n16_ := Aside0.mk (blk_below (g := gb440) (o := .cells #[.slice Ao38 t430.length co38, .slice Ao43 t433.length co43, .int .i64 t436] 46 (0, 0)) (by (with_reducible repeat (first | refine blk_drewN ?_ _ | refine blk_drew ?_ | refine blk_alloc ?_ _)); exact BK440.out) hb)
        have n17_ := Aside0.mk (below_step (by repeat (first | (with_reducible first | exact HB.out | apply below_alloc | apply pw_below_drewN | apply below_drew1 | refine below_set ?_ GE401.out | refine below_set ?_ GE418.out | refine below_set ?_ GE429.out | refine below_set ?_ GE440.out) | exact HB.out)) hb)
        have n18_ := Aside0.mk (hbox)
        have n19_ := Aside0.mk ((by rw [hg]; exact (below_size (by repeat (first | (with_reducible first | exact HB.out | apply below_alloc | apply pw_below_drewN | apply below_drew1 | refine below_set ?_ GE401.out | refine below_set ?_ GE418.out | refine below_set ?_ GE429.out | refine below_set ?_ GE440.out) | exact HB.out))) : w.heap.size ≤ gb457))
        have n20_ := Aside0.mk ((by rw [hg]; exact (below_size (by repeat (first | (with_reducible first | exact HB.out | apply below_alloc | apply pw_below_drewN | apply below_drew1 | refine below_set ?_ GE401.out | refine below_set ?_ GE418.out | refine below_set ?_ GE429.out | refine below_set ?_ GE440.out) | exact HB.out))) : w.heap.size ≤ gb457))
        have n21_ := Aside0.mk ((by rw [hg]; exact Nat.ne_of_lt (blk_lt (g := gb401) (o := .cells #[.slice Ao13 t394.length co13, .slice Ao15 t397.length co15, .int .i64 t400] 46 (0, 0)) (by (with_reducible repeat (first | refine blk_drewN ?_ _ | refine blk_drew ?_ | refine blk_alloc ?_ _)); exact BK401.out)) : gb401 ≠ gb457))
        have n22_ := Aside0.mk ((by rw [hg]; exact Nat.ne_of_gt (blk_lt (g := gb401) (o := .cells #[.slice Ao13 t394.length co13, .slice Ao15 t397.length co15, .int .i64 t400] 46 (0, 0)) (by (with_reducible repeat (first | refine blk_drewN ?_ _ | refine blk_drew ?_ | refine blk_alloc ?_ _)); exact BK401.out)) : gb457 ≠ gb401))
        have n23_ := Aside0.mk ((by rw [hg]; exact Nat.ne_of_lt (blk_lt (g := gb418) (o := .cells #[.slice Ao23 t411.length co23, .slice Ao26 t414.length co26, .int .i64 t417] 46 (0, 0)) (by (with_reducible repeat (first | refine blk_drewN ?_ _ | refine blk_drew ?_ | refine blk_alloc ?_ _)); exact BK418.out)) : gb418 ≠ gb457))
        have n24_ := Aside0.mk ((by rw [hg]; exact Nat.ne_of_gt (blk_lt (g := gb418) (o := .cells #[.slice Ao23 t411.length co23, .slice Ao26 t414.length co26, .int .i64 t417] 46 (0, 0)) (by (with_reducible repeat (first | refine blk_drewN ?_ _ | refine blk_drew ?_ | refine blk_alloc ?_ _)); exact BK418.out)) : gb457 ≠ gb418))
        have n25_ := Aside0.mk ((by rw [hg]; exact Nat.ne_of_lt (blk_lt (g := gb429) (o := .cells #[.slice Ao30 t419.length co30, .slice Ao34 t422.length co34, .int .i64 t425] 46 (0, 0)) (by (with_reducible repeat (first | refine blk_drewN ?_ _ | refine blk_drew ?_ | refine blk_alloc ?_ _)); exact BK429.out)) : gb429 ≠ gb457))
        have n26_ := Aside0.mk ((by rw [hg]; exact Nat.ne_of_gt (blk_lt (g := gb429) (o := .cells #[.slice Ao30 t419.length co30, .slice Ao34 t422.length co34, .int .i64 t425] 46 (0, 0)) (by (with_reducible repeat (first | refine blk_drewN ?_ _ | refine blk_drew ?_ | refine blk_alloc ?_ _)); exact BK429.out)) : gb457 ≠ gb429))
        have n27_ := Aside0.mk ((by rw [hg]; exact Nat.ne_of_lt (blk_lt (g := gb440) (o := .cells #[.slice Ao38 t430.length co38, .slice Ao43 t433.length co43, .int .i64 t436] 46 (0, 0)) (by (with_reducible repeat (first | refine blk_drewN ?_ _ | refine blk_drew ?_ | refine blk_alloc ?_ _)); exact BK440.out)) : gb440 ≠ gb457))
        have n28_ := Aside0.mk ((by rw [hg]; exact Nat.ne_of_gt (blk_lt (g := gb440) (o := .cells #[.slice Ao38 t430.length co38, .slice Ao43 t433.length co43, .int .i64 t436] 46 (0, 0)) (by (with_reducible repeat (first | refine blk_drewN ?_ _ | refine blk_drew ?_ | refine blk_alloc ?_ _)); exact BK440.out)) : gb457 ≠ gb440))
        clear HO_4
        clear HO_7
        clear HO_11
        clear HO_13
        clear HO_402000
        clear HO_402001
        clear HO_419000
        clear HO_419001
        clear HO_430000
        clear HO_430001
        clear HO_441000
        clear HO_441001
        clear HO445
        clear BK401
        clear BK418
        clear BK429
        clear BK440
        clear HB
        have HO_4 := n0_
        have HO_7 := n1_
        have HO_11 := n2_
        have HO_13 := n3_
        have HO_402000 := n4_
        have HO_402001 := n5_
        have HO_419000 := n6_
        have HO_419001 := n7_
        have HO_430000 := n8_
        have HO_430001 := n9_
        have HO_441000 := n10_
        have HO_441001 := n11_
        have HO445 := n12_
        have BK401 := n13_
        have BK418 := n14_
        have BK429 := n15_
        have BK440 := n16_
        have HB := n17_
        have BK457 := n18_
        have GW457 := n19_
        have GE457 := n20_
        have NB401_457 := n21_
        have NB457_401 := n22_
        have NB418_457 := n23_
        have NB457_418 := n24_
        have NB429_457 := n25_
        have NB457_429 := n26_
        have NB440_457 := n27_
        have NB457_440 := n28_
        clear n0_ n1_ n2_ n3_ n4_ n5_ n6_ n7_ n8_ n9_ n10_ n11_ n12_ n13_ n14_ n15_ n16_ n17_ n18_ n19_ n20_ n21_ n22_ n23_ n24_ n25_ n26_ n27_ n28_
        clear hb hbox hg
        refine hK.out _ _ ⟨(blk_cell BK401.out 0).trans rfl, (blk_cell BK401.out 1).trans rfl, (blk_cell BK401.out 2).trans rfl, HS3_⟩ (fun hHeld => ?_)
        clear hK K
        refine norm_ (a' := ?_) ?_ ?_
        rotate_left
        ·
         show Act.put _ (some 16) _ = _
         simp only [Act.put, List.setIfInBounds_toArray, List.set_cons_zero, List.set_cons_succ, i64_w, i32_w]
         rfl
        refine one_ (i := 5) (N := some 74) #[true, true, true, true, true, true, false, true, false] rfl rfl (one_of HT_.out (by kernel_rfl)) (by decide) (fun K hK => ?_)
        refine Kd.R_lit_step (Kd.int .i64) _ 3 ?hg (N := 74) ?hd (xs := ([Int.tmod (rd t443 0) 4] : List Int)) (inner := [.int .i64 (Int.tmod (rd t443 0) 4)]) (ok := fun _ => True) (okp := fun _ => True) ?hr ?hp (fun _ hk => hk) trivial (Below.refl _ _) (Nat.le_refl _) (by simp) ?_; (case hd => rfl); (case hg => rfl); (case hr => first | (go_simp; done) | (go_simp; rfl)); (case hp => exact (Reps.one (show Kd.M (Kd.int .i64) _ _ _ (Int.tmod (rd t443 0) 4) [.int .i64 (Int.tmod (rd t443 0) 4)] from rfl) (Reps.none _ _)))
        intro v448 w76 ho77 hb hg_ hnew_
        have HS3_ := (hb.cell (World.block_lt_of_cell? _ _ (hHeld.2.2.2))).trans (hHeld.2.2.2)
        clear hg_ hnew_
        (first | rw [← Ny447.out] at ho77 | (simp only [Int.reduceToNat] at ho77; rw [← Ny447.out] at ho77))
        have n0_ := Aside0.mk (Kd.R_below (by (with_reducible repeat (first | apply Kd.R_alloc | apply Kd.R_drewN | apply Kd.R_drew)); exact HO_4.out) hb)
        have n1_ := Aside0.mk (Kd.R_below (by (with_reducible repeat (first | apply Kd.R_alloc | apply Kd.R_drewN | apply Kd.R_drew)); exact HO_7.out) hb)
        have n2_ := Aside0.mk (Kd.R_below (by (with_reducible repeat (first | apply Kd.R_alloc | apply Kd.R_drewN | apply Kd.R_drew)); exact HO_11.out) hb)
        have n3_ := Aside0.mk (Kd.R_below (by (with_reducible repeat (first | apply Kd.R_alloc | apply Kd.R_drewN | apply Kd.R_drew)); exact HO_13.out) hb)
        have n4_ := Aside0.mk (Kd.R_below (by (with_reducible repeat (first | apply Kd.R_alloc | apply Kd.R_drewN | apply Kd.R_drew)); exact HO_402000.out) hb)
        have n5_ := Aside0.mk (Kd.R_below (by (with_reducible repeat (first | apply Kd.R_alloc | apply Kd.R_drewN | apply Kd.R_drew)); exact HO_402001.out) hb)
        have n6_ := Aside0.mk (Kd.R_below (by (with_reducible repeat (first | apply Kd.R_alloc | apply Kd.R_drewN | apply Kd.R_drew)); exact HO_419000.out) hb)
        have n7_ := Aside0.mk (Kd.R_below (by (with_reducible repeat (first | apply Kd.R_alloc | apply Kd.R_drewN | apply Kd.R_drew)); exact HO_419001.out) hb)
        have n8_ := Aside0.mk (Kd.R_below (by (with_reducible repeat (first | apply Kd.R_alloc | apply Kd.R_drewN | apply Kd.R_drew)); exact HO_430000.out) hb)
        have n9_ := Aside0.mk (Kd.R_below (by (with_reducible repeat (first | apply Kd.R_alloc | apply Kd.R_drewN | apply Kd.R_drew)); exact HO_430001.out) hb)
        have n10_ := Aside0.mk (Kd.R_below (by (with_reducible repeat (first | apply Kd.R_alloc | apply Kd.R_drewN | apply Kd.R_drew)); exact HO_441000.out) hb)
        have n11_ := Aside0.mk (Kd.R_below (by (with_reducible repeat (first | apply Kd.R_alloc | apply Kd.R_drewN | apply Kd.R_drew)); exact HO_441001.out) hb)
        have n12_ := Aside0.mk (Kd.R_below (by (with_reducible repeat (first | apply Kd.R_alloc | apply Kd.R_drewN | apply Kd.R_drew)); exact HO445.out) hb)
        have n13_ := Aside0.mk (Kd.R_lower (Kd.R_mono (ok' := fun _ => True) ho77 (fun _ _ => trivial)) (below_size (by repeat (first | (with_reducible first | exact HB.out | apply below_alloc | apply pw_below_drewN | apply below_drew1 | refine below_set ?_ GE401.out | refine below_set ?_ GE418.out | refine below_set ?_ GE429.out | refine below_set ?_ GE440.out | refine below_set ?_ GE457.out) | exact HB.out))))
        have n14_ := Aside0.mk (blk_below (g := gb401) (o := .cells #[.slice Ao13 t394.length co13, .slice Ao15 t397.length co15, .int .i64 t400] 46 (0, 0)) (by (with_reducible repeat (first | refine blk_drewN ?_ _ | refine blk_drew ?_ | refine blk_alloc ?_ _)); exact BK401.out) hb)
        have n15_ := Aside0.mk (blk_below (g := gb418) (o := .cells #[.slice Ao23 t411.length co23, .slice Ao26 t414.length co26, .int .i64 t417] 46 (0, 0)) (by (with_reducible repeat (first | refine blk_drewN ?_ _ | refine blk_drew ?_ | refine blk_alloc ?_ _)); exact BK418.out) hb)
        have n16_ := Aside0.mk (blk_below (g := gb429) (o := .cells #[.slice Ao30 t419.length co30, .slice Ao34 t422.length co34, .int .i64 t425] 46 (0, 0)) (by (with_reducible repeat (first | refine blk_drewN ?_ _ | refine blk_drew ?_ | refine blk_alloc ?_ _)); exact BK429.out) hb)
        have n17_ := Aside0.mk (blk_below (g := gb440) (o := .cells #[.slice Ao38 t430.length co38, .slice Ao43 t433.length co43, .int .i64 t436] 46 (0, 0)) (by (with_reducible repeat (first | refine blk_drewN ?_ _ | refine blk_drew ?_ | refine blk_alloc ?_ _)); exact BK440.out) hb)
        have n18_ := Aside0.mk (blk_below (g := gb457) (o := .cells #[.slice none 0 0, .slice none 0 0, .int .i64 0] 46 (0, 0)) (by (with_reducible repeat (first | refine blk_drewN ?_ _ | refine blk_drew ?_ | refine blk_alloc ?_ _)); exact BK457.out) hb)
        have n19_ := Aside0.mk (below_step (by repeat (first | (with_reducible first | exact HB.out | apply below_alloc | apply pw_below_drewN | apply below_drew1 | refine below_set ?_ GE401.out | refine below_set ?_ GE418.out | refine below_set ?_ GE429.out | refine below_set ?_ GE440.out | refine below_set ?_ GE457.out) | exact HB.out)) hb)
        clear HO_4
        clear HO_7
        clear HO_11
        clear HO_13
        clear HO_402000
        clear HO_402001
        clear HO_419000
        clear HO_419001
        clear HO_430000
        clear HO_430001
        clear HO_441000
        clear HO_441001
        clear HO445
        clear BK401
        clear BK418
        clear BK429
        clear BK440
        clear BK457
        clear HB
        have HO_4 := n0_
        have HO_7 := n1_
        have HO_11 := n2_
        have HO_13 := n3_
        have HO_402000 := n4_
        have HO_402001 := n5_
        have HO_419000 := n6_
        have HO_419001 := n7_
        have HO_430000 := n8_
        have HO_430001 := n9_
        have HO_441000 := n10_
        have HO_441001 := n11_
        have HO445 := n12_
        have HO449 := n13_
        have BK401 := n14_
        have BK418 := n15_
        have BK429 := n16_
        have BK440 := n17_
        have BK457 := n18_
        have HB := n19_
        clear n0_ n1_ n2_ n3_ n4_ n5_ n6_ n7_ n8_ n9_ n10_ n11_ n12_ n13_ n14_ n15_ n16_ n17_ n18_ n19_
        clear hb ho77
        obtain ⟨Ao78, co78, eo78⟩ := Kd.R_slice HO449.out
        (first | subst eo78 | (injection eo78 with f1_ f2_ f3_; have f4_ := f1_.symm; have f5_ := f3_.symm; clear f1_ f2_ f3_; subst f4_; subst f5_))
        refine hK.out _ _ ⟨(blk_cell BK401.out 0).trans rfl, (blk_cell BK401.out 1).trans rfl, (blk_cell BK401.out 2).trans rfl, HS3_⟩ (fun hHeld => ?_)
        clear hK K
        refine norm_ (a' := ?_) ?_ ?_
        rotate_left
        ·
         show Act.put _ (some 74) _ = _
         simp only [Act.put, List.setIfInBounds_toArray, List.set_cons_zero, List.set_cons_succ, i64_w, i32_w]
         rfl
        refine one_ (i := 6) (N := some 75) #[true, true, true, true, true, true, true, true, false] rfl rfl (one_of HT_.out (by kernel_rfl)) (by decide) (fun K hK => ?_)
        refine goes_ Try.func25 (by kernel_rfl) rfl #[.agg #[.slice Ao13 t394.length co13, .slice Ao15 t397.length co15, .int .i64 t400], .slice Ao78 y447.length co78] (by rfl) rfl rfl (by (try simp only [List.map_toArray, List.map_cons, List.map_nil]); first | done | rfl | (simp only [List.length_drop, List.length_take]; rfl)) ?_
        with_reducible refine (impl_AckedBy.calls k1 _ _ t394 _ _ t397 t400 _ _ y447 t450 t453 t456 _ ?side1 ?side2 ?side3 ?side4 ?side5 ?side6 A53.out).mono ?_
        (case side1 => repeat (first | exact (Kd.R_reads' HO_402000.out).2.2 | (with_reducible refine Kd.C_alloc ?_ _) | (with_reducible refine Kd.C_drewN ?_ _) | (with_reducible refine Kd.C_drew ?_)))
        (case side2 => exact (Kd.R_reads' HO_402000.out).2.1)
        (case side3 => repeat (first | exact (Kd.R_reads' HO_402001.out).2.2 | (with_reducible refine Kd.C_alloc ?_ _) | (with_reducible refine Kd.C_drewN ?_ _) | (with_reducible refine Kd.C_drew ?_)))
        (case side4 => exact (Kd.R_reads' HO_402001.out).2.1)
        (case side5 => repeat (first | exact (Kd.R_reads' HO449.out).2.2 | (with_reducible refine Kd.C_alloc ?_ _) | (with_reducible refine Kd.C_drewN ?_ _) | (with_reducible refine Kd.C_drew ?_)))
        (case side6 => exact (Kd.R_reads' HO449.out).2.1)
        rintro e w79 ⟨v451, v454, rfl, ho0, ho1, hb⟩
        have HS3_ := (hb.cell (World.block_lt_of_cell? _ _ (hHeld.2.2.2))).trans (hHeld.2.2.2)
        refine ⟨_, rfl, ?_⟩
        have n0_ := Aside0.mk (Kd.R_below (by (with_reducible repeat (first | apply Kd.R_alloc | apply Kd.R_drewN | apply Kd.R_drew)); exact HO_4.out) hb)
        have n1_ := Aside0.mk (Kd.R_below (by (with_reducible repeat (first | apply Kd.R_alloc | apply Kd.R_drewN | apply Kd.R_drew)); exact HO_7.out) hb)
        have n2_ := Aside0.mk (Kd.R_below (by (with_reducible repeat (first | apply Kd.R_alloc | apply Kd.R_drewN | apply Kd.R_drew)); exact HO_11.out) hb)
        have n3_ := Aside0.mk (Kd.R_below (by (with_reducible repeat (first | apply Kd.R_alloc | apply Kd.R_drewN | apply Kd.R_drew)); exact HO_13.out) hb)
        have n4_ := Aside0.mk (Kd.R_below (by (with_reducible repeat (first | apply Kd.R_alloc | apply Kd.R_drewN | apply Kd.R_drew)); exact HO_402000.out) hb)
        have n5_ := Aside0.mk (Kd.R_below (by (with_reducible repeat (first | apply Kd.R_alloc | apply Kd.R_drewN | apply Kd.R_drew)); exact HO_402001.out) hb)
        have n6_ := Aside0.mk (Kd.R_below (by (with_reducible repeat (first | apply Kd.R_alloc | apply Kd.R_drewN | apply Kd.R_drew)); exact HO_419000.out) hb)
        have n7_ := Aside0.mk (Kd.R_below (by (with_reducible repeat (first | apply Kd.R_alloc | apply Kd.R_drewN | apply Kd.R_drew)); exact HO_419001.out) hb)
        have n8_ := Aside0.mk (Kd.R_below (by (with_reducible repeat (first | apply Kd.R_alloc | apply Kd.R_drewN | apply Kd.R_drew)); exact HO_430000.out) hb)
        have n9_ := Aside0.mk (Kd.R_below (by (with_reducible repeat (first | apply Kd.R_alloc | apply Kd.R_drewN | apply Kd.R_drew)); exact HO_430001.out) hb)
        have n10_ := Aside0.mk (Kd.R_below (by (with_reducible repeat (first | apply Kd.R_alloc | apply Kd.R_drewN | apply Kd.R_drew)); exact HO_441000.out) hb)
        have n11_ := Aside0.mk (Kd.R_below (by (with_reducible repeat (first | apply Kd.R_alloc | apply Kd.R_drewN | apply Kd.R_drew)); exact HO_441001.out) hb)
        have n12_ := Aside0.mk (Kd.R_below (by (with_reducible repeat (first | apply Kd.R_alloc | apply Kd.R_drewN | apply Kd.R_drew)); exact HO445.out) hb)
        have n13_ := Aside0.mk (Kd.R_below (by (with_reducible repeat (first | apply Kd.R_alloc | apply Kd.R_drewN | apply Kd.R_drew)); exact HO449.out) hb)
        have n14_ := Aside0.mk (Kd.R_lower (Kd.R_mono (ok' := fun _ => True) ho0 (fun _ _ => trivial)) (below_size (by repeat (first | (with_reducible first | exact HB.out | apply below_alloc | apply pw_below_drewN | apply below_drew1 | refine below_set ?_ GE401.out | refine below_set ?_ GE418.out | refine below_set ?_ GE429.out | refine below_set ?_ GE440.out | refine below_set ?_ GE457.out) | exact HB.out))))
        have n15_ := Aside0.mk (Kd.R_lower (Kd.R_mono (ok' := fun _ => True) ho1 (fun _ _ => trivial)) (below_size (by repeat (first | (with_reducible first | exact HB.out | apply below_alloc | apply pw_below_drewN | apply below_drew1 | refine below_set ?_ GE401.out | refine below_set ?_ GE418.out | refine below_set ?_ GE429.out | refine below_set ?_ GE440.out | refine below_set ?_ GE457.out) | exact HB.out))))
        have n16_ := Aside0.mk (blk_below (g := gb401) (o := .cells #[.slice Ao13 t394.length co13, .slice Ao15 t397.length co15, .int .i64 t400] 46 (0, 0)) (by (with_reducible repeat (first | refine blk_drewN ?_ _ | refine blk_drew ?_ | refine blk_alloc ?_ _)); exact BK401.out) hb)
        have n17_ := Aside0.mk (blk_below (g := gb418) (o := .cells #[.slice Ao23 t411.length co23, .slice Ao26 t414.length co26, .int .i64 t417] 46 (0, 0)) (by (with_reducible repeat (first | refine blk_drewN ?_ _ | refine blk_drew ?_ | refine blk_alloc ?_ _)); exact BK418.out) hb)
        have n18_ := Aside0.mk (blk_below (g := gb429) (o := .cells #[.slice Ao30 t419.length co30, .slice Ao34 t422.length co34, .int .i64 t425] 46 (0, 0)) (by (with_reducible repeat (first | refine blk_drewN ?_ _ | refine blk_drew ?_ | refine blk_alloc ?_ _)); exact BK429.out) hb)
        have n19_ := Aside0.mk (blk_below (g := gb440) (o := .cells #[.slice Ao38 t430.length co38, .slice Ao43 t433.length co43, .int .i64 t436] 46 (0, 0)) (by (with_reducible repeat (first | refine blk_drewN ?_ _ | refine blk_drew ?_ | refine blk_alloc ?_ _)); exact BK440.out) hb)
        have n20_ := Aside0.mk (blk_below (g := gb457) (o := .cells #[.slice none 0 0, .slice none 0 0, .int .i64 0] 46 (0, 0)) (by (with_reducible repeat (first | refine blk_drewN ?_ _ | refine blk_drew ?_ | refine blk_alloc ?_ _)); exact BK457.out) hb)
        have n21_ := Aside0.mk (below_step (by repeat (first | (with_reducible first | exact HB.out | apply below_alloc | apply pw_below_drewN | apply below_drew1 | refine below_set ?_ GE401.out | refine below_set ?_ GE418.out | refine below_set ?_ GE429.out | refine below_set ?_ GE440.out | refine below_set ?_ GE457.out) | exact HB.out)) hb)
        clear HO_4
        clear HO_7
        clear HO_11
        clear HO_13
        clear HO_402000
        clear HO_402001
        clear HO_419000
        clear HO_419001
        clear HO_430000
        clear HO_430001
        clear HO_441000
        clear HO_441001
        clear HO445
        clear HO449
        clear BK401
        clear BK418
        clear BK429
        clear BK440
        clear BK457
        clear HB
        have HO_4 := n0_
        have HO_7 := n1_
        have HO_11 := n2_
        have HO_13 := n3_
        have HO_402000 := n4_
        have HO_402001 := n5_
        have HO_419000 := n6_
        have HO_419001 := n7_
        have HO_430000 := n8_
        have HO_430001 := n9_
        have HO_441000 := n10_
        have HO_441001 := n11_
        have HO445 := n12_
        have HO449 := n13_
        have HO452 := n14_
        have HO455 := n15_
        have BK401 := n16_
        have BK418 := n17_
        have BK429 := n18_
        have BK440 := n19_
        have BK457 := n20_
        have HB := n21_
        clear n0_ n1_ n2_ n3_ n4_ n5_ n6_ n7_ n8_ n9_ n10_ n11_ n12_ n13_ n14_ n15_ n16_ n17_ n18_ n19_ n20_ n21_
        (try clear hb)
        (try clear hb2)
        (try clear hk)
        (try clear hi)
        (try clear ho0)
        (try clear ho1)
        refine hK.out _ _ ⟨(blk_cell BK401.out 0).trans rfl, (blk_cell BK401.out 1).trans rfl, (blk_cell BK401.out 2).trans rfl, HS3_⟩ (fun hHeld => ?_)
        clear hK K
        refine norm_ (a' := ?_) ?_ ?_
        rotate_left
        ·
         show Act.put _ (some 75) _ = _
         simp only [Act.put, List.setIfInBounds_toArray, List.set_cons_zero, List.set_cons_succ, i64_w, i32_w]
         rfl
        exact norm_ (by simp only [putAll, Act.put, List.setIfInBounds_toArray, List.set_cons_zero, List.set_cons_succ]) (hCont (.slice Ao78 y447.length co78, v451, v454, gb457) _ ⟨hHeld, (by (with_reducible repeat (first | apply Kd.R_alloc | apply Kd.R_drewN | apply Kd.R_drew)); exact HO445.out), (by (with_reducible repeat (first | apply Kd.R_alloc | apply Kd.R_drewN | apply Kd.R_drew)); exact HO449.out), (by (with_reducible repeat (first | apply Kd.R_alloc | apply Kd.R_drewN | apply Kd.R_drew)); exact HO452.out), (by (with_reducible repeat (first | apply Kd.R_alloc | apply Kd.R_drewN | apply Kd.R_drew)); exact HO455.out), (by (with_reducible repeat (first | apply Kd.R_alloc | apply Kd.R_drewN | apply Kd.R_drew)); exact HO_11.out), (by (with_reducible repeat (first | apply Kd.R_alloc | apply Kd.R_drewN | apply Kd.R_drew)); exact HO_13.out), (by (with_reducible repeat (first | apply Kd.R_alloc | apply Kd.R_drewN | apply Kd.R_drew)); exact HO_4.out), (by (with_reducible repeat (first | apply Kd.R_alloc | apply Kd.R_drewN | apply Kd.R_drew)); exact HO_402000.out), (by (with_reducible repeat (first | apply Kd.R_alloc | apply Kd.R_drewN | apply Kd.R_drew)); exact HO_402001.out), (by (with_reducible repeat (first | apply Kd.R_alloc | apply Kd.R_drewN | apply Kd.R_drew)); exact HO_419000.out), (by (with_reducible repeat (first | apply Kd.R_alloc | apply Kd.R_drewN | apply Kd.R_drew)); exact HO_419001.out), (by (with_reducible repeat (first | apply Kd.R_alloc | apply Kd.R_drewN | apply Kd.R_drew)); exact HO_430000.out), (by (with_reducible repeat (first | apply Kd.R_alloc | apply Kd.R_drewN | apply Kd.R_drew)); exact HO_430001.out), (by (with_reducible repeat (first | apply Kd.R_alloc | apply Kd.R_drewN | apply Kd.R_drew)); exact HO_441000.out), (by (with_reducible repeat (first | apply Kd.R_alloc | apply Kd.R_drewN | apply Kd.R_drew)); exact HO_441001.out), (by (with_reducible repeat (first | apply Kd.R_alloc | apply Kd.R_drewN | apply Kd.R_drew)); exact HO_7.out), (by (with_reducible repeat (first | refine blk_drewN ?_ _ | refine blk_drew ?_ | refine blk_alloc ?_ _)); exact BK401.out), (by (with_reducible repeat (first | refine blk_drewN ?_ _ | refine blk_drew ?_ | refine blk_alloc ?_ _)); exact BK418.out), (by (with_reducible repeat (first | refine blk_drewN ?_ _ | refine blk_drew ?_ | refine blk_alloc ?_ _)); exact BK429.out), (by (with_reducible repeat (first | refine blk_drewN ?_ _ | refine blk_drew ?_ | refine blk_alloc ?_ _)); exact BK440.out), (by (with_reducible repeat (first | refine blk_drewN ?_ _ | refine blk_drew ?_ | refine blk_alloc ?_ _)); exact BK457.out), GW457.out, GE457.out, NB401_457.out, NB457_401.out, NB418_457.out, NB457_418.out, NB429_457.out, NB457_429.out, NB440_457.out, NB457_440.out, (by repeat (first | (with_reducible first | exact HB.out | apply below_alloc | apply pw_below_drewN | apply below_drew1 | refine below_set ?_ GE401.out | refine below_set ?_ GE418.out | refine below_set ?_ GE429.out | refine below_set ?_ GE440.out | refine below_set ?_ GE457.out) | exact HB.out))⟩)
      rintro ⟨v448, v451, v454, gb457⟩ w80 ⟨hS_, h0_, h1_, h2_, h3_, h4_, h5_, h6_, h7_, h8_, h9_, h10_, h11_, h12_, h13_, h14_, h15_, h16_, h17_, h18_, h19_, h20_, h21_, h22_, h23_, h24_, h25_, h26_, h27_, h28_, h29_, h30_, h31_⟩
      have n0_ : Aside0 (Kd.R (Kd.int .i64) 3 w80 w.heap.size (fun _ => True) (.slice (some ad446) t443.length co74) t443) := ⟨h0_⟩
      have n1_ : Aside0 (Kd.R (Kd.int .i64) 3 w80 w.heap.size (fun _ => True) v448 y447) := ⟨h1_⟩
      have n2_ : Aside0 (Kd.R (Kd.int .i64) 3 w80 w.heap.size (fun _ => True) v451 t450) := ⟨h2_⟩
      have n3_ : Aside0 (Kd.R (Kd.int .i64) 3 w80 w.heap.size (fun _ => True) v454 t453) := ⟨h3_⟩
      have n4_ : Aside0 (Kd.R (Kd.int .i64) 3 w80 w.heap.size (fun _ => True) (.slice Ao71 t426.length co71) t426) := ⟨h4_⟩
      have n5_ : Aside0 (Kd.R (Kd.int .i64) 3 w80 w.heap.size (fun _ => True) v438 t437) := ⟨h5_⟩
      have n6_ : Aside0 (Kd.R (Kd.int .i64) 3 w80 w.heap.size (fun _ => True) (.slice Ao17 t402.length co17) t402) := ⟨h6_⟩
      have n7_ : Aside0 (Kd.R (Kd.int .i64) 3 w80 w.heap.size (fun _ => True) (.slice Ao13 t394.length co13) t394) := ⟨h7_⟩
      have n8_ : Aside0 (Kd.R (Kd.int .i64) 3 w80 w.heap.size (fun _ => True) (.slice Ao15 t397.length co15) t397) := ⟨h8_⟩
      have n9_ : Aside0 (Kd.R (Kd.int .i64) 3 w80 w.heap.size (fun _ => True) (.slice Ao23 t411.length co23) t411) := ⟨h9_⟩
      have n10_ : Aside0 (Kd.R (Kd.int .i64) 3 w80 w.heap.size (fun _ => True) (.slice Ao26 t414.length co26) t414) := ⟨h10_⟩
      have n11_ : Aside0 (Kd.R (Kd.int .i64) 3 w80 w.heap.size (fun _ => True) (.slice Ao30 t419.length co30) t419) := ⟨h11_⟩
      have n12_ : Aside0 (Kd.R (Kd.int .i64) 3 w80 w.heap.size (fun _ => True) (.slice Ao34 t422.length co34) t422) := ⟨h12_⟩
      have n13_ : Aside0 (Kd.R (Kd.int .i64) 3 w80 w.heap.size (fun _ => True) (.slice Ao38 t430.length co38) t430) := ⟨h13_⟩
      have n14_ : Aside0 (Kd.R (Kd.int .i64) 3 w80 w.heap.size (fun _ => True) (.slice Ao43 t433.length co43) t433) := ⟨h14_⟩
      have n15_ : Aside0 (Kd.R (Kd.int .i64) 3 w80 w.heap.size (fun _ => True) v409 t407) := ⟨h15_⟩
      have n16_ : Aside0 (w80.heap[gb401]? = some (.cells #[.slice Ao13 t394.length co13, .slice Ao15 t397.length co15, .int .i64 t400] 46 (0, 0))) := ⟨h16_⟩
      have n17_ : Aside0 (w80.heap[gb418]? = some (.cells #[.slice Ao23 t411.length co23, .slice Ao26 t414.length co26, .int .i64 t417] 46 (0, 0))) := ⟨h17_⟩
      have n18_ : Aside0 (w80.heap[gb429]? = some (.cells #[.slice Ao30 t419.length co30, .slice Ao34 t422.length co34, .int .i64 t425] 46 (0, 0))) := ⟨h18_⟩
      have n19_ : Aside0 (w80.heap[gb440]? = some (.cells #[.slice Ao38 t430.length co38, .slice Ao43 t433.length co43, .int .i64 t436] 46 (0, 0))) := ⟨h19_⟩
      have n20_ : Aside0 (w80.heap[gb457]? = some (.cells #[.slice none 0 0, .slice none 0 0, .int .i64 0] 46 (0, 0))) := ⟨h20_⟩
      have n21_ : Aside0 (w.heap.size ≤ gb457) := ⟨h21_⟩
      have n22_ : Aside0 (w.heap.size ≤ gb457) := ⟨h22_⟩
      have n23_ : Aside0 (gb401 ≠ gb457) := ⟨h23_⟩
      have n24_ : Aside0 (gb457 ≠ gb401) := ⟨h24_⟩
      have n25_ : Aside0 (gb418 ≠ gb457) := ⟨h25_⟩
      have n26_ : Aside0 (gb457 ≠ gb418) := ⟨h26_⟩
      have n27_ : Aside0 (gb429 ≠ gb457) := ⟨h27_⟩
      have n28_ : Aside0 (gb457 ≠ gb429) := ⟨h28_⟩
      have n29_ : Aside0 (gb440 ≠ gb457) := ⟨h29_⟩
      have n30_ : Aside0 (gb457 ≠ gb440) := ⟨h30_⟩
      have n31_ : Aside0 (Below w.heap.size w w80) := ⟨h31_⟩
      clear HO_4
      clear HO_7
      clear HO_11
      clear HO_13
      clear HO_402000
      clear HO_402001
      clear HO_419000
      clear HO_419001
      clear HO_430000
      clear HO_430001
      clear HO_441000
      clear HO_441001
      clear HO445
      clear BK401
      clear BK418
      clear BK429
      clear BK440
      clear HB
      clear h0_ h1_ h2_ h3_ h4_ h5_ h6_ h7_ h8_ h9_ h10_ h11_ h12_ h13_ h14_ h15_ h16_ h17_ h18_ h19_ h20_ h21_ h22_ h23_ h24_ h25_ h26_ h27_ h28_ h29_ h30_ h31_
      have HO445 := n0_
      have HO449 := n1_
      have HO452 := n2_
      have HO455 := n3_
      have HO_11 := n4_
      have HO_13 := n5_
      have HO_4 := n6_
      have HO_402000 := n7_
      have HO_402001 := n8_
      have HO_419000 := n9_
      have HO_419001 := n10_
      have HO_430000 := n11_
      have HO_430001 := n12_
      have HO_441000 := n13_
      have HO_441001 := n14_
      have HO_7 := n15_
      have BK401 := n16_
      have BK418 := n17_
      have BK429 := n18_
      have BK440 := n19_
      have BK457 := n20_
      have GW457 := n21_
      have GE457 := n22_
      have NB401_457 := n23_
      have NB457_401 := n24_
      have NB418_457 := n25_
      have NB457_418 := n26_
      have NB429_457 := n27_
      have NB457_429 := n28_
      have NB440_457 := n29_
      have NB457_440 := n30_
      have HB := n31_
      clear n0_ n1_ n2_ n3_ n4_ n5_ n6_ n7_ n8_ n9_ n10_ n11_ n12_ n13_ n14_ n15_ n16_ n17_ n18_ n19_ n20_ n21_ n22_ n23_ n24_ n25_ n26_ n27_ n28_ n29_ n30_ n31_
      have hHeld : w80.cell? ⟨gb401, 0, none⟩ = some (.slice Ao13 t394.length co13) ∧ w80.cell? ⟨gb401, 1, none⟩ = some (.slice Ao15 t397.length co15) ∧ w80.cell? ⟨gb401, 2, none⟩ = some (.int .i64 t400) ∧ w80.cell? ad446 = some (.int .i64 (rd t443 0)) := hS_
      obtain ⟨Ao81, co81, eo81⟩ := Kd.R_slice HO452.out
      (first | subst eo81 | (injection eo81 with f1_ f2_ f3_; have f4_ := f1_.symm; have f5_ := f3_.symm; clear f1_ f2_ f3_; subst f4_; subst f5_))
      obtain ⟨Ao83, co83, eo83⟩ := Kd.R_slice HO455.out
      (first | subst eo83 | (injection eo83 with f1_ f2_ f3_; have f4_ := f1_.symm; have f5_ := f3_.symm; clear f1_ f2_ f3_; subst f4_; subst f5_))
      refine norm_ (a' := ?_) ?_ ?_
      rotate_left
      ·
       simp only [putAll, Act.put, List.setIfInBounds_toArray, List.set_cons_zero, List.set_cons_succ]
       rfl
      refine one_ (i := 8) (N := none) #[true, true, true, true, true, true, true, true, true] rfl rfl (one_of HT_.out (by kernel_rfl)) (by decide) (fun K hK => ?_)
      have hs82 : w80.cell? ⟨gb457, 0, none⟩ = some (.slice none 0 0) := (blk_cell BK457.out 0).trans rfl
      have hfs82 := blk_frozen BK457.out 0
      have hns82_0 := NB401_457.out
      have hns82_1 := NB418_457.out
      have hns82_2 := NB429_457.out
      have hns82_3 := NB440_457.out
      have hms82_0 := NB457_401.out
      have hms82_1 := NB457_418.out
      have hms82_2 := NB457_429.out
      have hms82_3 := NB457_440.out
      have hs84 : w80.cell? ⟨gb457, 1, none⟩ = some (.slice none 0 0) := (blk_cell BK457.out 1).trans rfl
      have hfs84 := blk_frozen BK457.out 1
      have hns84_0 := NB401_457.out
      have hns84_1 := NB418_457.out
      have hns84_2 := NB429_457.out
      have hns84_3 := NB440_457.out
      have hms84_0 := NB457_401.out
      have hms84_1 := NB457_418.out
      have hms84_2 := NB457_429.out
      have hms84_3 := NB457_440.out
      have hs85 : w80.cell? ⟨gb457, 2, none⟩ = some (.int .i64 0) := (blk_cell BK457.out 2).trans rfl
      have hfs85 := blk_frozen BK457.out 2
      have hns85_0 := NB401_457.out
      have hns85_1 := NB418_457.out
      have hns85_2 := NB429_457.out
      have hns85_3 := NB440_457.out
      have hms85_0 := NB457_401.out
      have hms85_1 := NB457_418.out
      have hms85_2 := NB457_429.out
      have hms85_3 := NB457_440.out
      refine skip_ (w1 := ?_) (by rfl) rfl ?_ ?_
      rotate_left
      ·
       go_simp
       rfl
      refine hK.out _ _ ⟨((cell_far (p := ⟨gb457, _, none⟩) NB401_457.out _).trans (((cell_far (p := ⟨gb457, _, none⟩) NB401_457.out _).trans (((cell_far (p := ⟨gb457, _, none⟩) NB401_457.out _).trans (hHeld.1)))))), ((cell_far (p := ⟨gb457, _, none⟩) NB401_457.out _).trans (((cell_far (p := ⟨gb457, _, none⟩) NB401_457.out _).trans (((cell_far (p := ⟨gb457, _, none⟩) NB401_457.out _).trans (hHeld.2.1)))))), ((cell_far (p := ⟨gb457, _, none⟩) NB401_457.out _).trans (((cell_far (p := ⟨gb457, _, none⟩) NB401_457.out _).trans (((cell_far (p := ⟨gb457, _, none⟩) NB401_457.out _).trans (hHeld.2.2.1)))))), ((cell_far (p := ⟨gb457, _, none⟩) (by first | exact Kd.own_blk (Kd.R_ne HO445.out BK457.out (by decide)) | (rw [add_block]; exact Kd.own_blk (Kd.R_ne HO445.out BK457.out (by decide))) | (show (Addr.add _ _).block ≠ _; rw [add_block]; exact Kd.own_blk (Kd.R_ne HO445.out BK457.out (by decide))) | (dsimp only; exact Kd.own_blk (Kd.R_ne HO445.out BK457.out (by decide)))) _).trans (((cell_far (p := ⟨gb457, _, none⟩) (by first | exact Kd.own_blk (Kd.R_ne HO445.out BK457.out (by decide)) | (rw [add_block]; exact Kd.own_blk (Kd.R_ne HO445.out BK457.out (by decide))) | (show (Addr.add _ _).block ≠ _; rw [add_block]; exact Kd.own_blk (Kd.R_ne HO445.out BK457.out (by decide))) | (dsimp only; exact Kd.own_blk (Kd.R_ne HO445.out BK457.out (by decide)))) _).trans (((cell_far (p := ⟨gb457, _, none⟩) (by first | exact Kd.own_blk (Kd.R_ne HO445.out BK457.out (by decide)) | (rw [add_block]; exact Kd.own_blk (Kd.R_ne HO445.out BK457.out (by decide))) | (show (Addr.add _ _).block ≠ _; rw [add_block]; exact Kd.own_blk (Kd.R_ne HO445.out BK457.out (by decide))) | (dsimp only; exact Kd.own_blk (Kd.R_ne HO445.out BK457.out (by decide)))) _).trans (hHeld.2.2.2))))))⟩ (fun hHeld => ?_)
      clear hK K
      refine done_ (done_of HT_.out (by kernel_rfl)) ?_
      obtain ⟨Ao86, co86, eo86⟩ := Kd.R_slice HO_7.out
      subst eo86
      have H := HC54.out
      clear HC54
      by_cases c54 : t406 = true
      ·
       subst c54
       have H1 : (if t408 = true then ((laws_sameInts.f k1 t407 t402).bind fun t458 => (if t458 = true then ((impl_LeftOf.f k1 t411 t414 t417).bind fun t459 => (if (t459.length : Int) = 0 then (if (t437.length : Int) = 0 then ((laws_sameFlight.f k1 t430 t433 t436 t411 t414 t417).bind fun t462 => (if t462 = true then (if (t426.length : Int) = (t402.length : Int) then (if t425 = (wrap64 (t400 + 1)) then ((impl_FlightOk.f k1 t394 t397 t400).bind fun t463 => (if t463 = true then ((impl_FlightOk.f k1 t450 t453 t456).bind fun t464 => (if t464 = true then ((impl_LeftOf.f k1 t450 t453 t456).bind fun t465 => (if (t465.length : Int) ≤ (t402.length : Int) then (some ((wrap64 ((t402.length : Int) + (t397.length : Int))) == (t394.length : Int))) else (none))) else (none))) else (none))) else (if (t426.length : Int) = 0 then (if t425 = t400 then ((impl_FlightOk.f k1 t394 t397 t400).bind fun t468 => (if t468 = true then ((impl_FlightOk.f k1 t450 t453 t456).bind fun t469 => (if t469 = true then ((impl_LeftOf.f k1 t450 t453 t456).bind fun t470 => (if (t470.length : Int) ≤ (t402.length : Int) then (some ((wrap64 ((t402.length : Int) + (t397.length : Int))) == (t394.length : Int))) else (none))) else (none))) else (none))) else (none)) else (none))) else (if (t426.length : Int) = 0 then (if t425 = t400 then ((impl_FlightOk.f k1 t394 t397 t400).bind fun t473 => (if t473 = true then ((impl_FlightOk.f k1 t450 t453 t456).bind fun t474 => (if t474 = true then ((impl_LeftOf.f k1 t450 t453 t456).bind fun t475 => (if (t475.length : Int) ≤ (t402.length : Int) then (some ((wrap64 ((t402.length : Int) + (t397.length : Int))) == (t394.length : Int))) else (none))) else (none))) else (none))) else (none)) else (none))) else (none))) else (none)) else (none))) else (none))) else (none)) = some r := by rw [if_pos rfl] at H; exact H
       clear H
       have H := H1
       clear H1
       by_cases c55 : t408 = true
       ·
        subst c55
        have H1 : ((laws_sameInts.f k1 t407 t402).bind fun t458 => (if t458 = true then ((impl_LeftOf.f k1 t411 t414 t417).bind fun t459 => (if (t459.length : Int) = 0 then (if (t437.length : Int) = 0 then ((laws_sameFlight.f k1 t430 t433 t436 t411 t414 t417).bind fun t462 => (if t462 = true then (if (t426.length : Int) = (t402.length : Int) then (if t425 = (wrap64 (t400 + 1)) then ((impl_FlightOk.f k1 t394 t397 t400).bind fun t463 => (if t463 = true then ((impl_FlightOk.f k1 t450 t453 t456).bind fun t464 => (if t464 = true then ((impl_LeftOf.f k1 t450 t453 t456).bind fun t465 => (if (t465.length : Int) ≤ (t402.length : Int) then (some ((wrap64 ((t402.length : Int) + (t397.length : Int))) == (t394.length : Int))) else (none))) else (none))) else (none))) else (if (t426.length : Int) = 0 then (if t425 = t400 then ((impl_FlightOk.f k1 t394 t397 t400).bind fun t468 => (if t468 = true then ((impl_FlightOk.f k1 t450 t453 t456).bind fun t469 => (if t469 = true then ((impl_LeftOf.f k1 t450 t453 t456).bind fun t470 => (if (t470.length : Int) ≤ (t402.length : Int) then (some ((wrap64 ((t402.length : Int) + (t397.length : Int))) == (t394.length : Int))) else (none))) else (none))) else (none))) else (none)) else (none))) else (if (t426.length : Int) = 0 then (if t425 = t400 then ((impl_FlightOk.f k1 t394 t397 t400).bind fun t473 => (if t473 = true then ((impl_FlightOk.f k1 t450 t453 t456).bind fun t474 => (if t474 = true then ((impl_LeftOf.f k1 t450 t453 t456).bind fun t475 => (if (t475.length : Int) ≤ (t402.length : Int) then (some ((wrap64 ((t402.length : Int) + (t397.length : Int))) == (t394.length : Int))) else (none))) else (none))) else (none))) else (none)) else (none))) else (none))) else (none)) else (none))) else (none))) = some r := by rw [if_pos rfl] at H; exact H
        clear H
        have H := H1
        clear H1
        replace H := Option.bind_eq_some_iff.mp H
        obtain ⟨t458, A560, H⟩ := H
        replace H : (if t458 = true then ((impl_LeftOf.f k1 t411 t414 t417).bind fun t459 => (if (t459.length : Int) = 0 then (if (t437.length : Int) = 0 then ((laws_sameFlight.f k1 t430 t433 t436 t411 t414 t417).bind fun t462 => (if t462 = true then (if (t426.length : Int) = (t402.length : Int) then (if t425 = (wrap64 (t400 + 1)) then ((impl_FlightOk.f k1 t394 t397 t400).bind fun t463 => (if t463 = true then ((impl_FlightOk.f k1 t450 t453 t456).bind fun t464 => (if t464 = true then ((impl_LeftOf.f k1 t450 t453 t456).bind fun t465 => (if (t465.length : Int) ≤ (t402.length : Int) then (some ((wrap64 ((t402.length : Int) + (t397.length : Int))) == (t394.length : Int))) else (none))) else (none))) else (none))) else (if (t426.length : Int) = 0 then (if t425 = t400 then ((impl_FlightOk.f k1 t394 t397 t400).bind fun t468 => (if t468 = true then ((impl_FlightOk.f k1 t450 t453 t456).bind fun t469 => (if t469 = true then ((impl_LeftOf.f k1 t450 t453 t456).bind fun t470 => (if (t470.length : Int) ≤ (t402.length : Int) then (some ((wrap64 ((t402.length : Int) + (t397.length : Int))) == (t394.length : Int))) else (none))) else (none))) else (none))) else (none)) else (none))) else (if (t426.length : Int) = 0 then (if t425 = t400 then ((impl_FlightOk.f k1 t394 t397 t400).bind fun t473 => (if t473 = true then ((impl_FlightOk.f k1 t450 t453 t456).bind fun t474 => (if t474 = true then ((impl_LeftOf.f k1 t450 t453 t456).bind fun t475 => (if (t475.length : Int) ≤ (t402.length : Int) then (some ((wrap64 ((t402.length : Int) + (t397.length : Int))) == (t394.length : Int))) else (none))) else (none))) else (none))) else (none)) else (none))) else (none))) else (none)) else (none))) else (none)) = some r := H
        have A56 := Aside0.mk A560
        clear A560
        by_cases c57 : t458 = true
        ·
         subst c57
         have H1 : ((impl_LeftOf.f k1 t411 t414 t417).bind fun t459 => (if (t459.length : Int) = 0 then (if (t437.length : Int) = 0 then ((laws_sameFlight.f k1 t430 t433 t436 t411 t414 t417).bind fun t462 => (if t462 = true then (if (t426.length : Int) = (t402.length : Int) then (if t425 = (wrap64 (t400 + 1)) then ((impl_FlightOk.f k1 t394 t397 t400).bind fun t463 => (if t463 = true then ((impl_FlightOk.f k1 t450 t453 t456).bind fun t464 => (if t464 = true then ((impl_LeftOf.f k1 t450 t453 t456).bind fun t465 => (if (t465.length : Int) ≤ (t402.length : Int) then (some ((wrap64 ((t402.length : Int) + (t397.length : Int))) == (t394.length : Int))) else (none))) else (none))) else (none))) else (if (t426.length : Int) = 0 then (if t425 = t400 then ((impl_FlightOk.f k1 t394 t397 t400).bind fun t468 => (if t468 = true then ((impl_FlightOk.f k1 t450 t453 t456).bind fun t469 => (if t469 = true then ((impl_LeftOf.f k1 t450 t453 t456).bind fun t470 => (if (t470.length : Int) ≤ (t402.length : Int) then (some ((wrap64 ((t402.length : Int) + (t397.length : Int))) == (t394.length : Int))) else (none))) else (none))) else (none))) else (none)) else (none))) else (if (t426.length : Int) = 0 then (if t425 = t400 then ((impl_FlightOk.f k1 t394 t397 t400).bind fun t473 => (if t473 = true then ((impl_FlightOk.f k1 t450 t453 t456).bind fun t474 => (if t474 = true then ((impl_LeftOf.f k1 t450 t453 t456).bind fun t475 => (if (t475.length : Int) ≤ (t402.length : Int) then (some ((wrap64 ((t402.length : Int) + (t397.length : Int))) == (t394.length : Int))) else (none))) else (none))) else (none))) else (none)) else (none))) else (none))) else (none)) else (none))) = some r := by rw [if_pos rfl] at H; exact H
         clear H
         have H := H1
         clear H1
         replace H := Option.bind_eq_some_iff.mp H
         obtain ⟨t459, A580, H⟩ := H
         replace H : (if (t459.length : Int) = 0 then (if (t437.length : Int) = 0 then ((laws_sameFlight.f k1 t430 t433 t436 t411 t414 t417).bind fun t462 => (if t462 = true then (if (t426.length : Int) = (t402.length : Int) then (if t425 = (wrap64 (t400 + 1)) then ((impl_FlightOk.f k1 t394 t397 t400).bind fun t463 => (if t463 = true then ((impl_FlightOk.f k1 t450 t453 t456).bind fun t464 => (if t464 = true then ((impl_LeftOf.f k1 t450 t453 t456).bind fun t465 => (if (t465.length : Int) ≤ (t402.length : Int) then (some ((wrap64 ((t402.length : Int) + (t397.length : Int))) == (t394.length : Int))) else (none))) else (none))) else (none))) else (if (t426.length : Int) = 0 then (if t425 = t400 then ((impl_FlightOk.f k1 t394 t397 t400).bind fun t468 => (if t468 = true then ((impl_FlightOk.f k1 t450 t453 t456).bind fun t469 => (if t469 = true then ((impl_LeftOf.f k1 t450 t453 t456).bind fun t470 => (if (t470.length : Int) ≤ (t402.length : Int) then (some ((wrap64 ((t402.length : Int) + (t397.length : Int))) == (t394.length : Int))) else (none))) else (none))) else (none))) else (none)) else (none))) else (if (t426.length : Int) = 0 then (if t425 = t400 then ((impl_FlightOk.f k1 t394 t397 t400).bind fun t473 => (if t473 = true then ((impl_FlightOk.f k1 t450 t453 t456).bind fun t474 => (if t474 = true then ((impl_LeftOf.f k1 t450 t453 t456).bind fun t475 => (if (t475.length : Int) ≤ (t402.length : Int) then (some ((wrap64 ((t402.length : Int) + (t397.length : Int))) == (t394.length : Int))) else (none))) else (none))) else (none))) else (none)) else (none))) else (none))) else (none)) else (none)) = some r := H
         have A58 := Aside0.mk A580
         clear A580
         by_cases c59 : (t459.length : Int) = 0
         ·
          rw [if_pos c59] at H
          have c59b0 : ((t459.length : Int) == 0) = true := beq_iff_eq.mpr c59
          have c59b1 : ((t459.length : Int) != 0) = false := bne_eq_false_iff_eq.mpr c59
          clear c59
          by_cases c60 : (t437.length : Int) = 0
          ·
           rw [if_pos c60] at H
           have c60b0 : ((t437.length : Int) == 0) = true := beq_iff_eq.mpr c60
           have c60b1 : ((t437.length : Int) != 0) = false := bne_eq_false_iff_eq.mpr c60
           clear c60
           replace H := Option.bind_eq_some_iff.mp H
           obtain ⟨t462, A610, H⟩ := H
           replace H : (if t462 = true then (if (t426.length : Int) = (t402.length : Int) then (if t425 = (wrap64 (t400 + 1)) then ((impl_FlightOk.f k1 t394 t397 t400).bind fun t463 => (if t463 = true then ((impl_FlightOk.f k1 t450 t453 t456).bind fun t464 => (if t464 = true then ((impl_LeftOf.f k1 t450 t453 t456).bind fun t465 => (if (t465.length : Int) ≤ (t402.length : Int) then (some ((wrap64 ((t402.length : Int) + (t397.length : Int))) == (t394.length : Int))) else (none))) else (none))) else (none))) else (if (t426.length : Int) = 0 then (if t425 = t400 then ((impl_FlightOk.f k1 t394 t397 t400).bind fun t468 => (if t468 = true then ((impl_FlightOk.f k1 t450 t453 t456).bind fun t469 => (if t469 = true then ((impl_LeftOf.f k1 t450 t453 t456).bind fun t470 => (if (t470.length : Int) ≤ (t402.length : Int) then (some ((wrap64 ((t402.length : Int) + (t397.length : Int))) == (t394.length : Int))) else (none))) else (none))) else (none))) else (none)) else (none))) else (if (t426.length : Int) = 0 then (if t425 = t400 then ((impl_FlightOk.f k1 t394 t397 t400).bind fun t473 => (if t473 = true then ((impl_FlightOk.f k1 t450 t453 t456).bind fun t474 => (if t474 = true then ((impl_LeftOf.f k1 t450 t453 t456).bind fun t475 => (if (t475.length : Int) ≤ (t402.length : Int) then (some ((wrap64 ((t402.length : Int) + (t397.length : Int))) == (t394.length : Int))) else (none))) else (none))) else (none))) else (none)) else (none))) else (none)) = some r := H
           have A61 := Aside0.mk A610
           clear A610
           by_cases c62 : t462 = true
           ·
            subst c62
            have H1 : (if (t426.length : Int) = (t402.length : Int) then (if t425 = (wrap64 (t400 + 1)) then ((impl_FlightOk.f k1 t394 t397 t400).bind fun t463 => (if t463 = true then ((impl_FlightOk.f k1 t450 t453 t456).bind fun t464 => (if t464 = true then ((impl_LeftOf.f k1 t450 t453 t456).bind fun t465 => (if (t465.length : Int) ≤ (t402.length : Int) then (some ((wrap64 ((t402.length : Int) + (t397.length : Int))) == (t394.length : Int))) else (none))) else (none))) else (none))) else (if (t426.length : Int) = 0 then (if t425 = t400 then ((impl_FlightOk.f k1 t394 t397 t400).bind fun t468 => (if t468 = true then ((impl_FlightOk.f k1 t450 t453 t456).bind fun t469 => (if t469 = true then ((impl_LeftOf.f k1 t450 t453 t456).bind fun t470 => (if (t470.length : Int) ≤ (t402.length : Int) then (some ((wrap64 ((t402.length : Int) + (t397.length : Int))) == (t394.length : Int))) else (none))) else (none))) else (none))) else (none)) else (none))) else (if (t426.length : Int) = 0 then (if t425 = t400 then ((impl_FlightOk.f k1 t394 t397 t400).bind fun t473 => (if t473 = true then ((impl_FlightOk.f k1 t450 t453 t456).bind fun t474 => (if t474 = true then ((impl_LeftOf.f k1 t450 t453 t456).bind fun t475 => (if (t475.length : Int) ≤ (t402.length : Int) then (some ((wrap64 ((t402.length : Int) + (t397.length : Int))) == (t394.length : Int))) else (none))) else (none))) else (none))) else (none)) else (none))) = some r := by rw [if_pos rfl] at H; exact H
            clear H
            have H := H1
            clear H1
            by_cases c63 : (t426.length : Int) = (t402.length : Int)
            ·
             rw [if_pos c63] at H
             have c63b0 : ((t426.length : Int) == (t402.length : Int)) = true := beq_iff_eq.mpr c63
             have c63b1 : ((t426.length : Int) != (t402.length : Int)) = false := bne_eq_false_iff_eq.mpr c63
             have c63b2 : (t426.length == t402.length) = true := by first | simpa using c63 | (simp at c63 ⊢; omega)
             clear c63
             by_cases c64 : t425 = (wrap64 (t400 + 1))
             ·
              rw [if_pos c64] at H
              have c64b0 : (t425 == (wrap64 (t400 + 1))) = true := beq_iff_eq.mpr c64
              have c64b1 : (t425 != (wrap64 (t400 + 1))) = false := bne_eq_false_iff_eq.mpr c64
              clear c64
              replace H := Option.bind_eq_some_iff.mp H
              obtain ⟨t463, A650, H⟩ := H
              replace H : (if t463 = true then ((impl_FlightOk.f k1 t450 t453 t456).bind fun t464 => (if t464 = true then ((impl_LeftOf.f k1 t450 t453 t456).bind fun t465 => (if (t465.length : Int) ≤ (t402.length : Int) then (some ((wrap64 ((t402.length : Int) + (t397.length : Int))) == (t394.length : Int))) else (none))) else (none))) else (none)) = some r := H
              have A65 := Aside0.mk A650
              clear A650
              by_cases c66 : t463 = true
              ·
               subst c66
               have H1 : ((impl_FlightOk.f k1 t450 t453 t456).bind fun t464 => (if t464 = true then ((impl_LeftOf.f k1 t450 t453 t456).bind fun t465 => (if (t465.length : Int) ≤ (t402.length : Int) then (some ((wrap64 ((t402.length : Int) + (t397.length : Int))) == (t394.length : Int))) else (none))) else (none))) = some r := by rw [if_pos rfl] at H; exact H
               clear H
               have H := H1
               clear H1
               replace H := Option.bind_eq_some_iff.mp H
               obtain ⟨t464, A670, H⟩ := H
               replace H : (if t464 = true then ((impl_LeftOf.f k1 t450 t453 t456).bind fun t465 => (if (t465.length : Int) ≤ (t402.length : Int) then (some ((wrap64 ((t402.length : Int) + (t397.length : Int))) == (t394.length : Int))) else (none))) else (none)) = some r := H
               have A67 := Aside0.mk A670
               clear A670
               by_cases c68 : t464 = true
               ·
                subst c68
                have H1 : ((impl_LeftOf.f k1 t450 t453 t456).bind fun t465 => (if (t465.length : Int) ≤ (t402.length : Int) then (some ((wrap64 ((t402.length : Int) + (t397.length : Int))) == (t394.length : Int))) else (none))) = some r := by rw [if_pos rfl] at H; exact H
                clear H
                have H := H1
                clear H1
                replace H := Option.bind_eq_some_iff.mp H
                obtain ⟨t465, A690, H⟩ := H
                replace H : (if (t465.length : Int) ≤ (t402.length : Int) then (some ((wrap64 ((t402.length : Int) + (t397.length : Int))) == (t394.length : Int))) else (none)) = some r := H
                have A69 := Aside0.mk A690
                clear A690
                by_cases c70 : (t465.length : Int) ≤ (t402.length : Int)
                ·
                 rw [if_pos c70] at H
                 have c70b0 : decide ((t465.length : Int) ≤ (t402.length : Int)) = true := decide_eq_true c70
                 have c70b1 : decide (t465.length ≤ t402.length) = true := decide_eq_true (Int.ofNat_le.mp c70)
                 clear c70
                 obtain rfl := Option.some.inj H
                 obtain ⟨zT, hzT⟩ : ∃ z_, wrap64 (t400 + 1) = z_ := ⟨_, rfl⟩
                 (try rw [hzT] at c64b0 c64b1)
                 have e425 := eq_of_beq c64b0
                 clear c64b0 c64b1
                 subst e425
                 obtain ⟨Ao13x, co13x, eo13x⟩ := Kd.R_slice HO_13.out
                 subst eo13x
                 have Zt394 := R_after3 HO_402000.out BK457.out (.slice Ao81 t450.length co81) (.slice Ao83 t453.length co83) (.int .i64 t456)
                 have Zt397 := R_after3 HO_402001.out BK457.out (.slice Ao81 t450.length co81) (.slice Ao83 t453.length co83) (.int .i64 t456)
                 have Zt411 := R_after3 HO_419000.out BK457.out (.slice Ao81 t450.length co81) (.slice Ao83 t453.length co83) (.int .i64 t456)
                 have Zt414 := R_after3 HO_419001.out BK457.out (.slice Ao81 t450.length co81) (.slice Ao83 t453.length co83) (.int .i64 t456)
                 have Zt430 := R_after3 HO_441000.out BK457.out (.slice Ao81 t450.length co81) (.slice Ao83 t453.length co83) (.int .i64 t456)
                 have Zt433 := R_after3 HO_441001.out BK457.out (.slice Ao81 t450.length co81) (.slice Ao83 t453.length co83) (.int .i64 t456)
                 have Zt407 := R_after3 HO_7.out BK457.out (.slice Ao81 t450.length co81) (.slice Ao83 t453.length co83) (.int .i64 t456)
                 have Zt402 := R_after3 HO_4.out BK457.out (.slice Ao81 t450.length co81) (.slice Ao83 t453.length co83) (.int .i64 t456)
                 have Zt450 := R_after3 HO452.out BK457.out (.slice Ao81 t450.length co81) (.slice Ao83 t453.length co83) (.int .i64 t456)
                 have Zt453 := R_after3 HO455.out BK457.out (.slice Ao81 t450.length co81) (.slice Ao83 t453.length co83) (.int .i64 t456)
                 have Lt394 := (Kd.R_reads' Zt394).2.1
                 have Ct394 := (Kd.R_reads' Zt394).2.2
                 clear Zt394
                 have Lt397 := (Kd.R_reads' Zt397).2.1
                 have Ct397 := (Kd.R_reads' Zt397).2.2
                 clear Zt397
                 have Lt411 := (Kd.R_reads' Zt411).2.1
                 have Ct411 := (Kd.R_reads' Zt411).2.2
                 clear Zt411
                 have Lt414 := (Kd.R_reads' Zt414).2.1
                 have Ct414 := (Kd.R_reads' Zt414).2.2
                 clear Zt414
                 have Lt430 := (Kd.R_reads' Zt430).2.1
                 have Ct430 := (Kd.R_reads' Zt430).2.2
                 clear Zt430
                 have Lt433 := (Kd.R_reads' Zt433).2.1
                 have Ct433 := (Kd.R_reads' Zt433).2.2
                 clear Zt433
                 have Lt407 := (Kd.R_reads' Zt407).2.1
                 have Ct407 := (Kd.R_reads' Zt407).2.2
                 clear Zt407
                 have Lt402 := (Kd.R_reads' Zt402).2.1
                 have Ct402 := (Kd.R_reads' Zt402).2.2
                 clear Zt402
                 have Lt450 := (Kd.R_reads' Zt450).2.1
                 have Ct450 := (Kd.R_reads' Zt450).2.2
                 clear Zt450
                 have Lt453 := (Kd.R_reads' Zt453).2.1
                 have Ct453 := (Kd.R_reads' Zt453).2.2
                 clear Zt453
                 have K401 := far3 BK401.out NB401_457.out (.slice Ao81 t450.length co81) (.slice Ao83 t453.length co83) (.int .i64 t456)
                 have K418 := far3 BK418.out NB418_457.out (.slice Ao81 t450.length co81) (.slice Ao83 t453.length co83) (.int .i64 t456)
                 have K429 := far3 BK429.out NB429_457.out (.slice Ao81 t450.length co81) (.slice Ao83 t453.length co83) (.int .i64 t456)
                 have K440 := far3 BK440.out NB440_457.out (.slice Ao81 t450.length co81) (.slice Ao83 t453.length co83) (.int .i64 t456)
                 have K457 := blk3 BK457.out (.slice Ao81 t450.length co81) (.slice Ao83 t453.length co83) (.int .i64 t456)
                 have HBW : Below w.heap.size w (((w80.setCell ⟨gb457, 0, none⟩ (.slice Ao81 t450.length co81)).setCell ⟨gb457, 1, none⟩ (.slice Ao83 t453.length co83)).setCell ⟨gb457, 2, none⟩ (.int .i64 t456)) := below_set (below_set (below_set HB.out GE457.out) GE457.out) GE457.out
                 clear HO_4 HO_7 HO_11 HO_13 HO_402000 HO_402001 HO_419000 HO_419001 HO_430000 HO_430001 HO_441000 HO_441001 HO452 HO455
                 clear BK401 BK418 BK429 BK440 BK457 HB
                 clear hns82_0 hms82_0 hns82_1 hms82_1 hns82_2 hms82_2 hns82_3 hms82_3 hns84_0 hms84_0 hns84_1 hms84_1 hns84_2 hms84_2 hns84_3 hms84_3 hns85_0 hms85_0 hns85_1 hms85_1 hns85_2 hms85_2 hns85_3 hms85_3
                 clear hs82 hfs82 hs84 hfs84 hs85 hfs85
                 clear hnb24 hnc24 hnb31 hnc31 hnb32 hnc32 hnb39 hnc39 hnb40 hnc40 hnb41 hnc41
                 clear hHeld hS_ hx446_0 p446 q446 qi446
                 generalize (((w80.setCell ⟨gb457, 0, none⟩ (.slice Ao81 t450.length co81)).setCell ⟨gb457, 1, none⟩ (.slice Ao83 t453.length co83)).setCell ⟨gb457, 2, none⟩ (.int .i64 t456)) = W at Ct394 Ct397 Ct411 Ct414 Ct430 Ct433 Ct407 Ct402 Ct450 Ct453 K401 K418 K429 K440 K457 HBW ⊢
                 have x418_0 : W.cell? ⟨gb418, 0, none⟩ = some (.slice Ao23 t411.length co23) := (blk_cell K418 0).trans rfl
                 have x418_1 : W.cell? ⟨gb418, 1, none⟩ = some (.slice Ao26 t414.length co26) := (blk_cell K418 1).trans rfl
                 have x418_2 : W.cell? ⟨gb418, 2, none⟩ = some (.int .i64 t417) := (blk_cell K418 2).trans rfl
                 go_wp2_with ((go_at_call 27; refine (laws_sameInts.calls k1 _ _ t407 _ _ t402 true _ Ct407 Lt407 Ct402 Lt402 A56.out).mono ?_; rintro e w' ⟨rfl, nd1, rfl⟩))
                 refine (impl_LeftOf.calls k1 _ _ t411 _ _ t414 t417 t459 _ (Kd.C_drewN Ct411 nd1) Lt411 (Kd.C_drewN Ct414 nd1) Lt414 A58.out).mono ?_
                 rintro e W2 ⟨v2, rfl, hR2, hb2⟩
                 dsimp only
                 have hb2 : Below W.heap.size W W2 := ⟨hb2.os, hb2.tape, hb2.output, hb2.size, hb2.block⟩
                 obtain ⟨A2x, c2x, e2x⟩ := Kd.R_slice hR2
                 subst e2x
                 clear hR2
                 clear x418_0 x418_1 x418_2
                 replace Ct394 := Kd.C_below Ct394 hb2
                 replace Ct397 := Kd.C_below Ct397 hb2
                 replace Ct411 := Kd.C_below Ct411 hb2
                 replace Ct414 := Kd.C_below Ct414 hb2
                 replace Ct430 := Kd.C_below Ct430 hb2
                 replace Ct433 := Kd.C_below Ct433 hb2
                 replace Ct450 := Kd.C_below Ct450 hb2
                 replace Ct453 := Kd.C_below Ct453 hb2
                 replace K401 := blk_below K401 hb2
                 replace K418 := blk_below K418 hb2
                 replace K429 := blk_below K429 hb2
                 replace K440 := blk_below K440 hb2
                 replace K457 := blk_below K457 hb2
                 replace HBW := below_step HBW hb2
                 clear hb2 Ct407 Ct402
                 have x440_0 : W2.cell? ⟨gb440, 0, none⟩ = some (.slice Ao38 t430.length co38) := (blk_cell K440 0).trans rfl
                 have x440_1 : W2.cell? ⟨gb440, 1, none⟩ = some (.slice Ao43 t433.length co43) := (blk_cell K440 1).trans rfl
                 have x440_2 : W2.cell? ⟨gb440, 2, none⟩ = some (.int .i64 t436) := (blk_cell K440 2).trans rfl
                 have x418_0 : W2.cell? ⟨gb418, 0, none⟩ = some (.slice Ao23 t411.length co23) := (blk_cell K418 0).trans rfl
                 have x418_1 : W2.cell? ⟨gb418, 1, none⟩ = some (.slice Ao26 t414.length co26) := (blk_cell K418 1).trans rfl
                 have x418_2 : W2.cell? ⟨gb418, 2, none⟩ = some (.int .i64 t417) := (blk_cell K418 2).trans rfl
                 go_wp2_with fail
                 refine (laws_sameFlight.calls k1 _ _ t430 _ _ t433 t436 _ _ t411 _ _ t414 t417 true _ Ct430 Lt430 Ct433 Lt433 Ct411 Lt411 Ct414 Lt414 A61.out).mono ?_
                 rintro e W3 ⟨rfl, hb3⟩
                 dsimp only
                 clear x440_0 x440_1 x440_2 x418_0 x418_1 x418_2
                 replace Ct394 := Kd.C_below Ct394 hb3
                 replace Ct397 := Kd.C_below Ct397 hb3
                 replace Ct411 := Kd.C_below Ct411 hb3
                 replace Ct414 := Kd.C_below Ct414 hb3
                 replace Ct430 := Kd.C_below Ct430 hb3
                 replace Ct433 := Kd.C_below Ct433 hb3
                 replace Ct450 := Kd.C_below Ct450 hb3
                 replace Ct453 := Kd.C_below Ct453 hb3
                 replace K401 := blk_below K401 hb3
                 replace K418 := blk_below K418 hb3
                 replace K429 := blk_below K429 hb3
                 replace K440 := blk_below K440 hb3
                 replace K457 := blk_below K457 hb3
                 replace HBW := below_step HBW hb3
                 clear hb3
                 have x429_0 : W3.cell? ⟨gb429, 0, none⟩ = some (.slice Ao30 t419.length co30) := (blk_cell K429 0).trans rfl
                 have x429_1 : W3.cell? ⟨gb429, 1, none⟩ = some (.slice Ao34 t422.length co34) := (blk_cell K429 1).trans rfl
                 have x429_2 : W3.cell? ⟨gb429, 2, none⟩ = some (.int .i64 t425) := (blk_cell K429 2).trans rfl
                 have x401_0 : W3.cell? ⟨gb401, 0, none⟩ = some (.slice Ao13 t394.length co13) := (blk_cell K401 0).trans rfl
                 have x401_1 : W3.cell? ⟨gb401, 1, none⟩ = some (.slice Ao15 t397.length co15) := (blk_cell K401 1).trans rfl
                 have x401_2 : W3.cell? ⟨gb401, 2, none⟩ = some (.int .i64 t400) := (blk_cell K401 2).trans rfl
                 go_wp2_with fail
                 refine (impl_FlightOk.calls k1 _ _ t394 _ _ t397 t400 true _ Ct394 Lt394 Ct397 Lt397 A65.out).mono ?_
                 rintro e W4 ⟨rfl, hb4⟩
                 dsimp only
                 clear x429_0 x429_1 x429_2 x401_0 x401_1 x401_2
                 replace Ct394 := Kd.C_below Ct394 hb4
                 replace Ct397 := Kd.C_below Ct397 hb4
                 replace Ct411 := Kd.C_below Ct411 hb4
                 replace Ct414 := Kd.C_below Ct414 hb4
                 replace Ct430 := Kd.C_below Ct430 hb4
                 replace Ct433 := Kd.C_below Ct433 hb4
                 replace Ct450 := Kd.C_below Ct450 hb4
                 replace Ct453 := Kd.C_below Ct453 hb4
                 replace K401 := blk_below K401 hb4
                 replace K418 := blk_below K418 hb4
                 replace K429 := blk_below K429 hb4
                 replace K440 := blk_below K440 hb4
                 replace K457 := blk_below K457 hb4
                 replace HBW := below_step HBW hb4
                 clear hb4
                 have x457_0 : W4.cell? ⟨gb457, 0, none⟩ = some (.slice Ao81 t450.length co81) := (blk_cell K457 0).trans rfl
                 have x457_1 : W4.cell? ⟨gb457, 1, none⟩ = some (.slice Ao83 t453.length co83) := (blk_cell K457 1).trans rfl
                 have x457_2 : W4.cell? ⟨gb457, 2, none⟩ = some (.int .i64 t456) := (blk_cell K457 2).trans rfl
                 go_wp2_with fail
                 refine (impl_FlightOk.calls k1 _ _ t450 _ _ t453 t456 true _ Ct450 Lt450 Ct453 Lt453 A67.out).mono ?_
                 rintro e W5 ⟨rfl, hb5⟩
                 dsimp only
                 clear x457_0 x457_1 x457_2
                 replace Ct394 := Kd.C_below Ct394 hb5
                 replace Ct397 := Kd.C_below Ct397 hb5
                 replace Ct411 := Kd.C_below Ct411 hb5
                 replace Ct414 := Kd.C_below Ct414 hb5
                 replace Ct430 := Kd.C_below Ct430 hb5
                 replace Ct433 := Kd.C_below Ct433 hb5
                 replace Ct450 := Kd.C_below Ct450 hb5
                 replace Ct453 := Kd.C_below Ct453 hb5
                 replace K401 := blk_below K401 hb5
                 replace K418 := blk_below K418 hb5
                 replace K429 := blk_below K429 hb5
                 replace K440 := blk_below K440 hb5
                 replace K457 := blk_below K457 hb5
                 replace HBW := below_step HBW hb5
                 clear hb5
                 have x457_0 : W5.cell? ⟨gb457, 0, none⟩ = some (.slice Ao81 t450.length co81) := (blk_cell K457 0).trans rfl
                 have x457_1 : W5.cell? ⟨gb457, 1, none⟩ = some (.slice Ao83 t453.length co83) := (blk_cell K457 1).trans rfl
                 have x457_2 : W5.cell? ⟨gb457, 2, none⟩ = some (.int .i64 t456) := (blk_cell K457 2).trans rfl
                 go_wp2_with fail
                 refine (impl_LeftOf.calls k1 _ _ t450 _ _ t453 t456 t465 _ Ct450 Lt450 Ct453 Lt453 A69.out).mono ?_
                 rintro e W6 ⟨v6, rfl, hR6, hb6⟩
                 dsimp only
                 obtain ⟨A6x, c6x, e6x⟩ := Kd.R_slice hR6
                 subst e6x
                 clear hR6
                 clear x457_0 x457_1 x457_2
                 replace Ct394 := Kd.C_below Ct394 hb6
                 replace Ct397 := Kd.C_below Ct397 hb6
                 replace Ct411 := Kd.C_below Ct411 hb6
                 replace Ct414 := Kd.C_below Ct414 hb6
                 replace Ct430 := Kd.C_below Ct430 hb6
                 replace Ct433 := Kd.C_below Ct433 hb6
                 replace Ct450 := Kd.C_below Ct450 hb6
                 replace Ct453 := Kd.C_below Ct453 hb6
                 replace K401 := blk_below K401 hb6
                 replace K418 := blk_below K418 hb6
                 replace K429 := blk_below K429 hb6
                 replace K440 := blk_below K440 hb6
                 replace K457 := blk_below K457 hb6
                 replace HBW := below_step HBW hb6
                 clear hb6
                 have x401_0 : W6.cell? ⟨gb401, 0, none⟩ = some (.slice Ao13 t394.length co13) := (blk_cell K401 0).trans rfl
                 have x401_1 : W6.cell? ⟨gb401, 1, none⟩ = some (.slice Ao15 t397.length co15) := (blk_cell K401 1).trans rfl
                 have x401_2 : W6.cell? ⟨gb401, 2, none⟩ = some (.int .i64 t400) := (blk_cell K401 2).trans rfl
                 go_wp2
                 go_ret
                 exact ⟨by first | rfl | (simp; done) | (simp [*]; done), by repeat (first | exact HBW | apply pw_below_drewN | apply below_drew1)⟩
                ·
                 rw [if_neg c70] at H
                 exact absurd H (by simp)
               ·
                replace c68 := Bool.eq_false_iff.mpr c68
                subst c68
                have H1 : (none) = some r := by rw [if_neg (show ¬ (false = true) by decide)] at H; exact H
                clear H
                have H := H1
                clear H1
                exact absurd H (by simp)
              ·
               replace c66 := Bool.eq_false_iff.mpr c66
               subst c66
               have H1 : (none) = some r := by rw [if_neg (show ¬ (false = true) by decide)] at H; exact H
               clear H
               have H := H1
               clear H1
               exact absurd H (by simp)
             ·
              rw [if_neg c64] at H
              have c64b0 : (t425 == (wrap64 (t400 + 1))) = false := beq_eq_false_iff_ne.mpr c64
              have c64b1 : (t425 != (wrap64 (t400 + 1))) = true := bne_iff_ne.mpr c64
              by_cases c113 : (t426.length : Int) = 0
              ·
               rw [if_pos c113] at H
               have c113b0 : ((t426.length : Int) == 0) = true := beq_iff_eq.mpr c113
               have c113b1 : ((t426.length : Int) != 0) = false := bne_eq_false_iff_eq.mpr c113
               clear c113
               by_cases c114 : t425 = t400
               ·
                rw [if_pos c114] at H
                have c114b0 : (t425 == t400) = true := beq_iff_eq.mpr c114
                have c114b1 : (t425 != t400) = false := bne_eq_false_iff_eq.mpr c114
                clear c114
                replace H := Option.bind_eq_some_iff.mp H
                obtain ⟨t468, A1150, H⟩ := H
                replace H : (if t468 = true then ((impl_FlightOk.f k1 t450 t453 t456).bind fun t469 => (if t469 = true then ((impl_LeftOf.f k1 t450 t453 t456).bind fun t470 => (if (t470.length : Int) ≤ (t402.length : Int) then (some ((wrap64 ((t402.length : Int) + (t397.length : Int))) == (t394.length : Int))) else (none))) else (none))) else (none)) = some r := H
                have A115 := Aside0.mk A1150
                clear A1150
                by_cases c116 : t468 = true
                ·
                 subst c116
                 have H1 : ((impl_FlightOk.f k1 t450 t453 t456).bind fun t469 => (if t469 = true then ((impl_LeftOf.f k1 t450 t453 t456).bind fun t470 => (if (t470.length : Int) ≤ (t402.length : Int) then (some ((wrap64 ((t402.length : Int) + (t397.length : Int))) == (t394.length : Int))) else (none))) else (none))) = some r := by rw [if_pos rfl] at H; exact H
                 clear H
                 have H := H1
                 clear H1
                 replace H := Option.bind_eq_some_iff.mp H
                 obtain ⟨t469, A1170, H⟩ := H
                 replace H : (if t469 = true then ((impl_LeftOf.f k1 t450 t453 t456).bind fun t470 => (if (t470.length : Int) ≤ (t402.length : Int) then (some ((wrap64 ((t402.length : Int) + (t397.length : Int))) == (t394.length : Int))) else (none))) else (none)) = some r := H
                 have A117 := Aside0.mk A1170
                 clear A1170
                 by_cases c118 : t469 = true
                 ·
                  subst c118
                  have H1 : ((impl_LeftOf.f k1 t450 t453 t456).bind fun t470 => (if (t470.length : Int) ≤ (t402.length : Int) then (some ((wrap64 ((t402.length : Int) + (t397.length : Int))) == (t394.length : Int))) else (none))) = some r := by rw [if_pos rfl] at H; exact H
                  clear H
                  have H := H1
                  clear H1
                  replace H := Option.bind_eq_some_iff.mp H
                  obtain ⟨t470, A1190, H⟩ := H
                  replace H : (if (t470.length : Int) ≤ (t402.length : Int) then (some ((wrap64 ((t402.length : Int) + (t397.length : Int))) == (t394.length : Int))) else (none)) = some r := H
                  have A119 := Aside0.mk A1190
                  clear A1190
                  by_cases c120 : (t470.length : Int) ≤ (t402.length : Int)
                  ·
                   rw [if_pos c120] at H
                   have c120b0 : decide ((t470.length : Int) ≤ (t402.length : Int)) = true := decide_eq_true c120
                   have c120b1 : decide (t470.length ≤ t402.length) = true := decide_eq_true (Int.ofNat_le.mp c120)
                   clear c120
                   obtain rfl := Option.some.inj H
                   obtain ⟨zT, hzT⟩ : ∃ z_, wrap64 (t400 + 1) = z_ := ⟨_, rfl⟩
                   (try rw [hzT] at c64b0 c64b1)
                   have e425 := eq_of_beq c114b0
                   clear c114b0 c114b1
                   subst e425
                   obtain ⟨Ao13x, co13x, eo13x⟩ := Kd.R_slice HO_13.out
                   subst eo13x
                   have Zt394 := R_after3 HO_402000.out BK457.out (.slice Ao81 t450.length co81) (.slice Ao83 t453.length co83) (.int .i64 t456)
                   have Zt397 := R_after3 HO_402001.out BK457.out (.slice Ao81 t450.length co81) (.slice Ao83 t453.length co83) (.int .i64 t456)
                   have Zt411 := R_after3 HO_419000.out BK457.out (.slice Ao81 t450.length co81) (.slice Ao83 t453.length co83) (.int .i64 t456)
                   have Zt414 := R_after3 HO_419001.out BK457.out (.slice Ao81 t450.length co81) (.slice Ao83 t453.length co83) (.int .i64 t456)
                   have Zt430 := R_after3 HO_441000.out BK457.out (.slice Ao81 t450.length co81) (.slice Ao83 t453.length co83) (.int .i64 t456)
                   have Zt433 := R_after3 HO_441001.out BK457.out (.slice Ao81 t450.length co81) (.slice Ao83 t453.length co83) (.int .i64 t456)
                   have Zt407 := R_after3 HO_7.out BK457.out (.slice Ao81 t450.length co81) (.slice Ao83 t453.length co83) (.int .i64 t456)
                   have Zt402 := R_after3 HO_4.out BK457.out (.slice Ao81 t450.length co81) (.slice Ao83 t453.length co83) (.int .i64 t456)
                   have Zt450 := R_after3 HO452.out BK457.out (.slice Ao81 t450.length co81) (.slice Ao83 t453.length co83) (.int .i64 t456)
                   have Zt453 := R_after3 HO455.out BK457.out (.slice Ao81 t450.length co81) (.slice Ao83 t453.length co83) (.int .i64 t456)
                   have Lt394 := (Kd.R_reads' Zt394).2.1
                   have Ct394 := (Kd.R_reads' Zt394).2.2
                   clear Zt394
                   have Lt397 := (Kd.R_reads' Zt397).2.1
                   have Ct397 := (Kd.R_reads' Zt397).2.2
                   clear Zt397
                   have Lt411 := (Kd.R_reads' Zt411).2.1
                   have Ct411 := (Kd.R_reads' Zt411).2.2
                   clear Zt411
                   have Lt414 := (Kd.R_reads' Zt414).2.1
                   have Ct414 := (Kd.R_reads' Zt414).2.2
                   clear Zt414
                   have Lt430 := (Kd.R_reads' Zt430).2.1
                   have Ct430 := (Kd.R_reads' Zt430).2.2
                   clear Zt430
                   have Lt433 := (Kd.R_reads' Zt433).2.1
                   have Ct433 := (Kd.R_reads' Zt433).2.2
                   clear Zt433
                   have Lt407 := (Kd.R_reads' Zt407).2.1
                   have Ct407 := (Kd.R_reads' Zt407).2.2
                   clear Zt407
                   have Lt402 := (Kd.R_reads' Zt402).2.1
                   have Ct402 := (Kd.R_reads' Zt402).2.2
                   clear Zt402
                   have Lt450 := (Kd.R_reads' Zt450).2.1
                   have Ct450 := (Kd.R_reads' Zt450).2.2
                   clear Zt450
                   have Lt453 := (Kd.R_reads' Zt453).2.1
                   have Ct453 := (Kd.R_reads' Zt453).2.2
                   clear Zt453
                   have K401 := far3 BK401.out NB401_457.out (.slice Ao81 t450.length co81) (.slice Ao83 t453.length co83) (.int .i64 t456)
                   have K418 := far3 BK418.out NB418_457.out (.slice Ao81 t450.length co81) (.slice Ao83 t453.length co83) (.int .i64 t456)
                   have K429 := far3 BK429.out NB429_457.out (.slice Ao81 t450.length co81) (.slice Ao83 t453.length co83) (.int .i64 t456)
                   have K440 := far3 BK440.out NB440_457.out (.slice Ao81 t450.length co81) (.slice Ao83 t453.length co83) (.int .i64 t456)
                   have K457 := blk3 BK457.out (.slice Ao81 t450.length co81) (.slice Ao83 t453.length co83) (.int .i64 t456)
                   have HBW : Below w.heap.size w (((w80.setCell ⟨gb457, 0, none⟩ (.slice Ao81 t450.length co81)).setCell ⟨gb457, 1, none⟩ (.slice Ao83 t453.length co83)).setCell ⟨gb457, 2, none⟩ (.int .i64 t456)) := below_set (below_set (below_set HB.out GE457.out) GE457.out) GE457.out
                   clear HO_4 HO_7 HO_11 HO_13 HO_402000 HO_402001 HO_419000 HO_419001 HO_430000 HO_430001 HO_441000 HO_441001 HO452 HO455
                   clear BK401 BK418 BK429 BK440 BK457 HB
                   clear hns82_0 hms82_0 hns82_1 hms82_1 hns82_2 hms82_2 hns82_3 hms82_3 hns84_0 hms84_0 hns84_1 hms84_1 hns84_2 hms84_2 hns84_3 hms84_3 hns85_0 hms85_0 hns85_1 hms85_1 hns85_2 hms85_2 hns85_3 hms85_3
                   clear hs82 hfs82 hs84 hfs84 hs85 hfs85
                   clear hnb24 hnc24 hnb31 hnc31 hnb32 hnc32 hnb39 hnc39 hnb40 hnc40 hnb41 hnc41
                   clear hHeld hS_ hx446_0 p446 q446 qi446
                   generalize (((w80.setCell ⟨gb457, 0, none⟩ (.slice Ao81 t450.length co81)).setCell ⟨gb457, 1, none⟩ (.slice Ao83 t453.length co83)).setCell ⟨gb457, 2, none⟩ (.int .i64 t456)) = W at Ct394 Ct397 Ct411 Ct414 Ct430 Ct433 Ct407 Ct402 Ct450 Ct453 K401 K418 K429 K440 K457 HBW ⊢
                   have x418_0 : W.cell? ⟨gb418, 0, none⟩ = some (.slice Ao23 t411.length co23) := (blk_cell K418 0).trans rfl
                   have x418_1 : W.cell? ⟨gb418, 1, none⟩ = some (.slice Ao26 t414.length co26) := (blk_cell K418 1).trans rfl
                   have x418_2 : W.cell? ⟨gb418, 2, none⟩ = some (.int .i64 t417) := (blk_cell K418 2).trans rfl
                   go_wp2_with ((go_at_call 27; refine (laws_sameInts.calls k1 _ _ t407 _ _ t402 true _ Ct407 Lt407 Ct402 Lt402 A56.out).mono ?_; rintro e w' ⟨rfl, nd1, rfl⟩))
                   refine (impl_LeftOf.calls k1 _ _ t411 _ _ t414 t417 t459 _ (Kd.C_drewN Ct411 nd1) Lt411 (Kd.C_drewN Ct414 nd1) Lt414 A58.out).mono ?_
                   rintro e W2 ⟨v2, rfl, hR2, hb2⟩
                   dsimp only
                   have hb2 : Below W.heap.size W W2 := ⟨hb2.os, hb2.tape, hb2.output, hb2.size, hb2.block⟩
                   obtain ⟨A2x, c2x, e2x⟩ := Kd.R_slice hR2
                   subst e2x
                   clear hR2
                   clear x418_0 x418_1 x418_2
                   replace Ct394 := Kd.C_below Ct394 hb2
                   replace Ct397 := Kd.C_below Ct397 hb2
                   replace Ct411 := Kd.C_below Ct411 hb2
                   replace Ct414 := Kd.C_below Ct414 hb2
                   replace Ct430 := Kd.C_below Ct430 hb2
                   replace Ct433 := Kd.C_below Ct433 hb2
                   replace Ct450 := Kd.C_below Ct450 hb2
                   replace Ct453 := Kd.C_below Ct453 hb2
                   replace K401 := blk_below K401 hb2
                   replace K418 := blk_below K418 hb2
                   replace K429 := blk_below K429 hb2
                   replace K440 := blk_below K440 hb2
                   replace K457 := blk_below K457 hb2
                   replace HBW := below_step HBW hb2
                   clear hb2 Ct407 Ct402
                   have x440_0 : W2.cell? ⟨gb440, 0, none⟩ = some (.slice Ao38 t430.length co38) := (blk_cell K440 0).trans rfl
                   have x440_1 : W2.cell? ⟨gb440, 1, none⟩ = some (.slice Ao43 t433.length co43) := (blk_cell K440 1).trans rfl
                   have x440_2 : W2.cell? ⟨gb440, 2, none⟩ = some (.int .i64 t436) := (blk_cell K440 2).trans rfl
                   have x418_0 : W2.cell? ⟨gb418, 0, none⟩ = some (.slice Ao23 t411.length co23) := (blk_cell K418 0).trans rfl
                   have x418_1 : W2.cell? ⟨gb418, 1, none⟩ = some (.slice Ao26 t414.length co26) := (blk_cell K418 1).trans rfl
                   have x418_2 : W2.cell? ⟨gb418, 2, none⟩ = some (.int .i64 t417) := (blk_cell K418 2).trans rfl
                   go_wp2_with fail
                   refine (laws_sameFlight.calls k1 _ _ t430 _ _ t433 t436 _ _ t411 _ _ t414 t417 true _ Ct430 Lt430 Ct433 Lt433 Ct411 Lt411 Ct414 Lt414 A61.out).mono ?_
                   rintro e W3 ⟨rfl, hb3⟩
                   dsimp only
                   clear x440_0 x440_1 x440_2 x418_0 x418_1 x418_2
                   replace Ct394 := Kd.C_below Ct394 hb3
                   replace Ct397 := Kd.C_below Ct397 hb3
                   replace Ct411 := Kd.C_below Ct411 hb3
                   replace Ct414 := Kd.C_below Ct414 hb3
                   replace Ct430 := Kd.C_below Ct430 hb3
                   replace Ct433 := Kd.C_below Ct433 hb3
                   replace Ct450 := Kd.C_below Ct450 hb3
                   replace Ct453 := Kd.C_below Ct453 hb3
                   replace K401 := blk_below K401 hb3
                   replace K418 := blk_below K418 hb3
                   replace K429 := blk_below K429 hb3
                   replace K440 := blk_below K440 hb3
                   replace K457 := blk_below K457 hb3
                   replace HBW := below_step HBW hb3
                   clear hb3
                   have x429_0 : W3.cell? ⟨gb429, 0, none⟩ = some (.slice Ao30 t419.length co30) := (blk_cell K429 0).trans rfl
                   have x429_1 : W3.cell? ⟨gb429, 1, none⟩ = some (.slice Ao34 t422.length co34) := (blk_cell K429 1).trans rfl
                   have x429_2 : W3.cell? ⟨gb429, 2, none⟩ = some (.int .i64 t425) := (blk_cell K429 2).trans rfl
                   have x401_0 : W3.cell? ⟨gb401, 0, none⟩ = some (.slice Ao13 t394.length co13) := (blk_cell K401 0).trans rfl
                   have x401_1 : W3.cell? ⟨gb401, 1, none⟩ = some (.slice Ao15 t397.length co15) := (blk_cell K401 1).trans rfl
                   have x401_2 : W3.cell? ⟨gb401, 2, none⟩ = some (.int .i64 t425) := (blk_cell K401 2).trans rfl
                   go_wp2_with fail
                   refine (impl_FlightOk.calls k1 _ _ t394 _ _ t397 t425 true _ Ct394 Lt394 Ct397 Lt397 A115.out).mono ?_
                   rintro e W4 ⟨rfl, hb4⟩
                   dsimp only
                   clear x429_0 x429_1 x429_2 x401_0 x401_1 x401_2
                   replace Ct394 := Kd.C_below Ct394 hb4
                   replace Ct397 := Kd.C_below Ct397 hb4
                   replace Ct411 := Kd.C_below Ct411 hb4
                   replace Ct414 := Kd.C_below Ct414 hb4
                   replace Ct430 := Kd.C_below Ct430 hb4
                   replace Ct433 := Kd.C_below Ct433 hb4
                   replace Ct450 := Kd.C_below Ct450 hb4
                   replace Ct453 := Kd.C_below Ct453 hb4
                   replace K401 := blk_below K401 hb4
                   replace K418 := blk_below K418 hb4
                   replace K429 := blk_below K429 hb4
                   replace K440 := blk_below K440 hb4
                   replace K457 := blk_below K457 hb4
                   replace HBW := below_step HBW hb4
                   clear hb4
                   have x457_0 : W4.cell? ⟨gb457, 0, none⟩ = some (.slice Ao81 t450.length co81) := (blk_cell K457 0).trans rfl
                   have x457_1 : W4.cell? ⟨gb457, 1, none⟩ = some (.slice Ao83 t453.length co83) := (blk_cell K457 1).trans rfl
                   have x457_2 : W4.cell? ⟨gb457, 2, none⟩ = some (.int .i64 t456) := (blk_cell K457 2).trans rfl
                   go_wp2_with fail
                   refine (impl_FlightOk.calls k1 _ _ t450 _ _ t453 t456 true _ Ct450 Lt450 Ct453 Lt453 A117.out).mono ?_
                   rintro e W5 ⟨rfl, hb5⟩
                   dsimp only
                   clear x457_0 x457_1 x457_2
                   replace Ct394 := Kd.C_below Ct394 hb5
                   replace Ct397 := Kd.C_below Ct397 hb5
                   replace Ct411 := Kd.C_below Ct411 hb5
                   replace Ct414 := Kd.C_below Ct414 hb5
                   replace Ct430 := Kd.C_below Ct430 hb5
                   replace Ct433 := Kd.C_below Ct433 hb5
                   replace Ct450 := Kd.C_below Ct450 hb5
                   replace Ct453 := Kd.C_below Ct453 hb5
                   replace K401 := blk_below K401 hb5
                   replace K418 := blk_below K418 hb5
                   replace K429 := blk_below K429 hb5
                   replace K440 := blk_below K440 hb5
                   replace K457 := blk_below K457 hb5
                   replace HBW := below_step HBW hb5
                   clear hb5
                   have x457_0 : W5.cell? ⟨gb457, 0, none⟩ = some (.slice Ao81 t450.length co81) := (blk_cell K457 0).trans rfl
                   have x457_1 : W5.cell? ⟨gb457, 1, none⟩ = some (.slice Ao83 t453.length co83) := (blk_cell K457 1).trans rfl
                   have x457_2 : W5.cell? ⟨gb457, 2, none⟩ = some (.int .i64 t456) := (blk_cell K457 2).trans rfl
                   go_wp2_with fail
                   refine (impl_LeftOf.calls k1 _ _ t450 _ _ t453 t456 t470 _ Ct450 Lt450 Ct453 Lt453 A119.out).mono ?_
                   rintro e W6 ⟨v6, rfl, hR6, hb6⟩
                   dsimp only
                   obtain ⟨A6x, c6x, e6x⟩ := Kd.R_slice hR6
                   subst e6x
                   clear hR6
                   clear x457_0 x457_1 x457_2
                   replace Ct394 := Kd.C_below Ct394 hb6
                   replace Ct397 := Kd.C_below Ct397 hb6
                   replace Ct411 := Kd.C_below Ct411 hb6
                   replace Ct414 := Kd.C_below Ct414 hb6
                   replace Ct430 := Kd.C_below Ct430 hb6
                   replace Ct433 := Kd.C_below Ct433 hb6
                   replace Ct450 := Kd.C_below Ct450 hb6
                   replace Ct453 := Kd.C_below Ct453 hb6
                   replace K401 := blk_below K401 hb6
                   replace K418 := blk_below K418 hb6
                   replace K429 := blk_below K429 hb6
                   replace K440 := blk_below K440 hb6
                   replace K457 := blk_below K457 hb6
                   replace HBW := below_step HBW hb6
                   clear hb6
                   have x401_0 : W6.cell? ⟨gb401, 0, none⟩ = some (.slice Ao13 t394.length co13) := (blk_cell K401 0).trans rfl
                   have x401_1 : W6.cell? ⟨gb401, 1, none⟩ = some (.slice Ao15 t397.length co15) := (blk_cell K401 1).trans rfl
                   have x401_2 : W6.cell? ⟨gb401, 2, none⟩ = some (.int .i64 t425) := (blk_cell K401 2).trans rfl
                   go_wp2
                   go_ret
                   exact ⟨by first | rfl | (simp; done) | (simp [*]; done), by repeat (first | exact HBW | apply pw_below_drewN | apply below_drew1)⟩
                  ·
                   rw [if_neg c120] at H
                   exact absurd H (by simp)
                 ·
                  replace c118 := Bool.eq_false_iff.mpr c118
                  subst c118
                  have H1 : (none) = some r := by rw [if_neg (show ¬ (false = true) by decide)] at H; exact H
                  clear H
                  have H := H1
                  clear H1
                  exact absurd H (by simp)
                ·
                 replace c116 := Bool.eq_false_iff.mpr c116
                 subst c116
                 have H1 : (none) = some r := by rw [if_neg (show ¬ (false = true) by decide)] at H; exact H
                 clear H
                 have H := H1
                 clear H1
                 exact absurd H (by simp)
               ·
                rw [if_neg c114] at H
                exact absurd H (by simp)
              ·
               rw [if_neg c113] at H
               exact absurd H (by simp)
            ·
             rw [if_neg c63] at H
             have c63b0 : ((t426.length : Int) == (t402.length : Int)) = false := beq_eq_false_iff_ne.mpr c63
             have c63b1 : ((t426.length : Int) != (t402.length : Int)) = true := bne_iff_ne.mpr c63
             have c63b2 : (t426.length == t402.length) = false := by first | simpa using c63 | (simp at c63 ⊢; omega)
             by_cases c163 : (t426.length : Int) = 0
             ·
              rw [if_pos c163] at H
              have c163b0 : ((t426.length : Int) == 0) = true := beq_iff_eq.mpr c163
              have c163b1 : ((t426.length : Int) != 0) = false := bne_eq_false_iff_eq.mpr c163
              clear c163
              by_cases c164 : t425 = t400
              ·
               rw [if_pos c164] at H
               have c164b0 : (t425 == t400) = true := beq_iff_eq.mpr c164
               have c164b1 : (t425 != t400) = false := bne_eq_false_iff_eq.mpr c164
               clear c164
               replace H := Option.bind_eq_some_iff.mp H
               obtain ⟨t473, A1650, H⟩ := H
               replace H : (if t473 = true then ((impl_FlightOk.f k1 t450 t453 t456).bind fun t474 => (if t474 = true then ((impl_LeftOf.f k1 t450 t453 t456).bind fun t475 => (if (t475.length : Int) ≤ (t402.length : Int) then (some ((wrap64 ((t402.length : Int) + (t397.length : Int))) == (t394.length : Int))) else (none))) else (none))) else (none)) = some r := H
               have A165 := Aside0.mk A1650
               clear A1650
               by_cases c166 : t473 = true
               ·
                subst c166
                have H1 : ((impl_FlightOk.f k1 t450 t453 t456).bind fun t474 => (if t474 = true then ((impl_LeftOf.f k1 t450 t453 t456).bind fun t475 => (if (t475.length : Int) ≤ (t402.length : Int) then (some ((wrap64 ((t402.length : Int) + (t397.length : Int))) == (t394.length : Int))) else (none))) else (none))) = some r := by rw [if_pos rfl] at H; exact H
                clear H
                have H := H1
                clear H1
                replace H := Option.bind_eq_some_iff.mp H
                obtain ⟨t474, A1670, H⟩ := H
                replace H : (if t474 = true then ((impl_LeftOf.f k1 t450 t453 t456).bind fun t475 => (if (t475.length : Int) ≤ (t402.length : Int) then (some ((wrap64 ((t402.length : Int) + (t397.length : Int))) == (t394.length : Int))) else (none))) else (none)) = some r := H
                have A167 := Aside0.mk A1670
                clear A1670
                by_cases c168 : t474 = true
                ·
                 subst c168
                 have H1 : ((impl_LeftOf.f k1 t450 t453 t456).bind fun t475 => (if (t475.length : Int) ≤ (t402.length : Int) then (some ((wrap64 ((t402.length : Int) + (t397.length : Int))) == (t394.length : Int))) else (none))) = some r := by rw [if_pos rfl] at H; exact H
                 clear H
                 have H := H1
                 clear H1
                 replace H := Option.bind_eq_some_iff.mp H
                 obtain ⟨t475, A1690, H⟩ := H
                 replace H : (if (t475.length : Int) ≤ (t402.length : Int) then (some ((wrap64 ((t402.length : Int) + (t397.length : Int))) == (t394.length : Int))) else (none)) = some r := H
                 have A169 := Aside0.mk A1690
                 clear A1690
                 by_cases c170 : (t475.length : Int) ≤ (t402.length : Int)
                 ·
                  rw [if_pos c170] at H
                  have c170b0 : decide ((t475.length : Int) ≤ (t402.length : Int)) = true := decide_eq_true c170
                  have c170b1 : decide (t475.length ≤ t402.length) = true := decide_eq_true (Int.ofNat_le.mp c170)
                  clear c170
                  obtain rfl := Option.some.inj H
                  obtain ⟨zT, hzT⟩ : ∃ z_, wrap64 (t400 + 1) = z_ := ⟨_, rfl⟩
                  (try rw [hzT] at c64b0 c64b1)
                  have e425 := eq_of_beq c164b0
                  clear c164b0 c164b1
                  subst e425
                  obtain ⟨Ao13x, co13x, eo13x⟩ := Kd.R_slice HO_13.out
                  subst eo13x
                  have Zt394 := R_after3 HO_402000.out BK457.out (.slice Ao81 t450.length co81) (.slice Ao83 t453.length co83) (.int .i64 t456)
                  have Zt397 := R_after3 HO_402001.out BK457.out (.slice Ao81 t450.length co81) (.slice Ao83 t453.length co83) (.int .i64 t456)
                  have Zt411 := R_after3 HO_419000.out BK457.out (.slice Ao81 t450.length co81) (.slice Ao83 t453.length co83) (.int .i64 t456)
                  have Zt414 := R_after3 HO_419001.out BK457.out (.slice Ao81 t450.length co81) (.slice Ao83 t453.length co83) (.int .i64 t456)
                  have Zt430 := R_after3 HO_441000.out BK457.out (.slice Ao81 t450.length co81) (.slice Ao83 t453.length co83) (.int .i64 t456)
                  have Zt433 := R_after3 HO_441001.out BK457.out (.slice Ao81 t450.length co81) (.slice Ao83 t453.length co83) (.int .i64 t456)
                  have Zt407 := R_after3 HO_7.out BK457.out (.slice Ao81 t450.length co81) (.slice Ao83 t453.length co83) (.int .i64 t456)
                  have Zt402 := R_after3 HO_4.out BK457.out (.slice Ao81 t450.length co81) (.slice Ao83 t453.length co83) (.int .i64 t456)
                  have Zt450 := R_after3 HO452.out BK457.out (.slice Ao81 t450.length co81) (.slice Ao83 t453.length co83) (.int .i64 t456)
                  have Zt453 := R_after3 HO455.out BK457.out (.slice Ao81 t450.length co81) (.slice Ao83 t453.length co83) (.int .i64 t456)
                  have Lt394 := (Kd.R_reads' Zt394).2.1
                  have Ct394 := (Kd.R_reads' Zt394).2.2
                  clear Zt394
                  have Lt397 := (Kd.R_reads' Zt397).2.1
                  have Ct397 := (Kd.R_reads' Zt397).2.2
                  clear Zt397
                  have Lt411 := (Kd.R_reads' Zt411).2.1
                  have Ct411 := (Kd.R_reads' Zt411).2.2
                  clear Zt411
                  have Lt414 := (Kd.R_reads' Zt414).2.1
                  have Ct414 := (Kd.R_reads' Zt414).2.2
                  clear Zt414
                  have Lt430 := (Kd.R_reads' Zt430).2.1
                  have Ct430 := (Kd.R_reads' Zt430).2.2
                  clear Zt430
                  have Lt433 := (Kd.R_reads' Zt433).2.1
                  have Ct433 := (Kd.R_reads' Zt433).2.2
                  clear Zt433
                  have Lt407 := (Kd.R_reads' Zt407).2.1
                  have Ct407 := (Kd.R_reads' Zt407).2.2
                  clear Zt407
                  have Lt402 := (Kd.R_reads' Zt402).2.1
                  have Ct402 := (Kd.R_reads' Zt402).2.2
                  clear Zt402
                  have Lt450 := (Kd.R_reads' Zt450).2.1
                  have Ct450 := (Kd.R_reads' Zt450).2.2
                  clear Zt450
                  have Lt453 := (Kd.R_reads' Zt453).2.1
                  have Ct453 := (Kd.R_reads' Zt453).2.2
                  clear Zt453
                  have K401 := far3 BK401.out NB401_457.out (.slice Ao81 t450.length co81) (.slice Ao83 t453.length co83) (.int .i64 t456)
                  have K418 := far3 BK418.out NB418_457.out (.slice Ao81 t450.length co81) (.slice Ao83 t453.length co83) (.int .i64 t456)
                  have K429 := far3 BK429.out NB429_457.out (.slice Ao81 t450.length co81) (.slice Ao83 t453.length co83) (.int .i64 t456)
                  have K440 := far3 BK440.out NB440_457.out (.slice Ao81 t450.length co81) (.slice Ao83 t453.length co83) (.int .i64 t456)
                  have K457 := blk3 BK457.out (.slice Ao81 t450.length co81) (.slice Ao83 t453.length co83) (.int .i64 t456)
                  have HBW : Below w.heap.size w (((w80.setCell ⟨gb457, 0, none⟩ (.slice Ao81 t450.length co81)).setCell ⟨gb457, 1, none⟩ (.slice Ao83 t453.length co83)).setCell ⟨gb457, 2, none⟩ (.int .i64 t456)) := below_set (below_set (below_set HB.out GE457.out) GE457.out) GE457.out
                  clear HO_4 HO_7 HO_11 HO_13 HO_402000 HO_402001 HO_419000 HO_419001 HO_430000 HO_430001 HO_441000 HO_441001 HO452 HO455
                  clear BK401 BK418 BK429 BK440 BK457 HB
                  clear hns82_0 hms82_0 hns82_1 hms82_1 hns82_2 hms82_2 hns82_3 hms82_3 hns84_0 hms84_0 hns84_1 hms84_1 hns84_2 hms84_2 hns84_3 hms84_3 hns85_0 hms85_0 hns85_1 hms85_1 hns85_2 hms85_2 hns85_3 hms85_3
                  clear hs82 hfs82 hs84 hfs84 hs85 hfs85
                  clear hnb24 hnc24 hnb31 hnc31 hnb32 hnc32 hnb39 hnc39 hnb40 hnc40 hnb41 hnc41
                  clear hHeld hS_ hx446_0 p446 q446 qi446
                  generalize (((w80.setCell ⟨gb457, 0, none⟩ (.slice Ao81 t450.length co81)).setCell ⟨gb457, 1, none⟩ (.slice Ao83 t453.length co83)).setCell ⟨gb457, 2, none⟩ (.int .i64 t456)) = W at Ct394 Ct397 Ct411 Ct414 Ct430 Ct433 Ct407 Ct402 Ct450 Ct453 K401 K418 K429 K440 K457 HBW ⊢
                  have x418_0 : W.cell? ⟨gb418, 0, none⟩ = some (.slice Ao23 t411.length co23) := (blk_cell K418 0).trans rfl
                  have x418_1 : W.cell? ⟨gb418, 1, none⟩ = some (.slice Ao26 t414.length co26) := (blk_cell K418 1).trans rfl
                  have x418_2 : W.cell? ⟨gb418, 2, none⟩ = some (.int .i64 t417) := (blk_cell K418 2).trans rfl
                  go_wp2_with ((go_at_call 27; refine (laws_sameInts.calls k1 _ _ t407 _ _ t402 true _ Ct407 Lt407 Ct402 Lt402 A56.out).mono ?_; rintro e w' ⟨rfl, nd1, rfl⟩))
                  refine (impl_LeftOf.calls k1 _ _ t411 _ _ t414 t417 t459 _ (Kd.C_drewN Ct411 nd1) Lt411 (Kd.C_drewN Ct414 nd1) Lt414 A58.out).mono ?_
                  rintro e W2 ⟨v2, rfl, hR2, hb2⟩
                  dsimp only
                  have hb2 : Below W.heap.size W W2 := ⟨hb2.os, hb2.tape, hb2.output, hb2.size, hb2.block⟩
                  obtain ⟨A2x, c2x, e2x⟩ := Kd.R_slice hR2
                  subst e2x
                  clear hR2
                  clear x418_0 x418_1 x418_2
                  replace Ct394 := Kd.C_below Ct394 hb2
                  replace Ct397 := Kd.C_below Ct397 hb2
                  replace Ct411 := Kd.C_below Ct411 hb2
                  replace Ct414 := Kd.C_below Ct414 hb2
                  replace Ct430 := Kd.C_below Ct430 hb2
                  replace Ct433 := Kd.C_below Ct433 hb2
                  replace Ct450 := Kd.C_below Ct450 hb2
                  replace Ct453 := Kd.C_below Ct453 hb2
                  replace K401 := blk_below K401 hb2
                  replace K418 := blk_below K418 hb2
                  replace K429 := blk_below K429 hb2
                  replace K440 := blk_below K440 hb2
                  replace K457 := blk_below K457 hb2
                  replace HBW := below_step HBW hb2
                  clear hb2 Ct407 Ct402
                  have x440_0 : W2.cell? ⟨gb440, 0, none⟩ = some (.slice Ao38 t430.length co38) := (blk_cell K440 0).trans rfl
                  have x440_1 : W2.cell? ⟨gb440, 1, none⟩ = some (.slice Ao43 t433.length co43) := (blk_cell K440 1).trans rfl
                  have x440_2 : W2.cell? ⟨gb440, 2, none⟩ = some (.int .i64 t436) := (blk_cell K440 2).trans rfl
                  have x418_0 : W2.cell? ⟨gb418, 0, none⟩ = some (.slice Ao23 t411.length co23) := (blk_cell K418 0).trans rfl
                  have x418_1 : W2.cell? ⟨gb418, 1, none⟩ = some (.slice Ao26 t414.length co26) := (blk_cell K418 1).trans rfl
                  have x418_2 : W2.cell? ⟨gb418, 2, none⟩ = some (.int .i64 t417) := (blk_cell K418 2).trans rfl
                  go_wp2_with fail
                  refine (laws_sameFlight.calls k1 _ _ t430 _ _ t433 t436 _ _ t411 _ _ t414 t417 true _ Ct430 Lt430 Ct433 Lt433 Ct411 Lt411 Ct414 Lt414 A61.out).mono ?_
                  rintro e W3 ⟨rfl, hb3⟩
                  dsimp only
                  clear x440_0 x440_1 x440_2 x418_0 x418_1 x418_2
                  replace Ct394 := Kd.C_below Ct394 hb3
                  replace Ct397 := Kd.C_below Ct397 hb3
                  replace Ct411 := Kd.C_below Ct411 hb3
                  replace Ct414 := Kd.C_below Ct414 hb3
                  replace Ct430 := Kd.C_below Ct430 hb3
                  replace Ct433 := Kd.C_below Ct433 hb3
                  replace Ct450 := Kd.C_below Ct450 hb3
                  replace Ct453 := Kd.C_below Ct453 hb3
                  replace K401 := blk_below K401 hb3
                  replace K418 := blk_below K418 hb3
                  replace K429 := blk_below K429 hb3
                  replace K440 := blk_below K440 hb3
                  replace K457 := blk_below K457 hb3
                  replace HBW := below_step HBW hb3
                  clear hb3
                  have x429_0 : W3.cell? ⟨gb429, 0, none⟩ = some (.slice Ao30 t419.length co30) := (blk_cell K429 0).trans rfl
                  have x429_1 : W3.cell? ⟨gb429, 1, none⟩ = some (.slice Ao34 t422.length co34) := (blk_cell K429 1).trans rfl
                  have x429_2 : W3.cell? ⟨gb429, 2, none⟩ = some (.int .i64 t425) := (blk_cell K429 2).trans rfl
                  have x401_0 : W3.cell? ⟨gb401, 0, none⟩ = some (.slice Ao13 t394.length co13) := (blk_cell K401 0).trans rfl
                  have x401_1 : W3.cell? ⟨gb401, 1, none⟩ = some (.slice Ao15 t397.length co15) := (blk_cell K401 1).trans rfl
                  have x401_2 : W3.cell? ⟨gb401, 2, none⟩ = some (.int .i64 t425) := (blk_cell K401 2).trans rfl
                  go_wp2_with fail
                  refine (impl_FlightOk.calls k1 _ _ t394 _ _ t397 t425 true _ Ct394 Lt394 Ct397 Lt397 A165.out).mono ?_
                  rintro e W4 ⟨rfl, hb4⟩
                  dsimp only
                  clear x429_0 x429_1 x429_2 x401_0 x401_1 x401_2
                  replace Ct394 := Kd.C_below Ct394 hb4
                  replace Ct397 := Kd.C_below Ct397 hb4
                  replace Ct411 := Kd.C_below Ct411 hb4
                  replace Ct414 := Kd.C_below Ct414 hb4
                  replace Ct430 := Kd.C_below Ct430 hb4
                  replace Ct433 := Kd.C_below Ct433 hb4
                  replace Ct450 := Kd.C_below Ct450 hb4
                  replace Ct453 := Kd.C_below Ct453 hb4
                  replace K401 := blk_below K401 hb4
                  replace K418 := blk_below K418 hb4
                  replace K429 := blk_below K429 hb4
                  replace K440 := blk_below K440 hb4
                  replace K457 := blk_below K457 hb4
                  replace HBW := below_step HBW hb4
                  clear hb4
                  have x457_0 : W4.cell? ⟨gb457, 0, none⟩ = some (.slice Ao81 t450.length co81) := (blk_cell K457 0).trans rfl
                  have x457_1 : W4.cell? ⟨gb457, 1, none⟩ = some (.slice Ao83 t453.length co83) := (blk_cell K457 1).trans rfl
                  have x457_2 : W4.cell? ⟨gb457, 2, none⟩ = some (.int .i64 t456) := (blk_cell K457 2).trans rfl
                  go_wp2_with fail
                  refine (impl_FlightOk.calls k1 _ _ t450 _ _ t453 t456 true _ Ct450 Lt450 Ct453 Lt453 A167.out).mono ?_
                  rintro e W5 ⟨rfl, hb5⟩
                  dsimp only
                  clear x457_0 x457_1 x457_2
                  replace Ct394 := Kd.C_below Ct394 hb5
                  replace Ct397 := Kd.C_below Ct397 hb5
                  replace Ct411 := Kd.C_below Ct411 hb5
                  replace Ct414 := Kd.C_below Ct414 hb5
                  replace Ct430 := Kd.C_below Ct430 hb5
                  replace Ct433 := Kd.C_below Ct433 hb5
                  replace Ct450 := Kd.C_below Ct450 hb5
                  replace Ct453 := Kd.C_below Ct453 hb5
                  replace K401 := blk_below K401 hb5
                  replace K418 := blk_below K418 hb5
                  replace K429 := blk_below K429 hb5
                  replace K440 := blk_below K440 hb5
                  replace K457 := blk_below K457 hb5
                  replace HBW := below_step HBW hb5
                  clear hb5
                  have x457_0 : W5.cell? ⟨gb457, 0, none⟩ = some (.slice Ao81 t450.length co81) := (blk_cell K457 0).trans rfl
                  have x457_1 : W5.cell? ⟨gb457, 1, none⟩ = some (.slice Ao83 t453.length co83) := (blk_cell K457 1).trans rfl
                  have x457_2 : W5.cell? ⟨gb457, 2, none⟩ = some (.int .i64 t456) := (blk_cell K457 2).trans rfl
                  go_wp2_with fail
                  refine (impl_LeftOf.calls k1 _ _ t450 _ _ t453 t456 t475 _ Ct450 Lt450 Ct453 Lt453 A169.out).mono ?_
                  rintro e W6 ⟨v6, rfl, hR6, hb6⟩
                  dsimp only
                  obtain ⟨A6x, c6x, e6x⟩ := Kd.R_slice hR6
                  subst e6x
                  clear hR6
                  clear x457_0 x457_1 x457_2
                  replace Ct394 := Kd.C_below Ct394 hb6
                  replace Ct397 := Kd.C_below Ct397 hb6
                  replace Ct411 := Kd.C_below Ct411 hb6
                  replace Ct414 := Kd.C_below Ct414 hb6
                  replace Ct430 := Kd.C_below Ct430 hb6
                  replace Ct433 := Kd.C_below Ct433 hb6
                  replace Ct450 := Kd.C_below Ct450 hb6
                  replace Ct453 := Kd.C_below Ct453 hb6
                  replace K401 := blk_below K401 hb6
                  replace K418 := blk_below K418 hb6
                  replace K429 := blk_below K429 hb6
                  replace K440 := blk_below K440 hb6
                  replace K457 := blk_below K457 hb6
                  replace HBW := below_step HBW hb6
                  clear hb6
                  have x401_0 : W6.cell? ⟨gb401, 0, none⟩ = some (.slice Ao13 t394.length co13) := (blk_cell K401 0).trans rfl
                  have x401_1 : W6.cell? ⟨gb401, 1, none⟩ = some (.slice Ao15 t397.length co15) := (blk_cell K401 1).trans rfl
                  have x401_2 : W6.cell? ⟨gb401, 2, none⟩ = some (.int .i64 t425) := (blk_cell K401 2).trans rfl
                  go_wp2
                  go_ret
                  exact ⟨by first | rfl | (simp; done) | (simp [*]; done), by repeat (first | exact HBW | apply pw_below_drewN | apply below_drew1)⟩
                 ·
                  rw [if_neg c170] at H
                  exact absurd H (by simp)
                ·
                 replace c168 := Bool.eq_false_iff.mpr c168
                 subst c168
                 have H1 : (none) = some r := by rw [if_neg (show ¬ (false = true) by decide)] at H; exact H
                 clear H
                 have H := H1
                 clear H1
                 exact absurd H (by simp)
               ·
                replace c166 := Bool.eq_false_iff.mpr c166
                subst c166
                have H1 : (none) = some r := by rw [if_neg (show ¬ (false = true) by decide)] at H; exact H
                clear H
                have H := H1
                clear H1
                exact absurd H (by simp)
              ·
               rw [if_neg c164] at H
               exact absurd H (by simp)
             ·
              rw [if_neg c163] at H
              exact absurd H (by simp)
           ·
            replace c62 := Bool.eq_false_iff.mpr c62
            subst c62
            have H1 : (none) = some r := by rw [if_neg (show ¬ (false = true) by decide)] at H; exact H
            clear H
            have H := H1
            clear H1
            exact absurd H (by simp)
          ·
           rw [if_neg c60] at H
           exact absurd H (by simp)
         ·
          rw [if_neg c59] at H
          exact absurd H (by simp)
        ·
         replace c57 := Bool.eq_false_iff.mpr c57
         subst c57
         have H1 : (none) = some r := by rw [if_neg (show ¬ (false = true) by decide)] at H; exact H
         clear H
         have H := H1
         clear H1
         exact absurd H (by simp)
       ·
        replace c55 := Bool.eq_false_iff.mpr c55
        subst c55
        have H1 : (none) = some r := by rw [if_neg (show ¬ (false = true) by decide)] at H; exact H
        clear H
        have H := H1
        clear H1
        exact absurd H (by simp)
      ·
       replace c54 := Bool.eq_false_iff.mpr c54
       subst c54
       have H1 : (none) = some r := by rw [if_neg (show ¬ (false = true) by decide)] at H; exact H
       clear H
       have H := H1
       clear H1
       exact absurd H (by simp)
     ·
      rw [if_neg c52] at H
      exact absurd H (by simp)
theorem laws_FnAcks.walk (P : laws_FnAcks.Pure) (a0 : Option Addr) (len0 cap0 : Nat) (z0 : List Int) (w : World) (w0 : (a0 = none ∧ len0 = 0 ∧ cap0 = 0 ∧ z0 = []) ∨ ∃ x, a0 = some x ∧ len0 ≤ cap0 ∧ cap0 ≤ maxLen ∧ z0.length = cap0 ∧ (∀ i, i < z0.length → w.cell? (x.add i) = some (.int .u8 (z0.getD i 0))) ∧ ∀ n ∈ z0, (Lit.int .u8 n).wf = true) (y0 : len0 * 1 ≤ 140737488351232) :
  Calls Try.prog 4 #[.slice a0 len0 cap0] w fun e w' => e = .returned (.bool true) ∧ Below w.heap.size w w' := by
 obtain ⟨l0, rfl, hr0, hm0, hw0, hc0⟩ := ReadsInt.ofRowC w0
 obtain ⟨k, h⟩ := P l0 hm0 y0 hw0
 refine (laws_FnAcks.calls k _ _ l0 true w (Kd.C_of_reads (d := (0 : Int)) (h1 := fun _ => rfl) hr0) hc0 h).mono ?_
 rintro e w' ⟨rfl, hd⟩
 exact ⟨rfl, hd⟩
end Go.Proofs.Ytfddealjbpdehaa.A
