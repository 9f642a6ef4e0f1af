/-
  What is shown of a client is what the reference shows: the walk of the law.
-/
import Derived.Test.YtfddealjbpdehaaDoorQ1PureShowClient
import Derived.Test.YtfddealjbpdehaaDoorQ1GClient
namespace Go.Proofs.YtfddealjbpdehaaDoor.A
open Go.RowKit Go.Proofs.YtfddealjbpdehaaDoorW.PrintWords Go.Proofs.YtfddealjbpdehaaDoorW.PrintLast Go.Proofs.YtfddealjbpdehaaDoorW.PrintMore Go.Proofs.YtfddealjbpdehaaDoor.M
set_option linter.unusedVariables false
set_option linter.unusedSimpArgs false
set_option maxHeartbeats 8000000 in
set_option maxRecDepth 100000 in
theorem showClient_law (a0 a1 a2 a3 a4 a6 a7 a8 a9 a10 a11 a12 a13 a14 a15 a16 a17 a18 a19 a20 a21 a22 : Int) (a5 : Bool) (w : World) (hT : TabW w) (h0 : -9223372036854775808 ≤ a0 ∧ a0 ≤ 9223372036854775807) (h10 : -9223372036854775808 ≤ a10 ∧ a10 ≤ 9223372036854775807) :
  Calls Tryd.prog 3 #[.agg #[.int .i64 a0, .int .i64 a1, .int .i64 a2, .int .i64 a3, .int .i64 a4, .bool a5, .int .i64 a6, .int .i64 a7, .int .i64 a8, .int .i64 a9, .int .i64 a10, .int .i64 a11, .int .i64 a12, .int .i64 a13, .int .i64 a14, .int .i64 a15, .int .i64 a16, .int .i64 a17, .int .i64 a18, .int .i64 a19, .int .i64 a20, .int .i64 a21, .int .i64 a22]] w fun e w' => e = .returned (.bool true) ∧ Below w.heap.size w w' := by
 obtain ⟨k, hk⟩ := Ev.rounds (specClient_ok (a1 := a1) (a2 := a2) (a3 := a3) (a4 := a4) (a5 := a5) (a6 := a6) (a7 := a7) (a8 := a8) (a9 := a9) (a11 := a11) (a12 := a12) (a13 := a13) (a14 := a14) (a15 := a15) (a16 := a16) (a17 := a17) (a18 := a18) (a19 := a19) (a20 := a20) (a21 := a21) (a22 := a22) h0 h10)
 have hi := client_ok (a1 := a1) (a2 := a2) (a3 := a3) (a4 := a4) (a5 := a5) (a6 := a6) (a7 := a7) (a8 := a8) (a9 := a9) (a11 := a11) (a12 := a12) (a13 := a13) (a14 := a14) (a15 := a15) (a16 := a16) (a17 := a17) (a18 := a18) (a19 := a19) (a20 := a20) (a21 := a21) (a22 := a22) h0 h10
 generalize clientText a0 a3 a10 = T at hk hi
 have KS := Aside0.mk hk
 have KI := Aside0.mk hi
 have HT0 := Aside0.mk hT
 clear hk hi hT h0 h10
 have HB := Aside0.mk (Below.refl w.heap.size w)
 go_enter Tryd.func3, Tryd.ntmps3
 go_wp2_with (first | ((with_reducible refine gate_dst (N := 1) rfl ?_); refine box_event ?hg (N := 1) ?hd (cs := #[.int .i64 a0, .int .i64 a1, .int .i64 a2, .int .i64 a3, .int .i64 a4, .bool a5, .int .i64 a6, .int .i64 a7, .int .i64 a8, .int .i64 a9, .int .i64 a10, .int .i64 a11, .int .i64 a12, .int .i64 a13, .int .i64 a14, .int .i64 a15, .int .i64 a16, .int .i64 a17, .int .i64 a18, .int .i64 a19, .int .i64 a20, .int .i64 a21, .int .i64 a22]) (t := 27) ?hr ?_; (case hd => rfl); (case hg => rfl); (case hr => first | (go_simp; done) | (go_simp; rfl)); intro g1 hg w1 hbox hb; have B1 := Aside0.mk hbox; have nb := Aside0.mk (below_step HB.out hb); clear HB; have HB := nb; clear nb hb hbox hg) | ((with_reducible refine gate_dst (N := 5) rfl ?_); refine wpList_load_row rfl 27 _ rfl g1 rfl 27 #[.int .i64 a0, .int .i64 a1, .int .i64 a2, .int .i64 a3, .int .i64 a4, .bool a5, .int .i64 a6, .int .i64 a7, .int .i64 a8, .int .i64 a9, .int .i64 a10, .int .i64 a11, .int .i64 a12, .int .i64 a13, .int .i64 a14, .int .i64 a15, .int .i64 a16, .int .i64 a17, .int .i64 a18, .int .i64 a19, .int .i64 a20, .int .i64 a21, .int .i64 a22] (0, 0) _ B1.out Tryd.underlying27 rfl (by kernel_rfl) ?_) | ((with_reducible refine gate_dst (N := 8) rfl ?_); refine wpList_load_row rfl 27 _ rfl g1 rfl 27 #[.int .i64 a0, .int .i64 a1, .int .i64 a2, .int .i64 a3, .int .i64 a4, .bool a5, .int .i64 a6, .int .i64 a7, .int .i64 a8, .int .i64 a9, .int .i64 a10, .int .i64 a11, .int .i64 a12, .int .i64 a13, .int .i64 a14, .int .i64 a15, .int .i64 a16, .int .i64 a17, .int .i64 a18, .int .i64 a19, .int .i64 a20, .int .i64 a21, .int .i64 a22] (0, 0) _ B1.out Tryd.underlying27 rfl (by kernel_rfl) ?_) | (go_at_call 8; refine (toClient_w a0 a1 a2 a3 a4 a6 a7 a8 a9 a10 a11 a12 a13 a14 a15 a16 a17 a18 a19 a20 a21 a22 a5 _).mono ?_; rintro e w2 ⟨rfl, hb⟩; have B1' := Aside0.mk (blk_below B1.out hb); have HB' := Aside0.mk (below_step HB.out hb); clear B1 HB hb; have B1 := B1'; have HB := HB'; clear B1' HB') | (go_at_call 7; refine (spec_ShowClient.calls k a0 a1 a2 a3 a4 a5 a6 a7 a8 a9 a10 a11 a12 a13 a14 a15 a16 a17 a18 a19 a20 a21 a22 T _ KS.out).mono ?_; rintro e w2 ⟨rfl, hb⟩; have B1' := Aside0.mk (blk_below B1.out hb); have HB' := Aside0.mk (below_step HB.out hb); clear B1 HB hb; have B1 := B1'; have HB := HB'; clear B1' HB') | (go_at_call 9; refine (impl_ShowClient.calls a0 a1 a2 a3 a4 a5 a6 a7 a8 a9 a10 a11 a12 a13 a14 a15 a16 a17 a18 a19 a20 a21 a22 T _ (TabW.below HT0.out HB.out) KI.out).mono ?_; rintro e w2 ⟨rfl, hb⟩; have B1' := Aside0.mk (blk_below B1.out hb); have HB' := Aside0.mk (below_step HB.out hb); clear B1 HB hb; have B1 := B1'; have HB := HB'; clear B1' HB'))
 go_ret
 exact ⟨rfl, HB.out⟩
end Go.Proofs.YtfddealjbpdehaaDoor.A
