/-
  A client is handed on as it is: the walk of laws.toClient.
-/
import Derived.Test.YtfddealjbpdehaaDoorQ1GChan
import Derived.Laws.CopyOwn
namespace Go.Proofs.YtfddealjbpdehaaDoor.A
open Go.RowKit Go.Proofs.YtfddealjbpdehaaDoorW.PrintWords Go.Proofs.YtfddealjbpdehaaDoorW.PrintLast Go.Proofs.YtfddealjbpdehaaDoorW.PrintMore Go.Proofs.YtfddealjbpdehaaDoor.GC
set_option linter.unusedVariables false
set_option linter.unusedSimpArgs false
def laws_toClient.f (a0 : Int) (a1 : Int) (a2 : Int) (a3 : Int) (a4 : Int) (a5 : Bool) (a6 : Int) (a7 : Int) (a8 : Int) (a9 : Int) (a10 : Int) (a11 : Int) (a12 : Int) (a13 : Int) (a14 : Int) (a15 : Int) (a16 : Int) (a17 : Int) (a18 : Int) (a19 : Int) (a20 : Int) (a21 : Int) (a22 : Int) : Option (Int × Int × Int × Int × Int × Bool × Int × Int × Int × Int × Int × Int × Int × Int × Int × Int × Int × Int × Int × Int × Int × Int × Int) := some (a0, a1, a2, a3, a4, a5, a6, a7, a8, a9, a10, a11, a12, a13, a14, a15, a16, a17, a18, a19, a20, a21, a22)
set_option maxHeartbeats 8000000 in
set_option maxRecDepth 100000 in
theorem toClient_w (a0 a1 a2 a3 a4 a6 a7 a8 a9 a10 a11 a12 a13 a14 a15 a16 a17 a18 a19 a20 a21 a22 : Int) (a5 : Bool) (w : World) :
  Calls Tryd.prog 8 #[.agg #[.int .i64 a0, .int .i64 a1, .int .i64 a2, .int .i64 a3, .int .i64 a4, .bool a5, .int .i64 a6, .int .i64 a7, .int .i64 a8, .int .i64 a9, .int .i64 a10, .int .i64 a11, .int .i64 a12, .int .i64 a13, .int .i64 a14, .int .i64 a15, .int .i64 a16, .int .i64 a17, .int .i64 a18, .int .i64 a19, .int .i64 a20, .int .i64 a21, .int .i64 a22]] w fun e w' => e = .returned (.agg #[.int .i64 a0, .int .i64 a1, .int .i64 a2, .int .i64 a3, .int .i64 a4, .bool a5, .int .i64 a6, .int .i64 a7, .int .i64 a8, .int .i64 a9, .int .i64 a10, .int .i64 a11, .int .i64 a12, .int .i64 a13, .int .i64 a14, .int .i64 a15, .int .i64 a16, .int .i64 a17, .int .i64 a18, .int .i64 a19, .int .i64 a20, .int .i64 a21, .int .i64 a22]) ∧ Below w.heap.size w w' := by
 have HB := Aside0.mk (Below.refl w.heap.size w)
 go_enter Tryd.func8, Tryd.ntmps8
 go_upto_region 2 with (first | ((with_reducible refine gate_dst (N := 1) rfl ?_); refine box_event ?hg (N := 1) ?hd (cs := #[.int .i64 a0, .int .i64 a1, .int .i64 a2, .int .i64 a3, .int .i64 a4, .bool a5, .int .i64 a6, .int .i64 a7, .int .i64 a8, .int .i64 a9, .int .i64 a10, .int .i64 a11, .int .i64 a12, .int .i64 a13, .int .i64 a14, .int .i64 a15, .int .i64 a16, .int .i64 a17, .int .i64 a18, .int .i64 a19, .int .i64 a20, .int .i64 a21, .int .i64 a22]) (t := 27) ?hr ?_; (case hd => rfl); (case hg => rfl); (case hr => first | (go_simp; done) | (go_simp; rfl)); intro g1 hg w1 hbox hb; have B1 := Aside0.mk hbox; have GE1 := Aside0.mk ((by rw [hg]; exact (below_size HB.out)) : w.heap.size ≤ g1); have nb := Aside0.mk (below_step HB.out hb); clear HB; have HB := nb; clear nb hb hbox hg) | ((with_reducible refine gate_dst (N := 2) rfl ?_); refine box_event ?hg (N := 2) ?hd (cs := #[.int .i64 0, .int .i64 0, .int .i64 0, .int .i64 0, .int .i64 0, .bool false, .int .i64 0, .int .i64 0, .int .i64 0, .int .i64 0, .int .i64 0, .int .i64 0, .int .i64 0, .int .i64 0, .int .i64 0, .int .i64 0, .int .i64 0, .int .i64 0, .int .i64 0, .int .i64 0, .int .i64 0, .int .i64 0, .int .i64 0]) (t := 33) ?hr ?_; (case hd => rfl); (case hg => rfl); (case hr => first | (go_simp; done) | (go_simp; rfl)); intro g2 hg w2 hbox hb; have B2 := Aside0.mk hbox; have GE2 := Aside0.mk ((by rw [hg]; exact (below_size HB.out)) : w.heap.size ≤ g2); have NE1_2 := Aside0.mk ((by rw [hg]; exact Nat.ne_of_lt (blk_lt B1.out)) : g1 ≠ g2); have nb := Aside0.mk (blk_below B1.out hb); clear B1; have B1 := nb; clear nb; have nb := Aside0.mk (below_step HB.out hb); clear HB; have HB := nb; clear nb hb hbox hg) | ((with_reducible refine gate_dst (N := 3) rfl ?_); refine box_event ?hg (N := 3) ?hd (cs := #[.int .i64 0, .int .i64 0, .int .i64 0, .int .i64 0, .int .i64 0, .bool false, .int .i64 0, .int .i64 0, .int .i64 0, .int .i64 0, .int .i64 0, .int .i64 0, .int .i64 0, .int .i64 0, .int .i64 0, .int .i64 0, .int .i64 0, .int .i64 0, .int .i64 0, .int .i64 0, .int .i64 0, .int .i64 0, .int .i64 0]) (t := 33) ?hr ?_; (case hd => rfl); (case hg => rfl); (case hr => first | (go_simp; done) | (go_simp; rfl)); intro g3 hg w3 hbox hb; have B3 := Aside0.mk hbox; have GE3 := Aside0.mk ((by rw [hg]; exact (below_size HB.out)) : w.heap.size ≤ g3); have NE1_3 := Aside0.mk ((by rw [hg]; exact Nat.ne_of_lt (blk_lt B1.out)) : g1 ≠ g3); have nb := Aside0.mk (blk_below B1.out hb); clear B1; have B1 := nb; clear nb; have NE2_3 := Aside0.mk ((by rw [hg]; exact Nat.ne_of_lt (blk_lt B2.out)) : g2 ≠ g3); have nb := Aside0.mk (blk_below B2.out hb); clear B2; have B2 := nb; clear nb; have nb := Aside0.mk (below_step HB.out hb); clear HB; have HB := nb; clear nb hb hbox hg))
 have x0 : w3.cell? ⟨g1, 0, none⟩ = some (.int .i64 a0) := (blk_cell B1.out 0).trans rfl
 have z0 : w3.cell? ⟨g3, 0, none⟩ = some (.int .i64 0) := (blk_cell B3.out 0).trans rfl
 have f0 : w3.frozen? ⟨g3, 0, none⟩ = false := blk_frozen B3.out 0
 go_upto_region 3 with (fail)
 clear x0 z0 f0
 have B1' := Aside0.mk (blk_far (p := ⟨g3, 0, none⟩) B1.out NE1_3.out (.int .i64 a0))
 have B2' := Aside0.mk (blk_far (p := ⟨g3, 0, none⟩) B2.out NE2_3.out (.int .i64 a0))
 have B3' := Aside0.mk (blk_put (cs' := #[.int .i64 a0, .int .i64 0, .int .i64 0, .int .i64 0, .int .i64 0, .bool false, .int .i64 0, .int .i64 0, .int .i64 0, .int .i64 0, .int .i64 0, .int .i64 0, .int .i64 0, .int .i64 0, .int .i64 0, .int .i64 0, .int .i64 0, .int .i64 0, .int .i64 0, .int .i64 0, .int .i64 0, .int .i64 0, .int .i64 0]) B3.out 0 (.int .i64 a0) rfl)
 have HB' := Aside0.mk (below_set (j := 0) (v := .int .i64 a0) HB.out GE3.out)
 clear B1 B2 B3 HB
 generalize w3.setCell ⟨g3, 0, none⟩ (.int .i64 a0) = w4 at B1' B2' B3' HB' ⊢
 have B1 := B1'
 have B2 := B2'
 have B3 := B3'
 have HB := HB'
 clear B1' B2' B3' HB'
 have x1 : w4.cell? ⟨g1, 1, none⟩ = some (.int .i64 a1) := (blk_cell B1.out 1).trans rfl
 have z1 : w4.cell? ⟨g3, 1, none⟩ = some (.int .i64 0) := (blk_cell B3.out 1).trans rfl
 have f1 : w4.frozen? ⟨g3, 1, none⟩ = false := blk_frozen B3.out 1
 go_upto_region 4 with (fail)
 clear x1 z1 f1
 have B1' := Aside0.mk (blk_far (p := ⟨g3, 1, none⟩) B1.out NE1_3.out (.int .i64 a1))
 have B2' := Aside0.mk (blk_far (p := ⟨g3, 1, none⟩) B2.out NE2_3.out (.int .i64 a1))
 have B3' := Aside0.mk (blk_put (cs' := #[.int .i64 a0, .int .i64 a1, .int .i64 0, .int .i64 0, .int .i64 0, .bool false, .int .i64 0, .int .i64 0, .int .i64 0, .int .i64 0, .int .i64 0, .int .i64 0, .int .i64 0, .int .i64 0, .int .i64 0, .int .i64 0, .int .i64 0, .int .i64 0, .int .i64 0, .int .i64 0, .int .i64 0, .int .i64 0, .int .i64 0]) B3.out 1 (.int .i64 a1) rfl)
 have HB' := Aside0.mk (below_set (j := 1) (v := .int .i64 a1) HB.out GE3.out)
 clear B1 B2 B3 HB
 generalize w4.setCell ⟨g3, 1, none⟩ (.int .i64 a1) = w5 at B1' B2' B3' HB' ⊢
 have B1 := B1'
 have B2 := B2'
 have B3 := B3'
 have HB := HB'
 clear B1' B2' B3' HB'
 have x2 : w5.cell? ⟨g1, 2, none⟩ = some (.int .i64 a2) := (blk_cell B1.out 2).trans rfl
 have z2 : w5.cell? ⟨g3, 2, none⟩ = some (.int .i64 0) := (blk_cell B3.out 2).trans rfl
 have f2 : w5.frozen? ⟨g3, 2, none⟩ = false := blk_frozen B3.out 2
 go_upto_region 5 with (fail)
 clear x2 z2 f2
 have B1' := Aside0.mk (blk_far (p := ⟨g3, 2, none⟩) B1.out NE1_3.out (.int .i64 a2))
 have B2' := Aside0.mk (blk_far (p := ⟨g3, 2, none⟩) B2.out NE2_3.out (.int .i64 a2))
 have B3' := Aside0.mk (blk_put (cs' := #[.int .i64 a0, .int .i64 a1, .int .i64 a2, .int .i64 0, .int .i64 0, .bool false, .int .i64 0, .int .i64 0, .int .i64 0, .int .i64 0, .int .i64 0, .int .i64 0, .int .i64 0, .int .i64 0, .int .i64 0, .int .i64 0, .int .i64 0, .int .i64 0, .int .i64 0, .int .i64 0, .int .i64 0, .int .i64 0, .int .i64 0]) B3.out 2 (.int .i64 a2) rfl)
 have HB' := Aside0.mk (below_set (j := 2) (v := .int .i64 a2) HB.out GE3.out)
 clear B1 B2 B3 HB
 generalize w5.setCell ⟨g3, 2, none⟩ (.int .i64 a2) = w6 at B1' B2' B3' HB' ⊢
 have B1 := B1'
 have B2 := B2'
 have B3 := B3'
 have HB := HB'
 clear B1' B2' B3' HB'
 have x3 : w6.cell? ⟨g1, 3, none⟩ = some (.int .i64 a3) := (blk_cell B1.out 3).trans rfl
 have z3 : w6.cell? ⟨g3, 3, none⟩ = some (.int .i64 0) := (blk_cell B3.out 3).trans rfl
 have f3 : w6.frozen? ⟨g3, 3, none⟩ = false := blk_frozen B3.out 3
 go_upto_region 6 with (fail)
 clear x3 z3 f3
 have B1' := Aside0.mk (blk_far (p := ⟨g3, 3, none⟩) B1.out NE1_3.out (.int .i64 a3))
 have B2' := Aside0.mk (blk_far (p := ⟨g3, 3, none⟩) B2.out NE2_3.out (.int .i64 a3))
 have B3' := Aside0.mk (blk_put (cs' := #[.int .i64 a0, .int .i64 a1, .int .i64 a2, .int .i64 a3, .int .i64 0, .bool false, .int .i64 0, .int .i64 0, .int .i64 0, .int .i64 0, .int .i64 0, .int .i64 0, .int .i64 0, .int .i64 0, .int .i64 0, .int .i64 0, .int .i64 0, .int .i64 0, .int .i64 0, .int .i64 0, .int .i64 0, .int .i64 0, .int .i64 0]) B3.out 3 (.int .i64 a3) rfl)
 have HB' := Aside0.mk (below_set (j := 3) (v := .int .i64 a3) HB.out GE3.out)
 clear B1 B2 B3 HB
 generalize w6.setCell ⟨g3, 3, none⟩ (.int .i64 a3) = w7 at B1' B2' B3' HB' ⊢
 have B1 := B1'
 have B2 := B2'
 have B3 := B3'
 have HB := HB'
 clear B1' B2' B3' HB'
 have x4 : w7.cell? ⟨g1, 4, none⟩ = some (.int .i64 a4) := (blk_cell B1.out 4).trans rfl
 have z4 : w7.cell? ⟨g3, 4, none⟩ = some (.int .i64 0) := (blk_cell B3.out 4).trans rfl
 have f4 : w7.frozen? ⟨g3, 4, none⟩ = false := blk_frozen B3.out 4
 go_upto_region 7 with (fail)
 clear x4 z4 f4
 have B1' := Aside0.mk (blk_far (p := ⟨g3, 4, none⟩) B1.out NE1_3.out (.int .i64 a4))
 have B2' := Aside0.mk (blk_far (p := ⟨g3, 4, none⟩) B2.out NE2_3.out (.int .i64 a4))
 have B3' := Aside0.mk (blk_put (cs' := #[.int .i64 a0, .int .i64 a1, .int .i64 a2, .int .i64 a3, .int .i64 a4, .bool false, .int .i64 0, .int .i64 0, .int .i64 0, .int .i64 0, .int .i64 0, .int .i64 0, .int .i64 0, .int .i64 0, .int .i64 0, .int .i64 0, .int .i64 0, .int .i64 0, .int .i64 0, .int .i64 0, .int .i64 0, .int .i64 0, .int .i64 0]) B3.out 4 (.int .i64 a4) rfl)
 have HB' := Aside0.mk (below_set (j := 4) (v := .int .i64 a4) HB.out GE3.out)
 clear B1 B2 B3 HB
 generalize w7.setCell ⟨g3, 4, none⟩ (.int .i64 a4) = w8 at B1' B2' B3' HB' ⊢
 have B1 := B1'
 have B2 := B2'
 have B3 := B3'
 have HB := HB'
 clear B1' B2' B3' HB'
 have x5 : w8.cell? ⟨g1, 5, none⟩ = some (.bool a5) := (blk_cell B1.out 5).trans rfl
 have z5 : w8.cell? ⟨g3, 5, none⟩ = some (.bool false) := (blk_cell B3.out 5).trans rfl
 have f5 : w8.frozen? ⟨g3, 5, none⟩ = false := blk_frozen B3.out 5
 go_upto_region 8 with (fail)
 clear x5 z5 f5
 have B1' := Aside0.mk (blk_far (p := ⟨g3, 5, none⟩) B1.out NE1_3.out (.bool a5))
 have B2' := Aside0.mk (blk_far (p := ⟨g3, 5, none⟩) B2.out NE2_3.out (.bool a5))
 have B3' := Aside0.mk (blk_put (cs' := #[.int .i64 a0, .int .i64 a1, .int .i64 a2, .int .i64 a3, .int .i64 a4, .bool a5, .int .i64 0, .int .i64 0, .int .i64 0, .int .i64 0, .int .i64 0, .int .i64 0, .int .i64 0, .int .i64 0, .int .i64 0, .int .i64 0, .int .i64 0, .int .i64 0, .int .i64 0, .int .i64 0, .int .i64 0, .int .i64 0, .int .i64 0]) B3.out 5 (.bool a5) rfl)
 have HB' := Aside0.mk (below_set (j := 5) (v := .bool a5) HB.out GE3.out)
 clear B1 B2 B3 HB
 generalize w8.setCell ⟨g3, 5, none⟩ (.bool a5) = w9 at B1' B2' B3' HB' ⊢
 have B1 := B1'
 have B2 := B2'
 have B3 := B3'
 have HB := HB'
 clear B1' B2' B3' HB'
 have x6 : w9.cell? ⟨g1, 6, none⟩ = some (.int .i64 a6) := (blk_cell B1.out 6).trans rfl
 have z6 : w9.cell? ⟨g3, 6, none⟩ = some (.int .i64 0) := (blk_cell B3.out 6).trans rfl
 have f6 : w9.frozen? ⟨g3, 6, none⟩ = false := blk_frozen B3.out 6
 go_upto_region 9 with (fail)
 clear x6 z6 f6
 have B1' := Aside0.mk (blk_far (p := ⟨g3, 6, none⟩) B1.out NE1_3.out (.int .i64 a6))
 have B2' := Aside0.mk (blk_far (p := ⟨g3, 6, none⟩) B2.out NE2_3.out (.int .i64 a6))
 have B3' := Aside0.mk (blk_put (cs' := #[.int .i64 a0, .int .i64 a1, .int .i64 a2, .int .i64 a3, .int .i64 a4, .bool a5, .int .i64 a6, .int .i64 0, .int .i64 0, .int .i64 0, .int .i64 0, .int .i64 0, .int .i64 0, .int .i64 0, .int .i64 0, .int .i64 0, .int .i64 0, .int .i64 0, .int .i64 0, .int .i64 0, .int .i64 0, .int .i64 0, .int .i64 0]) B3.out 6 (.int .i64 a6) rfl)
 have HB' := Aside0.mk (below_set (j := 6) (v := .int .i64 a6) HB.out GE3.out)
 clear B1 B2 B3 HB
 generalize w9.setCell ⟨g3, 6, none⟩ (.int .i64 a6) = w10 at B1' B2' B3' HB' ⊢
 have B1 := B1'
 have B2 := B2'
 have B3 := B3'
 have HB := HB'
 clear B1' B2' B3' HB'
 have x7 : w10.cell? ⟨g1, 7, none⟩ = some (.int .i64 a7) := (blk_cell B1.out 7).trans rfl
 have z7 : w10.cell? ⟨g3, 7, none⟩ = some (.int .i64 0) := (blk_cell B3.out 7).trans rfl
 have f7 : w10.frozen? ⟨g3, 7, none⟩ = false := blk_frozen B3.out 7
 go_upto_region 10 with (fail)
 clear x7 z7 f7
 have B1' := Aside0.mk (blk_far (p := ⟨g3, 7, none⟩) B1.out NE1_3.out (.int .i64 a7))
 have B2' := Aside0.mk (blk_far (p := ⟨g3, 7, none⟩) B2.out NE2_3.out (.int .i64 a7))
 have B3' := Aside0.mk (blk_put (cs' := #[.int .i64 a0, .int .i64 a1, .int .i64 a2, .int .i64 a3, .int .i64 a4, .bool a5, .int .i64 a6, .int .i64 a7, .int .i64 0, .int .i64 0, .int .i64 0, .int .i64 0, .int .i64 0, .int .i64 0, .int .i64 0, .int .i64 0, .int .i64 0, .int .i64 0, .int .i64 0, .int .i64 0, .int .i64 0, .int .i64 0, .int .i64 0]) B3.out 7 (.int .i64 a7) rfl)
 have HB' := Aside0.mk (below_set (j := 7) (v := .int .i64 a7) HB.out GE3.out)
 clear B1 B2 B3 HB
 generalize w10.setCell ⟨g3, 7, none⟩ (.int .i64 a7) = w11 at B1' B2' B3' HB' ⊢
 have B1 := B1'
 have B2 := B2'
 have B3 := B3'
 have HB := HB'
 clear B1' B2' B3' HB'
 have x8 : w11.cell? ⟨g1, 8, none⟩ = some (.int .i64 a8) := (blk_cell B1.out 8).trans rfl
 have z8 : w11.cell? ⟨g3, 8, none⟩ = some (.int .i64 0) := (blk_cell B3.out 8).trans rfl
 have f8 : w11.frozen? ⟨g3, 8, none⟩ = false := blk_frozen B3.out 8
 go_upto_region 11 with (fail)
 clear x8 z8 f8
 have B1' := Aside0.mk (blk_far (p := ⟨g3, 8, none⟩) B1.out NE1_3.out (.int .i64 a8))
 have B2' := Aside0.mk (blk_far (p := ⟨g3, 8, none⟩) B2.out NE2_3.out (.int .i64 a8))
 have B3' := Aside0.mk (blk_put (cs' := #[.int .i64 a0, .int .i64 a1, .int .i64 a2, .int .i64 a3, .int .i64 a4, .bool a5, .int .i64 a6, .int .i64 a7, .int .i64 a8, .int .i64 0, .int .i64 0, .int .i64 0, .int .i64 0, .int .i64 0, .int .i64 0, .int .i64 0, .int .i64 0, .int .i64 0, .int .i64 0, .int .i64 0, .int .i64 0, .int .i64 0, .int .i64 0]) B3.out 8 (.int .i64 a8) rfl)
 have HB' := Aside0.mk (below_set (j := 8) (v := .int .i64 a8) HB.out GE3.out)
 clear B1 B2 B3 HB
 generalize w11.setCell ⟨g3, 8, none⟩ (.int .i64 a8) = w12 at B1' B2' B3' HB' ⊢
 have B1 := B1'
 have B2 := B2'
 have B3 := B3'
 have HB := HB'
 clear B1' B2' B3' HB'
 have x9 : w12.cell? ⟨g1, 9, none⟩ = some (.int .i64 a9) := (blk_cell B1.out 9).trans rfl
 have z9 : w12.cell? ⟨g3, 9, none⟩ = some (.int .i64 0) := (blk_cell B3.out 9).trans rfl
 have f9 : w12.frozen? ⟨g3, 9, none⟩ = false := blk_frozen B3.out 9
 go_upto_region 12 with (fail)
 clear x9 z9 f9
 have B1' := Aside0.mk (blk_far (p := ⟨g3, 9, none⟩) B1.out NE1_3.out (.int .i64 a9))
 have B2' := Aside0.mk (blk_far (p := ⟨g3, 9, none⟩) B2.out NE2_3.out (.int .i64 a9))
 have B3' := Aside0.mk (blk_put (cs' := #[.int .i64 a0, .int .i64 a1, .int .i64 a2, .int .i64 a3, .int .i64 a4, .bool a5, .int .i64 a6, .int .i64 a7, .int .i64 a8, .int .i64 a9, .int .i64 0, .int .i64 0, .int .i64 0, .int .i64 0, .int .i64 0, .int .i64 0, .int .i64 0, .int .i64 0, .int .i64 0, .int .i64 0, .int .i64 0, .int .i64 0, .int .i64 0]) B3.out 9 (.int .i64 a9) rfl)
 have HB' := Aside0.mk (below_set (j := 9) (v := .int .i64 a9) HB.out GE3.out)
 clear B1 B2 B3 HB
 generalize w12.setCell ⟨g3, 9, none⟩ (.int .i64 a9) = w13 at B1' B2' B3' HB' ⊢
 have B1 := B1'
 have B2 := B2'
 have B3 := B3'
 have HB := HB'
 clear B1' B2' B3' HB'
 have x10 : w13.cell? ⟨g1, 10, none⟩ = some (.int .i64 a10) := (blk_cell B1.out 10).trans rfl
 have z10 : w13.cell? ⟨g3, 10, none⟩ = some (.int .i64 0) := (blk_cell B3.out 10).trans rfl
 have f10 : w13.frozen? ⟨g3, 10, none⟩ = false := blk_frozen B3.out 10
 go_upto_region 13 with (fail)
 clear x10 z10 f10
 have B1' := Aside0.mk (blk_far (p := ⟨g3, 10, none⟩) B1.out NE1_3.out (.int .i64 a10))
 have B2' := Aside0.mk (blk_far (p := ⟨g3, 10, none⟩) B2.out NE2_3.out (.int .i64 a10))
 have B3' := Aside0.mk (blk_put (cs' := #[.int .i64 a0, .int .i64 a1, .int .i64 a2, .int .i64 a3, .int .i64 a4, .bool a5, .int .i64 a6, .int .i64 a7, .int .i64 a8, .int .i64 a9, .int .i64 a10, .int .i64 0, .int .i64 0, .int .i64 0, .int .i64 0, .int .i64 0, .int .i64 0, .int .i64 0, .int .i64 0, .int .i64 0, .int .i64 0, .int .i64 0, .int .i64 0]) B3.out 10 (.int .i64 a10) rfl)
 have HB' := Aside0.mk (below_set (j := 10) (v := .int .i64 a10) HB.out GE3.out)
 clear B1 B2 B3 HB
 generalize w13.setCell ⟨g3, 10, none⟩ (.int .i64 a10) = w14 at B1' B2' B3' HB' ⊢
 have B1 := B1'
 have B2 := B2'
 have B3 := B3'
 have HB := HB'
 clear B1' B2' B3' HB'
 have x11 : w14.cell? ⟨g1, 11, none⟩ = some (.int .i64 a11) := (blk_cell B1.out 11).trans rfl
 have z11 : w14.cell? ⟨g3, 11, none⟩ = some (.int .i64 0) := (blk_cell B3.out 11).trans rfl
 have f11 : w14.frozen? ⟨g3, 11, none⟩ = false := blk_frozen B3.out 11
 have x12 : w14.cell? ⟨g1, 12, none⟩ = some (.int .i64 a12) := (blk_cell B1.out 12).trans rfl
 have z12 : w14.cell? ⟨g3, 12, none⟩ = some (.int .i64 0) := (blk_cell B3.out 12).trans rfl
 have f12 : w14.frozen? ⟨g3, 12, none⟩ = false := blk_frozen B3.out 12
 have x13 : w14.cell? ⟨g1, 13, none⟩ = some (.int .i64 a13) := (blk_cell B1.out 13).trans rfl
 have z13 : w14.cell? ⟨g3, 13, none⟩ = some (.int .i64 0) := (blk_cell B3.out 13).trans rfl
 have f13 : w14.frozen? ⟨g3, 13, none⟩ = false := blk_frozen B3.out 13
 have x14 : w14.cell? ⟨g1, 14, none⟩ = some (.int .i64 a14) := (blk_cell B1.out 14).trans rfl
 have z14 : w14.cell? ⟨g3, 14, none⟩ = some (.int .i64 0) := (blk_cell B3.out 14).trans rfl
 have f14 : w14.frozen? ⟨g3, 14, none⟩ = false := blk_frozen B3.out 14
 have x15 : w14.cell? ⟨g1, 15, none⟩ = some (.int .i64 a15) := (blk_cell B1.out 15).trans rfl
 have z15 : w14.cell? ⟨g3, 15, none⟩ = some (.int .i64 0) := (blk_cell B3.out 15).trans rfl
 have f15 : w14.frozen? ⟨g3, 15, none⟩ = false := blk_frozen B3.out 15
 have x16 : w14.cell? ⟨g1, 16, none⟩ = some (.int .i64 a16) := (blk_cell B1.out 16).trans rfl
 have z16 : w14.cell? ⟨g3, 16, none⟩ = some (.int .i64 0) := (blk_cell B3.out 16).trans rfl
 have f16 : w14.frozen? ⟨g3, 16, none⟩ = false := blk_frozen B3.out 16
 have x17 : w14.cell? ⟨g1, 17, none⟩ = some (.int .i64 a17) := (blk_cell B1.out 17).trans rfl
 have z17 : w14.cell? ⟨g3, 17, none⟩ = some (.int .i64 0) := (blk_cell B3.out 17).trans rfl
 have f17 : w14.frozen? ⟨g3, 17, none⟩ = false := blk_frozen B3.out 17
 have x18 : w14.cell? ⟨g1, 18, none⟩ = some (.int .i64 a18) := (blk_cell B1.out 18).trans rfl
 have z18 : w14.cell? ⟨g3, 18, none⟩ = some (.int .i64 0) := (blk_cell B3.out 18).trans rfl
 have f18 : w14.frozen? ⟨g3, 18, none⟩ = false := blk_frozen B3.out 18
 have x19 : w14.cell? ⟨g1, 19, none⟩ = some (.int .i64 a19) := (blk_cell B1.out 19).trans rfl
 have z19 : w14.cell? ⟨g3, 19, none⟩ = some (.int .i64 0) := (blk_cell B3.out 19).trans rfl
 have f19 : w14.frozen? ⟨g3, 19, none⟩ = false := blk_frozen B3.out 19
 go_upto_region 14 with (go_at_call 27; refine (laws_toChan.calls a11 a12 a13 a14 a15 a16 a17 a18 a19 a11 a12 a13 a14 a15 a16 a17 a18 a19 _ rfl).mono ?_; rintro e w' ⟨rfl, hb⟩; have B1' := Aside0.mk (blk_below B1.out hb); have B2' := Aside0.mk (blk_below B2.out hb); have B3' := Aside0.mk (blk_below B3.out hb); have HB' := Aside0.mk (below_step HB.out hb); clear B1 B2 B3 HB hb x11 z11 f11 x12 z12 f12 x13 z13 f13 x14 z14 f14 x15 z15 f15 x16 z16 f16 x17 z17 f17 x18 z18 f18 x19 z19 f19; have B1 := B1'; have B2 := B2'; have B3 := B3'; have HB := HB'; clear B1' B2' B3' HB'; have z11 : w'.cell? ⟨g3, 11, none⟩ = some (.int .i64 0) := (blk_cell B3.out 11).trans rfl; have f11 : w'.frozen? ⟨g3, 11, none⟩ = false := blk_frozen B3.out 11; have z12 : w'.cell? ⟨g3, 12, none⟩ = some (.int .i64 0) := (blk_cell B3.out 12).trans rfl; have f12 : w'.frozen? ⟨g3, 12, none⟩ = false := blk_frozen B3.out 12; have z13 : w'.cell? ⟨g3, 13, none⟩ = some (.int .i64 0) := (blk_cell B3.out 13).trans rfl; have f13 : w'.frozen? ⟨g3, 13, none⟩ = false := blk_frozen B3.out 13; have z14 : w'.cell? ⟨g3, 14, none⟩ = some (.int .i64 0) := (blk_cell B3.out 14).trans rfl; have f14 : w'.frozen? ⟨g3, 14, none⟩ = false := blk_frozen B3.out 14; have z15 : w'.cell? ⟨g3, 15, none⟩ = some (.int .i64 0) := (blk_cell B3.out 15).trans rfl; have f15 : w'.frozen? ⟨g3, 15, none⟩ = false := blk_frozen B3.out 15; have z16 : w'.cell? ⟨g3, 16, none⟩ = some (.int .i64 0) := (blk_cell B3.out 16).trans rfl; have f16 : w'.frozen? ⟨g3, 16, none⟩ = false := blk_frozen B3.out 16; have z17 : w'.cell? ⟨g3, 17, none⟩ = some (.int .i64 0) := (blk_cell B3.out 17).trans rfl; have f17 : w'.frozen? ⟨g3, 17, none⟩ = false := blk_frozen B3.out 17; have z18 : w'.cell? ⟨g3, 18, none⟩ = some (.int .i64 0) := (blk_cell B3.out 18).trans rfl; have f18 : w'.frozen? ⟨g3, 18, none⟩ = false := blk_frozen B3.out 18; have z19 : w'.cell? ⟨g3, 19, none⟩ = some (.int .i64 0) := (blk_cell B3.out 19).trans rfl; have f19 : w'.frozen? ⟨g3, 19, none⟩ = false := blk_frozen B3.out 19)
 clear z11 f11 z12 f12 z13 f13 z14 f14 z15 f15 z16 f16 z17 f17 z18 f18 z19 f19
 have B1' := Aside0.mk (blk_far (p := ⟨g3, 19, none⟩) (blk_far (p := ⟨g3, 18, none⟩) (blk_far (p := ⟨g3, 17, none⟩) (blk_far (p := ⟨g3, 16, none⟩) (blk_far (p := ⟨g3, 15, none⟩) (blk_far (p := ⟨g3, 14, none⟩) (blk_far (p := ⟨g3, 13, none⟩) (blk_far (p := ⟨g3, 12, none⟩) (blk_far (p := ⟨g3, 11, none⟩) (B1.out) NE1_3.out (.int .i64 a11)) NE1_3.out (.int .i64 a12)) NE1_3.out (.int .i64 a13)) NE1_3.out (.int .i64 a14)) NE1_3.out (.int .i64 a15)) NE1_3.out (.int .i64 a16)) NE1_3.out (.int .i64 a17)) NE1_3.out (.int .i64 a18)) NE1_3.out (.int .i64 a19))
 have B2' := Aside0.mk (blk_far (p := ⟨g3, 19, none⟩) (blk_far (p := ⟨g3, 18, none⟩) (blk_far (p := ⟨g3, 17, none⟩) (blk_far (p := ⟨g3, 16, none⟩) (blk_far (p := ⟨g3, 15, none⟩) (blk_far (p := ⟨g3, 14, none⟩) (blk_far (p := ⟨g3, 13, none⟩) (blk_far (p := ⟨g3, 12, none⟩) (blk_far (p := ⟨g3, 11, none⟩) (B2.out) NE2_3.out (.int .i64 a11)) NE2_3.out (.int .i64 a12)) NE2_3.out (.int .i64 a13)) NE2_3.out (.int .i64 a14)) NE2_3.out (.int .i64 a15)) NE2_3.out (.int .i64 a16)) NE2_3.out (.int .i64 a17)) NE2_3.out (.int .i64 a18)) NE2_3.out (.int .i64 a19))
 have B3' := Aside0.mk (blk_put (cs' := #[.int .i64 a0, .int .i64 a1, .int .i64 a2, .int .i64 a3, .int .i64 a4, .bool a5, .int .i64 a6, .int .i64 a7, .int .i64 a8, .int .i64 a9, .int .i64 a10, .int .i64 a11, .int .i64 a12, .int .i64 a13, .int .i64 a14, .int .i64 a15, .int .i64 a16, .int .i64 a17, .int .i64 a18, .int .i64 a19, .int .i64 0, .int .i64 0, .int .i64 0]) (blk_put (cs' := #[.int .i64 a0, .int .i64 a1, .int .i64 a2, .int .i64 a3, .int .i64 a4, .bool a5, .int .i64 a6, .int .i64 a7, .int .i64 a8, .int .i64 a9, .int .i64 a10, .int .i64 a11, .int .i64 a12, .int .i64 a13, .int .i64 a14, .int .i64 a15, .int .i64 a16, .int .i64 a17, .int .i64 a18, .int .i64 0, .int .i64 0, .int .i64 0, .int .i64 0]) (blk_put (cs' := #[.int .i64 a0, .int .i64 a1, .int .i64 a2, .int .i64 a3, .int .i64 a4, .bool a5, .int .i64 a6, .int .i64 a7, .int .i64 a8, .int .i64 a9, .int .i64 a10, .int .i64 a11, .int .i64 a12, .int .i64 a13, .int .i64 a14, .int .i64 a15, .int .i64 a16, .int .i64 a17, .int .i64 0, .int .i64 0, .int .i64 0, .int .i64 0, .int .i64 0]) (blk_put (cs' := #[.int .i64 a0, .int .i64 a1, .int .i64 a2, .int .i64 a3, .int .i64 a4, .bool a5, .int .i64 a6, .int .i64 a7, .int .i64 a8, .int .i64 a9, .int .i64 a10, .int .i64 a11, .int .i64 a12, .int .i64 a13, .int .i64 a14, .int .i64 a15, .int .i64 a16, .int .i64 0, .int .i64 0, .int .i64 0, .int .i64 0, .int .i64 0, .int .i64 0]) (blk_put (cs' := #[.int .i64 a0, .int .i64 a1, .int .i64 a2, .int .i64 a3, .int .i64 a4, .bool a5, .int .i64 a6, .int .i64 a7, .int .i64 a8, .int .i64 a9, .int .i64 a10, .int .i64 a11, .int .i64 a12, .int .i64 a13, .int .i64 a14, .int .i64 a15, .int .i64 0, .int .i64 0, .int .i64 0, .int .i64 0, .int .i64 0, .int .i64 0, .int .i64 0]) (blk_put (cs' := #[.int .i64 a0, .int .i64 a1, .int .i64 a2, .int .i64 a3, .int .i64 a4, .bool a5, .int .i64 a6, .int .i64 a7, .int .i64 a8, .int .i64 a9, .int .i64 a10, .int .i64 a11, .int .i64 a12, .int .i64 a13, .int .i64 a14, .int .i64 0, .int .i64 0, .int .i64 0, .int .i64 0, .int .i64 0, .int .i64 0, .int .i64 0, .int .i64 0]) (blk_put (cs' := #[.int .i64 a0, .int .i64 a1, .int .i64 a2, .int .i64 a3, .int .i64 a4, .bool a5, .int .i64 a6, .int .i64 a7, .int .i64 a8, .int .i64 a9, .int .i64 a10, .int .i64 a11, .int .i64 a12, .int .i64 a13, .int .i64 0, .int .i64 0, .int .i64 0, .int .i64 0, .int .i64 0, .int .i64 0, .int .i64 0, .int .i64 0, .int .i64 0]) (blk_put (cs' := #[.int .i64 a0, .int .i64 a1, .int .i64 a2, .int .i64 a3, .int .i64 a4, .bool a5, .int .i64 a6, .int .i64 a7, .int .i64 a8, .int .i64 a9, .int .i64 a10, .int .i64 a11, .int .i64 a12, .int .i64 0, .int .i64 0, .int .i64 0, .int .i64 0, .int .i64 0, .int .i64 0, .int .i64 0, .int .i64 0, .int .i64 0, .int .i64 0]) (blk_put (cs' := #[.int .i64 a0, .int .i64 a1, .int .i64 a2, .int .i64 a3, .int .i64 a4, .bool a5, .int .i64 a6, .int .i64 a7, .int .i64 a8, .int .i64 a9, .int .i64 a10, .int .i64 a11, .int .i64 0, .int .i64 0, .int .i64 0, .int .i64 0, .int .i64 0, .int .i64 0, .int .i64 0, .int .i64 0, .int .i64 0, .int .i64 0, .int .i64 0]) B3.out 11 (.int .i64 a11) rfl) 12 (.int .i64 a12) rfl) 13 (.int .i64 a13) rfl) 14 (.int .i64 a14) rfl) 15 (.int .i64 a15) rfl) 16 (.int .i64 a16) rfl) 17 (.int .i64 a17) rfl) 18 (.int .i64 a18) rfl) 19 (.int .i64 a19) rfl)
 have HB' := Aside0.mk (below_set (j := 19) (v := .int .i64 a19) (below_set (j := 18) (v := .int .i64 a18) (below_set (j := 17) (v := .int .i64 a17) (below_set (j := 16) (v := .int .i64 a16) (below_set (j := 15) (v := .int .i64 a15) (below_set (j := 14) (v := .int .i64 a14) (below_set (j := 13) (v := .int .i64 a13) (below_set (j := 12) (v := .int .i64 a12) (below_set (j := 11) (v := .int .i64 a11) HB.out GE3.out) GE3.out) GE3.out) GE3.out) GE3.out) GE3.out) GE3.out) GE3.out) GE3.out)
 clear B1 B2 B3 HB
 generalize (((((((((w'.setCell ⟨g3, 11, none⟩ (.int .i64 a11)).setCell ⟨g3, 12, none⟩ (.int .i64 a12)).setCell ⟨g3, 13, none⟩ (.int .i64 a13)).setCell ⟨g3, 14, none⟩ (.int .i64 a14)).setCell ⟨g3, 15, none⟩ (.int .i64 a15)).setCell ⟨g3, 16, none⟩ (.int .i64 a16)).setCell ⟨g3, 17, none⟩ (.int .i64 a17)).setCell ⟨g3, 18, none⟩ (.int .i64 a18)).setCell ⟨g3, 19, none⟩ (.int .i64 a19)) = w15 at B1' B2' B3' HB' ⊢
 have B1 := B1'
 have B2 := B2'
 have B3 := B3'
 have HB := HB'
 clear B1' B2' B3' HB'
 have x20 : w15.cell? ⟨g1, 20, none⟩ = some (.int .i64 a20) := (blk_cell B1.out 20).trans rfl
 have z20 : w15.cell? ⟨g3, 20, none⟩ = some (.int .i64 0) := (blk_cell B3.out 20).trans rfl
 have f20 : w15.frozen? ⟨g3, 20, none⟩ = false := blk_frozen B3.out 20
 go_upto_region 15 with (fail)
 clear x20 z20 f20
 have B1' := Aside0.mk (blk_far (p := ⟨g3, 20, none⟩) B1.out NE1_3.out (.int .i64 a20))
 have B2' := Aside0.mk (blk_far (p := ⟨g3, 20, none⟩) B2.out NE2_3.out (.int .i64 a20))
 have B3' := Aside0.mk (blk_put (cs' := #[.int .i64 a0, .int .i64 a1, .int .i64 a2, .int .i64 a3, .int .i64 a4, .bool a5, .int .i64 a6, .int .i64 a7, .int .i64 a8, .int .i64 a9, .int .i64 a10, .int .i64 a11, .int .i64 a12, .int .i64 a13, .int .i64 a14, .int .i64 a15, .int .i64 a16, .int .i64 a17, .int .i64 a18, .int .i64 a19, .int .i64 a20, .int .i64 0, .int .i64 0]) B3.out 20 (.int .i64 a20) rfl)
 have HB' := Aside0.mk (below_set (j := 20) (v := .int .i64 a20) HB.out GE3.out)
 clear B1 B2 B3 HB
 generalize w15.setCell ⟨g3, 20, none⟩ (.int .i64 a20) = w16 at B1' B2' B3' HB' ⊢
 have B1 := B1'
 have B2 := B2'
 have B3 := B3'
 have HB := HB'
 clear B1' B2' B3' HB'
 have x21 : w16.cell? ⟨g1, 21, none⟩ = some (.int .i64 a21) := (blk_cell B1.out 21).trans rfl
 have z21 : w16.cell? ⟨g3, 21, none⟩ = some (.int .i64 0) := (blk_cell B3.out 21).trans rfl
 have f21 : w16.frozen? ⟨g3, 21, none⟩ = false := blk_frozen B3.out 21
 go_upto_region 16 with (fail)
 clear x21 z21 f21
 have B1' := Aside0.mk (blk_far (p := ⟨g3, 21, none⟩) B1.out NE1_3.out (.int .i64 a21))
 have B2' := Aside0.mk (blk_far (p := ⟨g3, 21, none⟩) B2.out NE2_3.out (.int .i64 a21))
 have B3' := Aside0.mk (blk_put (cs' := #[.int .i64 a0, .int .i64 a1, .int .i64 a2, .int .i64 a3, .int .i64 a4, .bool a5, .int .i64 a6, .int .i64 a7, .int .i64 a8, .int .i64 a9, .int .i64 a10, .int .i64 a11, .int .i64 a12, .int .i64 a13, .int .i64 a14, .int .i64 a15, .int .i64 a16, .int .i64 a17, .int .i64 a18, .int .i64 a19, .int .i64 a20, .int .i64 a21, .int .i64 0]) B3.out 21 (.int .i64 a21) rfl)
 have HB' := Aside0.mk (below_set (j := 21) (v := .int .i64 a21) HB.out GE3.out)
 clear B1 B2 B3 HB
 generalize w16.setCell ⟨g3, 21, none⟩ (.int .i64 a21) = w17 at B1' B2' B3' HB' ⊢
 have B1 := B1'
 have B2 := B2'
 have B3 := B3'
 have HB := HB'
 clear B1' B2' B3' HB'
 have x22 : w17.cell? ⟨g1, 22, none⟩ = some (.int .i64 a22) := (blk_cell B1.out 22).trans rfl
 have z22 : w17.cell? ⟨g3, 22, none⟩ = some (.int .i64 0) := (blk_cell B3.out 22).trans rfl
 have f22 : w17.frozen? ⟨g3, 22, none⟩ = false := blk_frozen B3.out 22
 go_upto_region 17 with (fail)
 clear x22 z22 f22
 have B1' := Aside0.mk (blk_far (p := ⟨g3, 22, none⟩) B1.out NE1_3.out (.int .i64 a22))
 have B2' := Aside0.mk (blk_far (p := ⟨g3, 22, none⟩) B2.out NE2_3.out (.int .i64 a22))
 have B3' := Aside0.mk (blk_put (cs' := #[.int .i64 a0, .int .i64 a1, .int .i64 a2, .int .i64 a3, .int .i64 a4, .bool a5, .int .i64 a6, .int .i64 a7, .int .i64 a8, .int .i64 a9, .int .i64 a10, .int .i64 a11, .int .i64 a12, .int .i64 a13, .int .i64 a14, .int .i64 a15, .int .i64 a16, .int .i64 a17, .int .i64 a18, .int .i64 a19, .int .i64 a20, .int .i64 a21, .int .i64 a22]) B3.out 22 (.int .i64 a22) rfl)
 have HB' := Aside0.mk (below_set (j := 22) (v := .int .i64 a22) HB.out GE3.out)
 clear B1 B2 B3 HB
 generalize w17.setCell ⟨g3, 22, none⟩ (.int .i64 a22) = w18 at B1' B2' B3' HB' ⊢
 have B1 := B1'
 have B2 := B2'
 have B3 := B3'
 have HB := HB'
 clear B1' B2' B3' HB'
 refine wp_region_list ?_
 dsimp only [Array.toList]
 refine wpList_load_row rfl 33 _ rfl g3 rfl 33 #[.int .i64 a0, .int .i64 a1, .int .i64 a2, .int .i64 a3, .int .i64 a4, .bool a5, .int .i64 a6, .int .i64 a7, .int .i64 a8, .int .i64 a9, .int .i64 a10, .int .i64 a11, .int .i64 a12, .int .i64 a13, .int .i64 a14, .int .i64 a15, .int .i64 a16, .int .i64 a17, .int .i64 a18, .int .i64 a19, .int .i64 a20, .int .i64 a21, .int .i64 a22] (0, 0) _ B3.out Tryd.underlying33 rfl (by kernel_rfl) ?_
 refine wpList_store_row rfl 33 _ _ rfl g2 #[.int .i64 a0, .int .i64 a1, .int .i64 a2, .int .i64 a3, .int .i64 a4, .bool a5, .int .i64 a6, .int .i64 a7, .int .i64 a8, .int .i64 a9, .int .i64 a10, .int .i64 a11, .int .i64 a12, .int .i64 a13, .int .i64 a14, .int .i64 a15, .int .i64 a16, .int .i64 a17, .int .i64 a18, .int .i64 a19, .int .i64 a20, .int .i64 a21, .int .i64 a22] rfl rfl 33 #[.int .i64 0, .int .i64 0, .int .i64 0, .int .i64 0, .int .i64 0, .bool false, .int .i64 0, .int .i64 0, .int .i64 0, .int .i64 0, .int .i64 0, .int .i64 0, .int .i64 0, .int .i64 0, .int .i64 0, .int .i64 0, .int .i64 0, .int .i64 0, .int .i64 0, .int .i64 0, .int .i64 0, .int .i64 0, .int .i64 0] B2.out (by kernel_rfl) rfl (by kernel_rfl) ?_
 refine wpList_nil ?_
 have B2' := setRow_heap w18 g2 _ #[.int .i64 a0, .int .i64 a1, .int .i64 a2, .int .i64 a3, .int .i64 a4, .bool a5, .int .i64 a6, .int .i64 a7, .int .i64 a8, .int .i64 a9, .int .i64 a10, .int .i64 a11, .int .i64 a12, .int .i64 a13, .int .i64 a14, .int .i64 a15, .int .i64 a16, .int .i64 a17, .int .i64 a18, .int .i64 a19, .int .i64 a20, .int .i64 a21, .int .i64 a22] _ _ B2.out
 have HB' := below_setRow HB.out GE2.out #[.int .i64 a0, .int .i64 a1, .int .i64 a2, .int .i64 a3, .int .i64 a4, .bool a5, .int .i64 a6, .int .i64 a7, .int .i64 a8, .int .i64 a9, .int .i64 a10, .int .i64 a11, .int .i64 a12, .int .i64 a13, .int .i64 a14, .int .i64 a15, .int .i64 a16, .int .i64 a17, .int .i64 a18, .int .i64 a19, .int .i64 a20, .int .i64 a21, .int .i64 a22]
 generalize World.setRow _ _ _ = W at B2' HB' ⊢
 go_wp2
 refine bodyPost_ret (results_cell_row Tryd.results8 _ _ g2 33 _ (0, 0) _ (by rfl) B2' Tryd.underlying33 rfl (by kernel_rfl)) rfl ⟨rfl, HB'⟩
theorem laws_toClient.calls (a0 : Int) (a1 : Int) (a2 : Int) (a3 : Int) (a4 : Int) (a5 : Bool) (a6 : Int) (a7 : Int) (a8 : Int) (a9 : Int) (a10 : Int) (a11 : Int) (a12 : Int) (a13 : Int) (a14 : Int) (a15 : Int) (a16 : Int) (a17 : Int) (a18 : Int) (a19 : Int) (a20 : Int) (a21 : Int) (a22 : Int) (r0 : Int) (r1 : Int) (r2 : Int) (r3 : Int) (r4 : Int) (r5 : Bool) (r6 : Int) (r7 : Int) (r8 : Int) (r9 : Int) (r10 : Int) (r11 : Int) (r12 : Int) (r13 : Int) (r14 : Int) (r15 : Int) (r16 : Int) (r17 : Int) (r18 : Int) (r19 : Int) (r20 : Int) (r21 : Int) (r22 : Int) (w : World) (h : laws_toClient.f a0 a1 a2 a3 a4 a5 a6 a7 a8 a9 a10 a11 a12 a13 a14 a15 a16 a17 a18 a19 a20 a21 a22 = some (r0, r1, r2, r3, r4, r5, r6, r7, r8, r9, r10, r11, r12, r13, r14, r15, r16, r17, r18, r19, r20, r21, r22)) :
  Calls Tryd.prog 8 #[.agg #[.int .i64 a0, .int .i64 a1, .int .i64 a2, .int .i64 a3, .int .i64 a4, .bool a5, .int .i64 a6, .int .i64 a7, .int .i64 a8, .int .i64 a9, .int .i64 a10, .int .i64 a11, .int .i64 a12, .int .i64 a13, .int .i64 a14, .int .i64 a15, .int .i64 a16, .int .i64 a17, .int .i64 a18, .int .i64 a19, .int .i64 a20, .int .i64 a21, .int .i64 a22]] w fun e w' => e = .returned (.agg #[.int .i64 r0, .int .i64 r1, .int .i64 r2, .int .i64 r3, .int .i64 r4, .bool r5, .int .i64 r6, .int .i64 r7, .int .i64 r8, .int .i64 r9, .int .i64 r10, .int .i64 r11, .int .i64 r12, .int .i64 r13, .int .i64 r14, .int .i64 r15, .int .i64 r16, .int .i64 r17, .int .i64 r18, .int .i64 r19, .int .i64 r20, .int .i64 r21, .int .i64 r22]) ∧ Below w.heap.size w w' := by
 simp only [laws_toClient.f, Option.some.injEq, Prod.mk.injEq] at h
 obtain ⟨rfl, rfl, rfl, rfl, rfl, rfl, rfl, rfl, rfl, rfl, rfl, rfl, rfl, rfl, rfl, rfl, rfl, rfl, rfl, rfl, rfl, rfl, rfl⟩ := h
 exact toClient_w a0 a1 a2 a3 a4 a6 a7 a8 a9 a10 a11 a12 a13 a14 a15 a16 a17 a18 a19 a20 a21 a22 a5 w
end Go.Proofs.YtfddealjbpdehaaDoor.A
