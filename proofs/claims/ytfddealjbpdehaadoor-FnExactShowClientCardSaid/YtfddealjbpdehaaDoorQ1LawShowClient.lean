/-
  What is shown of a client is what the reference shows, for every client: the row and its tied card.
-/
import Derived.Test.YtfddealjbpdehaaDoorRows
import Derived.Test.YtfddealjbpdehaaDoorCards
import Derived.Test.YtfddealjbpdehaaDoorTie
import Derived.Test.YtfddealjbpdehaaDoorQ1ShowClient
import Derived.Test.YtfddealjbpdehaaDoorQ1Leaf
import Derived.WalkKit
import Derived.ProofKit
import Derived.OpenShut
import Derived.ChangeOld
import Derived.Below
import Derived.LaidLaws
import Derived.LaidMore
import Derived.Handed
import Derived.Lib.LaidU8
import Derived.SevenTiedAt
namespace Go.Proofs.YtfddealjbpdehaaDoor.showClient
open Go.ChangeShapes Go.WideShapes Go.ChangeAt Go.RowKit Go.Proofs.YtfddealjbpdehaaDoor.Leaf
set_option linter.unusedVariables false
theorem own : ownKnob Tryd.prog.godebug = none := by kernel_rfl
theorem laidOut : laidOutB Tryd.prog = true := by kernel_rfl
theorem tab_of {W : World} (h : laidMet Tryd.prog Rows.fnExactShowClientRow.laid W) : A.TabW W := by
 obtain ⟨g, t, cs, fuel, p, hg, ht, hv, hd⟩ := Lib.laidMet.reads h (n := "internal/strconv.uint64pow10") (d := Rows.laid_internal_strconv_uint64pow10) (.tail _ (.tail _ (.head _)))
 obtain rfl := Option.some.inj ((show Tryd.prog.globalNamed "internal/strconv.uint64pow10" = some 0 by kernel_rfl).symm.trans hg)
 obtain rfl := Option.some.inj ((show (Tryd.prog.globals[0]?).map (·.type) = some 174 by kernel_rfl).symm.trans ht)
 have e : (Rows.laid_internal_strconv_uint64pow10 : DataW Unit) = Lib.tabData .u64 Lib.pow10Tab := by rfl
 rw [e] at hd
 unfold A.TabW Lib.TabIs
 rw [hv, ← Lib.cells_of_tab Tryd.underlying174 Tryd.underlying167 (by kernel_rfl) (by kernel_rfl) hd]
theorem laid_met (os : Os) (args : Array Value) : laidMet Tryd.prog Rows.fnExactShowClientRow.laid ((World.doorLaid Tryd.prog 24 os).forCall (fun _ _ => 0) ⟨#[], args, []⟩).memory :=
 laidMet_of_run' 8 (by kernel_rfl) (by kernel_rfl)
theorem client_cells {H : Type} {enc : TypeId × Value → H} {W : World} {base : Nat} {spare : Nat → Bool} {held : Bool} {cs : Array Value} (hs : cs.size = Tryd.prog.cellsOf 27) (h : ∃ n y, DataW.trod enc Tryd.prog W base spare held n 27 cs.toList = some y) :
  ∃ (a0 a1 a2 a3 a4 : Int) (a5 : Bool) (a6 a7 a8 a9 a10 a11 a12 a13 a14 a15 a16 a17 a18 a19 a20 a21 a22 : Int), cs = #[.int .i64 a0, .int .i64 a1, .int .i64 a2, .int .i64 a3, .int .i64 a4, .bool a5, .int .i64 a6, .int .i64 a7, .int .i64 a8, .int .i64 a9, .int .i64 a10, .int .i64 a11, .int .i64 a12, .int .i64 a13, .int .i64 a14, .int .i64 a15, .int .i64 a16, .int .i64 a17, .int .i64 a18, .int .i64 a19, .int .i64 a20, .int .i64 a21, .int .i64 a22] ∧ (-9223372036854775808 ≤ a0 ∧ a0 ≤ 9223372036854775807) ∧ (-9223372036854775808 ≤ a10 ∧ a10 ≤ 9223372036854775807) := by
 have L := flat (enc := enc) (P := Tryd.prog) (w := W) (base := base) (spare := spare) (held := held) 4 27 cs.toList (by kernel_rfl) (by simpa using hs) h
 rw [show leaves Tryd.prog 4 27 = [3, 3, 3, 3, 3, 4, 3, 3, 3, 3, 3, 3, 3, 3, 3, 3, 3, 3, 3, 3, 3, 3, 3] from by kernel_rfl] at L
 obtain ⟨v0, l0, e0, h0, L⟩ := L.head
 obtain ⟨a0, rfl, w0⟩ := reads_int Tryd.underlying3 h0
 obtain ⟨v1, l1, e1, h1, L⟩ := L.head
 obtain ⟨a1, rfl, w1⟩ := reads_int Tryd.underlying3 h1
 obtain ⟨v2, l2, e2, h2, L⟩ := L.head
 obtain ⟨a2, rfl, w2⟩ := reads_int Tryd.underlying3 h2
 obtain ⟨v3, l3, e3, h3, L⟩ := L.head
 obtain ⟨a3, rfl, w3⟩ := reads_int Tryd.underlying3 h3
 obtain ⟨v4, l4, e4, h4, L⟩ := L.head
 obtain ⟨a4, rfl, w4⟩ := reads_int Tryd.underlying3 h4
 obtain ⟨v5, l5, e5, h5, L⟩ := L.head
 obtain ⟨a5, rfl⟩ := reads_bool Tryd.underlying4 h5
 obtain ⟨v6, l6, e6, h6, L⟩ := L.head
 obtain ⟨a6, rfl, w6⟩ := reads_int Tryd.underlying3 h6
 obtain ⟨v7, l7, e7, h7, L⟩ := L.head
 obtain ⟨a7, rfl, w7⟩ := reads_int Tryd.underlying3 h7
 obtain ⟨v8, l8, e8, h8, L⟩ := L.head
 obtain ⟨a8, rfl, w8⟩ := reads_int Tryd.underlying3 h8
 obtain ⟨v9, l9, e9, h9, L⟩ := L.head
 obtain ⟨a9, rfl, w9⟩ := reads_int Tryd.underlying3 h9
 obtain ⟨v10, l10, e10, h10, L⟩ := L.head
 obtain ⟨a10, rfl, w10⟩ := reads_int Tryd.underlying3 h10
 obtain ⟨v11, l11, e11, h11, L⟩ := L.head
 obtain ⟨a11, rfl, w11⟩ := reads_int Tryd.underlying3 h11
 obtain ⟨v12, l12, e12, h12, L⟩ := L.head
 obtain ⟨a12, rfl, w12⟩ := reads_int Tryd.underlying3 h12
 obtain ⟨v13, l13, e13, h13, L⟩ := L.head
 obtain ⟨a13, rfl, w13⟩ := reads_int Tryd.underlying3 h13
 obtain ⟨v14, l14, e14, h14, L⟩ := L.head
 obtain ⟨a14, rfl, w14⟩ := reads_int Tryd.underlying3 h14
 obtain ⟨v15, l15, e15, h15, L⟩ := L.head
 obtain ⟨a15, rfl, w15⟩ := reads_int Tryd.underlying3 h15
 obtain ⟨v16, l16, e16, h16, L⟩ := L.head
 obtain ⟨a16, rfl, w16⟩ := reads_int Tryd.underlying3 h16
 obtain ⟨v17, l17, e17, h17, L⟩ := L.head
 obtain ⟨a17, rfl, w17⟩ := reads_int Tryd.underlying3 h17
 obtain ⟨v18, l18, e18, h18, L⟩ := L.head
 obtain ⟨a18, rfl, w18⟩ := reads_int Tryd.underlying3 h18
 obtain ⟨v19, l19, e19, h19, L⟩ := L.head
 obtain ⟨a19, rfl, w19⟩ := reads_int Tryd.underlying3 h19
 obtain ⟨v20, l20, e20, h20, L⟩ := L.head
 obtain ⟨a20, rfl, w20⟩ := reads_int Tryd.underlying3 h20
 obtain ⟨v21, l21, e21, h21, L⟩ := L.head
 obtain ⟨a21, rfl, w21⟩ := reads_int Tryd.underlying3 h21
 obtain ⟨v22, l22, e22, h22, L⟩ := L.head
 obtain ⟨a22, rfl, w22⟩ := reads_int Tryd.underlying3 h22
 have L := L.none
 subst L
 subst e22
 subst e21
 subst e20
 subst e19
 subst e18
 subst e17
 subst e16
 subst e15
 subst e14
 subst e13
 subst e12
 subst e11
 subst e10
 subst e9
 subst e8
 subst e7
 subst e6
 subst e5
 subst e4
 subst e3
 subst e2
 subst e1
 refine ⟨a0, a1, a2, a3, a4, a5, a6, a7, a8, a9, a10, a11, a12, a13, a14, a15, a16, a17, a18, a19, a20, a21, a22, ?_, bounds_i64 w0, bounds_i64 w10⟩
 obtain ⟨l⟩ := cs
 simp only at e0
 rw [e0]
set_option maxRecDepth 100000 in
theorem lifted (os : Os) (started : os.Started) (H : Type) (enc : TypeId × Value → H) :
  ReturnsInHanded {} Tryd.checked os 3 .any (fun w args => (Rows.fnExactShowClientSpec.pre enc Tryd.prog Tryd.f3 Rows.fnExactShowClientRow.domain false w args ∧ laidMet Tryd.prog Rows.fnExactShowClientRow.laid w) ∧ sizedMet enc Tryd.prog Tryd.f3 (OpenSpec.ofChange Rows.fnExactShowClientSpec) false w args)
   (Rows.fnExactShowClientSpec.post enc Tryd.prog Tryd.f3 false true false false) := by
 refine returnsInHanded_of_change_and (C := Tryd.checked) (X := fun w _ => laidMet Tryd.prog Rows.fnExactShowClientRow.laid w) (fun _ _ _ hh h => h.of_heap hh) own started (by kernel_rfl) Tryd.func3
  (ChangeSpec.witness_shaped (enc := enc) (C := Tryd.checked) (os := os) (X := fun w _ => laidMet Tryd.prog Rows.fnExactShowClientRow.laid w) false (World.doorLaid Tryd.prog 24 os) #[.agg #[.int .i64 0, .int .i64 0, .int .i64 0, .int .i64 0, .int .i64 0, .bool false, .int .i64 0, .int .i64 0, .int .i64 0, .int .i64 0, .int .i64 0, .int .i64 0, .int .i64 0, .int .i64 0, .int .i64 0, .int .i64 0, .int .i64 0, .int .i64 0, .int .i64 0, .int .i64 0, .int .i64 0, .int .i64 0, .int .i64 0]] 8 rfl (World.shaped_of_RefB (by kernel_rfl) (by kernel_rfl)) (by kernel_rfl) (by kernel_rfl) (by kernel_rfl) (laid_met os _)) ?_
 intro W base args ds gs before hval0 hW hcnd0 _ hL _
 have hval : ∀ (j : Nat) t v, Tryd.f3.params[j]? = some t → args[j]? = some v → Value.okWide Tryd.prog W .any base t v := hval0
 have hW' := hW
 obtain ⟨p, q, hA0, hV, rfl, hfz, hnd⟩ := hW
 have hA : DataW.TrodAll enc Tryd.prog W 0 (fun _ => true) true Tryd.f3.params.toList args.toList ds p := hA0
 rw [Tryd.params3] at hA hval
 obtain ⟨v0, d0, rfl, rfl, h0⟩ := trodAll_one hA
 obtain ⟨rfl, rfl⟩ := trodVars_none hV
 have k0 := h0
 have lt0 : ∀ x ∈ p, x.block < W.heap.size := by obtain ⟨m, hm⟩ := k0; exact DataW.trod_lt m _ _ _ hm
 obtain ⟨cs, rfl, hsz⟩ := okWide_struct Tryd.underlying27 (hval 0 27 v0 rfl rfl)
 obtain ⟨a0, a1, a2, a3, a4, a5, a6, a7, a8, a9, a10, a11, a12, a13, a14, a15, a16, a17, a18, a19, a20, a21, a22, rfl, b0, b10⟩ := client_cells hsz (by obtain ⟨n, hn⟩ := h0; exact ⟨n, _, hn⟩)
 clear hA0 hval0
 refine (A.showClient_law a0 a1 a2 a3 a4 a6 a7 a8 a9 a10 a11 a12 a13 a14 a15 a16 a17 a18 a19 a20 a21 a22 a5 W (tab_of hL) b0 b10).mono fun e W' ⟨he, bel⟩ => ?_
 subst he
 exact ⟨_, rfl, _, _, _, [], _, [], hW', trodAll_mk1 (shut_bool Tryd.underlying4 _), (trodAll_cons_mk (Below.trod laidOut (by kernel_rfl) (of_decide_eq_true (by kernel_rfl)) k0 bel lt0) trodAll_mk0), rfl, bel.frame _, fun h => by cases h⟩
theorem over : Rows.fnExactShowClientRow.holds Tryd.pinned (OpenSpec.ofChange Rows.fnExactShowClientSpec) :=
 OpenClaim.holds_of_wide 3 Tryd.f3 rfl rfl rfl rfl rfl rfl rfl ⟨rfl, rfl, rfl, rfl, rfl⟩ rfl rfl rfl rfl rfl (by kernel_rfl) Tryd.func3 (by kernel_rfl)
  (of_decide_eq_true (by kernel_rfl)) (by unfold Func.isWrapper; first | (rw [if_pos (by decide +kernel)]; kernel_rfl) | (rw [if_neg (by decide +kernel)]; exact ⟨rfl, rfl⟩))
  (fun os started H enc _ => lifted os started H enc)
theorem carded : Rows.FnExactShowClientCardSaid :=
 Claim7.holds_tied_plain_at .later [] [.data, .data, .data] true (true, "bcb3b7472f203badeca4134a2aab41fbb5695a669b37ddb11b6de8faedaf186b") false
  over (fun _ h => by cases h) (by kernel_rfl) (fun _ h => by cases h) fnExactShowClient_row_tie rfl ⟨rfl, rfl⟩ (by kernel_rfl) rfl
  (fun f fn hf hfn => by
   obtain rfl : f = 3 := Option.some.inj ((show Tryd.prog.funcNamed "loop.example/g00466/laws.FnExactShowClient" = some 3 by kernel_rfl).symm.trans hf) |>.symm
   obtain rfl : fn = Tryd.f3 := (Option.some.inj (Tryd.func3.symm.trans hfn)).symm
   exact ⟨by kernel_rfl, fun j t ht => by
    rw [Tryd.params3] at ht
    have h3 : t = 27 := by
     rcases j with _ | j
     ·
      simpa using ht.symm
     ·
      simp at ht
    subst h3
    exact (show Tryd.prog.wantsStandIn 27 = false by kernel_rfl)⟩)
  (by kernel_rfl)
#print axioms carded
end Go.Proofs.YtfddealjbpdehaaDoor.showClient
namespace Go.Proofs.YtfddealjbpdehaaDoor
theorem showClient_holds : Rows.FnExactShowClientCardSaid := showClient.carded
end Go.Proofs.YtfddealjbpdehaaDoor
