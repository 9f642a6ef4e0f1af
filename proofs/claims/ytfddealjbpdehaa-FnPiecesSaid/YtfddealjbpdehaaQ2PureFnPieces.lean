/-
  Parts in any order, however often, make the whole; each comes back from its text: over numbers and lists alone, for every text that a draw is made of.
-/
import Derived.Test.YtfddealjbpdehaaQ2PiecesDef
import Derived.Test.YtfddealjbpdehaaQ2MBBox
namespace Go.Proofs.Ytfddealjbpdehaa.Pure
set_option linter.unusedVariables false
set_option linter.unusedSimpArgs false
open Go.RowKit Go.Proofs.Ytfddealjbpdehaa.B Go.Proofs.YtfddealjbpdehaaW.PrintWords Go.Proofs.YtfddealjbpdehaaW.PrintLast Go.Proofs.YtfddealjbpdehaaW.PrintMore Go.Proofs.Ytfddealjbpdehaa.MB
theorem text_loop {b : List Int} {n : Int} (hn : n ≤ 200) : ∀ (d : Nat) (acc : List Int) (x i h : Int), Cur b i → 0 ≤ x → n - x ≤ d → (acc.length : Int) ≤ x → (acc.length : Int) ≤ 200 →
  ∃ t j h', Ev (fun k => spec_l01Text.l0 k n acc x b i h) (t, j, h') ∧ t.size ≤ 200 ∧ Cur b j := by
 intro d
 induction d with
 | zero =>
  intro acc x i h hc h0 hd hl hl2
  refine ⟨strOfNums acc, i, h, Ev.step (f := fun _ => some (strOfNums acc, i, h)) (fun k => ?_) (Ev.now _), by rw [strOfNums_size]; omega, hc⟩
  simp only [spec_l01Text.l0]; rw [if_neg (by omega)]
 | succ d ih =>
  intro acc x i h hc h0 hd hl hl2
  by_cases c : x < n
  ·
   obtain ⟨v, j, h', e, v0, v1, hj⟩ := byte_ok h hc
   obtain ⟨t, j2, h2, he, hs, hc2⟩ := ih (acc ++ [v % 256]) (x + 1) j h' hj (by omega) (by omega) (by rw [List.length_append]; simp; omega) (by rw [List.length_append]; simp; omega)
   refine ⟨t, j2, h2, Ev.step (fun k => ?_) he, hs, hc2⟩
   have a1 : acc.length < 140737488355328 := by omega
   simp only [spec_l01Text.l0]; rw [if_pos c, e]; simp only [Option.bind_some]
   rw [if_pos a1, w64 (n := x + 1) (by omega) (by omega)]
  ·
   refine ⟨strOfNums acc, i, h, Ev.step (f := fun _ => some (strOfNums acc, i, h)) (fun k => ?_) (Ev.now _), by rw [strOfNums_size]; omega, hc⟩
   simp only [spec_l01Text.l0]; rw [if_neg c]
theorem some_ok {b : List Int} {i : Int} (h : Int) (hc : Cur b i) : ∃ t j h', Ev (fun k => spec_l21Some.f k b i h) (t, j, h') ∧ t.size ≤ 200 ∧ Cur b j := by
 obtain ⟨v, j, h', e, hv, hj⟩ := pickInt_ok h [0, 1, 3, 9, 54, 55, 56, 63, 64, 65, 119, 120, 200] hc (by simp)
 have hv2 : v ≤ 200 := by
  simp only [List.mem_cons, List.not_mem_nil, or_false] at hv
  omega
 obtain ⟨t, j2, h2, he, hs, hc2⟩ := text_loop hv2 200 [] 0 j h' hj (by omega) (by omega) (by simp) (by simp)
 refine ⟨t, j2, h2, ?_, hs, hc2⟩
 simp only [spec_l21Some.f, e, Option.bind_some]
 refine Ev.bind (a := (t, j2, h2)) ?_ (Ev.now _)
 have n1 : ¬ v > 5000 := by omega
 simp only [spec_l01Text.f]
 exact ifn n1 (Ev.step (fun k => by simp only [spec_l01Text.j0]) he)
theorem drawText_ok (b : List Int) (hb : (b.length : Int) ≤ 1048576) : ∃ t, Ev (fun k => spec_DrawTextOf.f k b) t ∧ t.size ≤ 200 := by
 obtain ⟨h, hh⟩ := new_ok b hb
 obtain ⟨t, j, h', he, hs, _⟩ := some_ok h (cur_start hb)
 refine ⟨t, ?_, hs⟩
 simp only [spec_DrawTextOf.f]
 exact Ev.bind hh (Ev.bind (a := (t, j, h')) he (Ev.now _))
theorem rdT {L : List S36} {i : Nat} (h : i < L.length) : rd_T36 L (i : Int) = L[i] := by
 unfold rd_T36
 rw [List.getD_eq_getElem?_getD, Int.toNat_natCast, List.getElem?_eq_getElem h, Option.getD_some]
theorem pick_good {t : ByteArray} {id : Int} {L : List S36} (hg : ∀ p ∈ L, GoodP t id p) {x : Int} (h0 : 0 ≤ x) (hL : L ≠ []) :
  0 ≤ Int.tmod x (L.length : Int) ∧ Int.tmod x (L.length : Int) < (L.length : Int) ∧ GoodP t id (rd_T36 L (Int.tmod x (L.length : Int))) := by
 have hp : 0 < L.length := List.length_pos_iff.mpr hL
 have e : Int.tmod x (L.length : Int) = x % (L.length : Int) := Int.tmod_eq_emod_of_nonneg h0
 have a : 0 ≤ x % (L.length : Int) := Int.emod_nonneg _ (by omega)
 have b : x % (L.length : Int) < (L.length : Int) := Int.emod_lt_of_pos _ (by omega)
 rw [e]
 refine ⟨a, b, ?_⟩
 have e2 : x % (L.length : Int) = (((x % (L.length : Int)).toNat : Nat) : Int) := by omega
 rw [e2, rdT (by omega)]
 exact hg _ (List.getElem_mem _)
theorem back_ok {t : ByteArray} {id : Int} {p : S36} (ht : t.size ≤ 200) (i0 : 0 ≤ id) (i1 : id ≤ 65535) (h : GoodP t id p) :
  ∃ s, Ev (fun k => impl_PartText.f k p.f0 p.f1 p.f2 p.f3) (s, true) ∧ Ev (fun k => impl_ReadPart.f k s) (p.f0, p.f1, p.f2, p.f3, true) := by
 have hok := pieceOk_ok ht i0 i1 h
 obtain ⟨a, b, hab, hb, _, rfl⟩ := h
 obtain ⟨m, rfl⟩ : ∃ m : Nat, id = (m : Int) := ⟨id.toNat, by omega⟩
 have hs : (t.extract a b).size = b - a := by rw [ByteArray.size_extract]; omega
 simp only [piece] at hok ⊢
 exact ⟨_, partText_ok hok (by omega) (by omega) (by omega) (by omega), readPart_ok hok (by omega) (by omega) (by omega) (by omega)⟩
theorem law_j2 {t : ByteArray} {id : Int} {P : List Int} {L : List S36} (ht : t.size ≤ 200) (i0 : 0 ≤ id) (i1 : id ≤ 65535) (hP : P.length = 12) (hP0 : ∀ x ∈ P, 0 ≤ x ∧ x < 10000) (hL : L ≠ []) (hn : L.length ≤ 440) (hg : ∀ p ∈ L, GoodP t id p)
  {i : Nat} (hi : i < L.length) {T : ByteArray} {H : List Bool} (hI : Inv t T H)
  (next : ∀ T2 H2, Inv t T2 H2 → (∀ j : Nat, H.getD j false = true → H2.getD j false = true) → (∀ j, Brings t id L[i] j → H2.getD j false = true) → Ev (fun k => laws_FnPieces.l0 k t P L true ((i : Int) - 1) id (t.size : Int) T2 H2) true) :
  Ev (fun k => laws_FnPieces.j2 k t P L true (i : Int) false id (t.size : Int) T H) true := by
 have p3 := hP0 (rd P 3) (rd_mem (by omega) (by omega))
 obtain ⟨m0, m1, mg⟩ := pick_good hg p3.1 hL
 obtain ⟨T1, H1, e1, hI1, hm1, hb1⟩ := boxPut_ok ht i0 i1 hI (hg _ (List.getElem_mem hi))
 obtain ⟨T2, H2, e2, hI2, hm2, _⟩ := boxPut_ok ht i0 i1 hI1 mg
 have nx := next T2 H2 hI2 (fun j h => hm2 j (hm1 j h)) (fun j h => hm2 j (hb1 j h))
 have hlen : ¬ (L.length : Int) = 0 := by have := List.length_pos_iff.mpr hL; clear e1 e2 nx next; omega
 have c1 : (0 : Int) ≤ (i : Int) := by clear e1 e2 nx next; omega
 have c2 : (i : Int) < (L.length : Int) := by clear e1 e2 nx next; omega
 have c3 : (3 : Int) < (P.length : Int) := by clear e1 e2 nx next; omega
 rw [← rdT hi] at e1
 apply Ev.next (b := (id, (t.size : Int), T1, H1, (0 : Int))) e1
 ·
  intro k; simp only [laws_FnPieces.j2]; rw [if_neg (by simp), if_pos c1, if_pos c2]
 refine ifp c3 (ifn hlen (ifp m0 (ifp m1 (Ev.bind (a := (id, (t.size : Int), T2, H2, (0 : Int))) e2 (ifp rfl (ifp rfl ?_))))))
 rw [w64 (by clear e1 e2 nx next; omega) (by clear e1 e2 nx next; omega)]
 exact nx
theorem law_l0 {t : ByteArray} {id : Int} {P : List Int} {L : List S36} (ht : t.size ≤ 200) (i0 : 0 ≤ id) (i1 : id ≤ 65535) (hP : P.length = 12) (hP0 : ∀ x ∈ P, 0 ≤ x ∧ x < 10000) (hL : L ≠ []) (hn : L.length ≤ 440) (hg : ∀ p ∈ L, GoodP t id p) (hcov : ∀ j, j < t.size → ∃ p ∈ L, Brings t id p j) :
  ∀ (i : Nat) (T : ByteArray) (H : List Bool), i ≤ L.length → Inv t T H → (∀ j q, (hq : q < L.length) → i ≤ q → Brings t id L[q] j → H.getD j false = true) →
   Ev (fun k => laws_FnPieces.l0 k t P L true ((i : Int) - 1) id (t.size : Int) T H) true := by
 intro i
 induction i with
 | zero =>
  intro T H hi hI hb
  have hw := whole_ok ht i0 i1 hI (fun j hj => by
   obtain ⟨p, hp, hbr⟩ := hcov j hj
   obtain ⟨q, hq, rfl⟩ := List.mem_iff_getElem.mp hp
   exact hb j q hq (by omega) hbr)
  apply Ev.next (b := (t, true)) hw
  ·
   intro k; simp only [laws_FnPieces.l0]; rw [if_neg (by simp)]
  refine ifp trivial (ifp rfl ?_)
  show Ev (fun _ => some (t.toList == t.toList)) true
  rw [toList_eq rfl]
  exact Ev.now _
 | succ i ih =>
  intro T H hi hI hb
  have hlt : i < L.length := by omega
  have ei : (((i + 1 : Nat) : Int) - 1) = (i : Int) := by omega
  rw [ei]
  obtain ⟨s, es, er⟩ := back_ok ht i0 i1 (hg _ (List.getElem_mem hlt))
  have ok := pieceOk_ok ht i0 i1 (hg _ (List.getElem_mem hlt))
  have nx : Ev (fun k => laws_FnPieces.j2 k t P L true (i : Int) false id (t.size : Int) T H) true := by
   refine law_j2 ht i0 i1 hP hP0 hL hn hg hlt hI (fun T2 H2 hI2 hm hbr => ih T2 H2 (Nat.le_of_lt hlt) hI2 (fun j q hq hle hbq => ?_))
   by_cases c : q = i
   ·
    subst c; exact hbr j hbq
   ·
    exact hm j (hb j q hq (by omega) hbq)
  rw [← rdT hlt] at es er ok
  have c1 : (i : Int) ≥ 0 := by clear es er nx ih; omega
  have c2 : (0 : Int) ≤ (i : Int) := by clear es er nx ih; omega
  have c3 : (i : Int) < (L.length : Int) := by clear es er nx ih; omega
  apply Ev.next (b := (s, true)) es
  ·
   intro k; simp only [laws_FnPieces.l0]; rw [if_pos c1, if_pos c2, if_pos c3]
  refine Ev.bind er (ifp rfl (ifp rfl (ifn ?_ ?_)))
  ·
   simp
  ·
   simp only [ok, Option.bind_some, Bool.not_true]
   exact nx
theorem FnPieces : laws_FnPieces.Pure := by
 intro b hb _ _
 refine Ev.rounds ?_
 by_cases big : (b.length : Int) > 1048576
 ·
  exact Ev.congr (fun k => by unfold laws_FnPieces.f laws_big.f; rw [decide_eq_true big]; rfl) (Ev.now _)
 have hb2 : (b.length : Int) ≤ 1048576 := by omega
 obtain ⟨t, et, ht⟩ := drawText_ok b hb2
 obtain ⟨P, eP, hP, hP0⟩ := places_ok b hb2
 have p0 := hP0 (rd P 0) (rd_mem (by omega) (by omega))
 have p1 := hP0 (rd P 1) (rd_mem (by omega) (by omega))
 have p2 := hP0 (rd P 2) (rd_mem (by omega) (by omega))
 have e0 : Int.tmod (rd P 0) 60000 = rd P 0 := by rw [Int.tmod_eq_emod_of_nonneg p0.1]; omega
 have e1 : Int.tmod (rd P 1) 40 = rd P 1 % 40 := Int.tmod_eq_emod_of_nonneg p1.1
 obtain ⟨sz, hsz, s1, s2⟩ : ∃ sz : Nat, wrap64 (1 + Int.tmod (rd P 1) 40) = (sz : Int) ∧ 1 ≤ sz ∧ sz ≤ 40 := by
  refine ⟨(1 + rd P 1 % 40).toNat, ?_, ?_, ?_⟩
  ·
   rw [e1, w64 (by omega) (by omega)]; omega
  ·
   omega
  ·
   omega
 have i0 : 0 ≤ rd P 0 := p0.1
 have i1 : rd P 0 ≤ 65535 := by have := p0.2; omega
 obtain ⟨L, eL, hL, hn, hg, hcov⟩ := cut_ok t (rd P 0) sz ht s1 s2 i0 i1
 obtain ⟨m0, m1, mg⟩ := pick_good hg p2.1 hL
 obtain ⟨T, H, eB, hI⟩ := boxOf_ok ht i0 i1 mg
 have hl := law_l0 ht i0 i1 hP hP0 hL hn hg hcov L.length T H (Nat.le_refl _) hI (fun j q hq hle => absurd hq (by omega))
 have pos := List.length_pos_iff.mpr hL
 have c0 : (0 : Int) < (P.length : Int) := by clear eL eB hl et eP; omega
 have c1 : (1 : Int) < (P.length : Int) := by clear eL eB hl et eP; omega
 have c2 : (2 : Int) < (P.length : Int) := by clear eL eB hl et eP; omega
 have c3 : ¬ (L.length : Int) = 0 := by clear eL eB hl et eP; omega
 have c4 : wrap64 ((L.length : Int) - 1) = (L.length : Int) - 1 := by clear eL eB hl et eP; exact w64 (by omega) (by omega)
 have nb : (decide ((b.length : Int) > 1048576)) = false := decide_eq_false big
 simp only [laws_FnPieces.f, laws_big.f, nb, Option.bind_some]
 refine ifn (by simp) (Ev.bind et (Ev.bind eP (ifp c0 (ifp c1 ?_))))
 rw [e0, hsz]
 refine Ev.bind eL (ifp rfl ?_)
 have z : ((L.length : Int) == 0) = false := by rw [beq_eq_false_iff_ne]; exact c3
 show Ev (fun k => laws_FnPieces.j0 k t P L ((L.length : Int) == 0)) true
 rw [z]
 apply Ev.next (b := (rd P 0, (t.size : Int), T, H, true)) eB
 ·
  intro k; simp only [laws_FnPieces.j0]; rw [if_neg (by simp), if_pos c2, if_neg c3, if_pos m0, if_pos m1]
 show Ev (fun k => laws_FnPieces.l0 k t P L true (wrap64 ((L.length : Int) - 1)) (rd P 0) (t.size : Int) T H) true
 rw [c4]
 exact hl
end Go.Proofs.Ytfddealjbpdehaa.Pure
