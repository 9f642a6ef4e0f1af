/-
  The program's FlightOf returns what the reference's returns, and shares no memory with what came in: over lists alone.
-/
import Derived.Test.YtfddealjbpdehaaQ3FlightLDef
import Derived.Test.YtfddealjbpdehaaQ3MFFlat
namespace Go.Proofs.Ytfddealjbpdehaa.Pure
set_option linter.unusedVariables false
set_option linter.unusedSimpArgs false
open Go.RowKit Go.Proofs.Ytfddealjbpdehaa Go.Proofs.Ytfddealjbpdehaa.F Go.Proofs.YtfddealjbpdehaaW.PrintWords Go.Proofs.YtfddealjbpdehaaW.PrintLast Go.Proofs.Ytfddealjbpdehaa.MF
theorem ifp {α : Type} {c : Prop} [Decidable c] {f g : Nat → Option α} {r : α} (h : c) (hf : Ev f r) : Ev (fun k => if c then f k else g k) r := Ev.congr (fun _ => if_pos h) hf
theorem ifn {α : Type} {c : Prop} [Decidable c] {f g : Nat → Option α} {r : α} (h : ¬ c) (hg : Ev g r) : Ev (fun k => if c then f k else g k) r := Ev.congr (fun _ => if_neg h) hg
theorem to_step {l x : List Int} {i : Nat} (hl : l.length ≤ 1048576) (hx : x.length = l.length) (c : i < l.length) (k : Nat) :
  laws_toIntS.l0 (k + 1) l x (i : Int) = laws_toIntS.l0 k l (x.set i l[i]) ((i + 1 : Nat) : Int) := by
 have c1 : (i : Int) < (l.length : Int) := by omega
 have c2 : (0 : Int) ≤ (i : Int) := by omega
 have c3 : (i : Int) < (x.length : Int) := by omega
 have e : wrap64 ((i : Int) + 1) = ((i + 1 : Nat) : Int) := by rw [w64 (by omega) (by omega)]; omega
 simp only [laws_toIntS.l0]
 rw [if_pos c1, if_pos c2, if_pos c3, e, rd_nat c, Int.toNat_natCast]
theorem toIntS_loop {l : List Int} (hl : l.length ≤ 1048576) : ∀ (d i : Nat) (x : List Int), l.length - i ≤ d → i ≤ l.length → x.length = l.length → (∀ j, (h : j < i) → (h2 : j < l.length) → x[j]? = some l[j]) →
  Ev (fun k => laws_toIntS.l0 k l x (i : Int)) l := by
 intro d
 have fin : ∀ (x : List Int), x.length = l.length → (∀ j, (h : j < l.length) → (h2 : j < l.length) → x[j]? = some l[j]) → Ev (fun k => laws_toIntS.l0 k l x (l.length : Int)) l := by
  intro x hx hj
  have e : x = l := by
   apply List.ext_getElem?
   intro j
   by_cases c : j < l.length
   ·
    rw [hj j c c, List.getElem?_eq_getElem c]
   ·
    rw [List.getElem?_eq_none (by omega), List.getElem?_eq_none (by omega)]
  refine Ev.step (f := fun _ => some x) (fun k => ?_) (by rw [e]; exact Ev.now _)
  simp only [laws_toIntS.l0]
  have : ¬ (l.length : Int) < (l.length : Int) := by omega
  rw [if_neg this]
 induction d with
 | zero =>
  intro i x hd hi hx hj
  have e : i = l.length := by omega
  subst e
  exact fin x hx hj
 | succ d ih =>
  intro i x hd hi hx hj
  by_cases c : i < l.length
  ·
   refine Ev.step (fun k => to_step hl hx c k) (ih (i + 1) _ (by omega) (by omega) (by rw [List.length_set]; exact hx) fun j h h2 => ?_)
   rw [List.getElem?_set]
   by_cases q : i = j
   ·
    subst q; rw [if_pos rfl, if_pos (by omega)]
   ·
    rw [if_neg q]; exact hj j (by omega) h2
  ·
   have e : i = l.length := by omega
   subst e
   exact fin x hx hj
theorem toIntS_ok {l : List Int} (hl : l.length ≤ 1048576) : Ev (fun k => laws_toIntS.f k l) l := by
 simp only [laws_toIntS.f]
 have c1 : (0 : Int) ≤ (l.length : Int) := by omega
 have c2 : ((l.length : Int)).toNat ≤ 35184372088832 := by omega
 refine ifp c1 (ifp c2 ?_)
 rw [Int.toNat_natCast]
 exact toIntS_loop hl l.length 0 _ (by omega) (by omega) List.length_replicate (fun j h => by omega)
theorem eq_step {l : List Int} {i : Nat} (hl : l.length ≤ 17592186044400) (c : i < l.length) (k : Nat) : laws_eqIntS.l0 (k + 1) l l (i : Int) = laws_eqIntS.l0 k l l ((i + 1 : Nat) : Int) := by
 have c1 : (i : Int) < (l.length : Int) := by omega
 have c2 : (0 : Int) ≤ (i : Int) := by omega
 have e : wrap64 ((i : Int) + 1) = ((i + 1 : Nat) : Int) := by rw [w64 (by omega) (by omega)]; omega
 simp only [laws_eqIntS.l0]
 rw [if_pos c1, if_pos c2, if_pos c1, if_pos trivial, e]
theorem eqIntS_ok {l : List Int} (hl : l.length ≤ 17592186044400) : Ev (fun k => laws_eqIntS.f k l l) true := by
 have loop : ∀ (d i : Nat), l.length - i ≤ d → Ev (fun k => laws_eqIntS.l0 k l l (i : Int)) true := by
  intro d
  have fin : ∀ i : Nat, ¬ i < l.length → Ev (fun k => laws_eqIntS.l0 k l l (i : Int)) true := by
   intro i c
   refine Ev.step (f := fun _ => some true) (fun k => ?_) (Ev.now _)
   have c1 : ¬ (i : Int) < (l.length : Int) := by omega
   simp only [laws_eqIntS.l0]
   rw [if_neg c1]
  induction d with
  | zero => intro i hd; exact fin i (by omega)
  | succ d ih =>
   intro i hd
   by_cases c : i < l.length
   ·
    exact Ev.step (fun k => eq_step hl c k) (ih (i + 1) (by omega))
   ·
    exact fin i c
 simp only [laws_eqIntS.f]
 exact ifp trivial (loop l.length 0 (by omega))
theorem eqFlight_ok {l : List Int} (hl : l.length ≤ 17592186044400) : Ev (fun k => laws_eqFlight.f k l [] 0 l [] 0) true := by
 simp only [laws_eqFlight.f]
 exact Ev.bind (eqIntS_ok hl) (ifp rfl (Ev.bind (eqIntS_ok (l := []) (by simp)) (ifp rfl (ifp trivial (Ev.now _)))))
theorem mark_step {x : List Int} {v : Int} {i : Nat} (hl : x.length ≤ 17592186044400) (c : i < x.length) (hv : 0 ≤ v ∧ v ≤ 35184372088900) (k : Nat) :
  laws_markIntS.l0 (k + 1) x v (i : Int) = laws_markIntS.l0 k (x.set i v) (v + 1) ((i + 1 : Nat) : Int) := by
 have c1 : (i : Int) < (x.length : Int) := by omega
 have c2 : (0 : Int) ≤ (i : Int) := by omega
 have e : wrap64 ((i : Int) + 1) = ((i + 1 : Nat) : Int) := by rw [w64 (by omega) (by omega)]; omega
 have e2 : wrap64 (v + 1) = v + 1 := w64 (by omega) (by omega)
 simp only [laws_markIntS.l0]
 rw [if_pos c1, if_pos c2, e, e2, Int.toNat_natCast]
theorem mark_loop : ∀ (d i : Nat) (x : List Int) (v : Int), x.length - i ≤ d → i ≤ x.length → x.length ≤ 17592186044400 → 0 ≤ v → v ≤ (i : Int) + 1 →
  ∃ y, Ev (fun k => laws_markIntS.l0 k x v (i : Int)) (v + ((x.length - i : Nat) : Int), y) ∧ y.length = x.length ∧ (∀ j, j < i → y[j]? = x[j]?) ∧ (∀ j, i ≤ j → j < x.length → y[j]? = some (v + ((j - i : Nat) : Int))) := by
 intro d
 have fin : ∀ (x : List Int) (v : Int), x.length ≤ 17592186044400 → ∃ y, Ev (fun k => laws_markIntS.l0 k x v (x.length : Int)) (v + ((x.length - x.length : Nat) : Int), y) ∧ y.length = x.length ∧ (∀ j, j < x.length → y[j]? = x[j]?) ∧ (∀ j, x.length ≤ j → j < x.length → y[j]? = some (v + ((j - x.length : Nat) : Int))) := by
  intro x v hx
  have e : v + ((x.length - x.length : Nat) : Int) = v := by omega
  rw [e]
  refine ⟨x, Ev.step (f := fun _ => some (v, x)) (fun k => ?_) (Ev.now _), rfl, fun j _ => rfl, fun j h1 h2 => by omega⟩
  have c1 : ¬ (x.length : Int) < (x.length : Int) := by omega
  simp only [laws_markIntS.l0]
  rw [if_neg c1]
 induction d with
 | zero =>
  intro i x v hd hi hx h0 hv
  have e : i = x.length := by omega
  subst e
  exact fin x v hx
 | succ d ih =>
  intro i x v hd hi hx h0 hv
  by_cases c : i < x.length
  ·
   have ls : (x.set i v).length = x.length := List.length_set
   obtain ⟨y, hy, hl, h1, h2⟩ := ih (i + 1) (x.set i v) (v + 1) (by omega) (by omega) (by omega) (by omega) (by omega)
   rw [ls] at hy hl h2
   have e : v + 1 + ((x.length - (i + 1) : Nat) : Int) = v + ((x.length - i : Nat) : Int) := by clear hy h1 h2; omega
   rw [e] at hy
   refine ⟨y, Ev.step (fun k => mark_step hx c ⟨h0, by clear hy h1 h2; omega⟩ k) hy, hl, fun j hj => ?_, fun j hj hjx => ?_⟩
   ·
    rw [h1 j (by omega), List.getElem?_set, if_neg (by omega)]
   ·
    by_cases q : j = i
    ·
     subst q
     rw [h1 j (by omega), List.getElem?_set, if_pos rfl, if_pos c]
     congr 1; omega
    ·
     rw [h2 j (by omega) hjx]
     congr 1; omega
  ·
   have e : i = x.length := by omega
   subst e
   exact fin x v hx
theorem mark_ok {x : List Int} (hx : x.length ≤ 17592186044400) : ∃ y, Ev (fun k => laws_markIntS.f k x 1) (1 + (x.length : Int), y) ∧ y.length = x.length ∧ ∀ j, j < x.length → y[j]? = some (1 + (j : Int)) := by
 obtain ⟨y, hy, hl, _, h2⟩ := mark_loop x.length 0 x 1 (by omega) (by omega) hx (by omega) (by omega)
 exact ⟨y, hy, hl, fun j hj => h2 j (by omega) hj⟩
theorem mark_none (v : Int) : Ev (fun k => laws_markIntS.f k [] v) (v, []) := by
 simp only [laws_markIntS.f]
 refine Ev.step (f := fun _ => some (v, [])) (fun k => ?_) (Ev.now _)
 simp only [laws_markIntS.l0]
 rw [if_neg (by simp)]
theorem held_step {y : List Int} {i : Nat} (hl : y.length ≤ 17592186044400) (c : i < y.length) (hy : y[i]? = some (1 + (i : Int))) (k : Nat) :
  laws_heldIntS.l0 (k + 1) y (1 + (i : Int)) (i : Int) = laws_heldIntS.l0 k y (1 + ((i + 1 : Nat) : Int)) ((i + 1 : Nat) : Int) := by
 have c1 : (i : Int) < (y.length : Int) := by omega
 have c2 : (0 : Int) ≤ (i : Int) := by omega
 have e : wrap64 ((i : Int) + 1) = ((i + 1 : Nat) : Int) := by rw [w64 (by omega) (by omega)]; omega
 have e2 : wrap64 (1 + (i : Int) + 1) = 1 + ((i + 1 : Nat) : Int) := by rw [w64 (by omega) (by omega)]; omega
 have r : rd y (i : Int) = 1 + (i : Int) := by
  rw [rd_nat c]
  rw [List.getElem?_eq_getElem c] at hy
  exact Option.some.inj hy
 simp only [laws_heldIntS.l0]
 rw [if_pos c1, if_pos c2, if_pos r, e, e2]
theorem held_ok {y : List Int} (hl : y.length ≤ 17592186044400) (hy : ∀ j, j < y.length → y[j]? = some (1 + (j : Int))) : Ev (fun k => laws_heldIntS.f k y 1) (1 + (y.length : Int)) := by
 have loop : ∀ (d i : Nat), y.length - i ≤ d → i ≤ y.length → Ev (fun k => laws_heldIntS.l0 k y (1 + (i : Int)) (i : Int)) (1 + (y.length : Int)) := by
  intro d
  have fin : Ev (fun k => laws_heldIntS.l0 k y (1 + (y.length : Int)) (y.length : Int)) (1 + (y.length : Int)) := by
   refine Ev.step (f := fun _ => some (1 + (y.length : Int))) (fun k => ?_) (Ev.now _)
   have c1 : ¬ (y.length : Int) < (y.length : Int) := by omega
   simp only [laws_heldIntS.l0]
   rw [if_neg c1]
  induction d with
  | zero =>
   intro i hd hi
   have e : i = y.length := by omega
   rw [e]; exact fin
  | succ d ih =>
   intro i hd hi
   by_cases c : i < y.length
   ·
    exact Ev.step (fun k => held_step hl c (hy i c) k) (ih (i + 1) (by omega) (by omega))
   ·
    have e : i = y.length := by omega
    rw [e]; exact fin
 simp only [laws_heldIntS.f]
 exact loop y.length 0 (by omega) (by omega)
theorem held_none (v : Int) : Ev (fun k => laws_heldIntS.f k [] v) v := by
 simp only [laws_heldIntS.f]
 refine Ev.step (f := fun _ => some v) (fun k => ?_) (Ev.now _)
 simp only [laws_heldIntS.l0]
 rw [if_neg (by simp)]
theorem heldFlight_ok {y : List Int} (hl : y.length ≤ 17592186044400) (hy : ∀ j, j < y.length → y[j]? = some (1 + (j : Int))) : Ev (fun k => laws_heldFlight.f k y [] 0 1) (1 + (y.length : Int)) := by
 have n : ¬ (1 + (y.length : Int)) < 0 := by omega
 simp only [laws_heldFlight.f]
 exact Ev.bind (held_ok hl hy) (ifn n (Ev.bind (held_none _) (ifn n (Ev.now _))))
theorem FnExactFlightOf : laws_FnExactFlightOf.Pure := by
 intro l _ hl _
 refine Ev.rounds ?_
 by_cases big : (l.length : Int) > 1048576
 ·
  simp only [laws_FnExactFlightOf.f]
  exact ifp big (Ev.now _)
 have hb : l.length ≤ 1048576 := by omega
 have ft : Fits l := by unfold Fits; omega
 have hfl : (flightOf l).length ≤ 17592186044400 := by have := flightOf_length l; omega
 have e1 := toIntS_ok hb
 have e2 := specFlightOf_ok ft
 have e3 := implFlightOf_ok ft
 have e4 := eqFlight_ok hfl
 have e5 := eqIntS_ok (l := l) (by omega)
 obtain ⟨m, e6, lm, _⟩ := mark_ok (x := l) (by omega)
 obtain ⟨y, e7, ly, hy⟩ := mark_ok hfl
 have e8 : Ev (fun k => laws_markFlight.f k (flightOf l) [] 0 1) (1 + ((flightOf l).length : Int), y, []) := by
  simp only [laws_markFlight.f]
  exact Ev.bind e7 (Ev.bind (mark_none _) (Ev.now _))
 have e9 := heldFlight_ok (y := y) (by rw [ly]; exact hfl) (fun j hj => hy j (by rw [ly] at hj; exact hj))
 rw [ly] at e9
 have n1 : ¬ (1 + (l.length : Int)) < 0 := by clear e1 e2 e3 e4 e5 e6 e7 e8 e9; omega
 have n2 : ¬ (1 + ((flightOf l).length : Int)) < 0 := by clear e1 e2 e3 e4 e5 e6 e7 e8 e9; omega
 simp only [laws_FnExactFlightOf.f]
 refine ifn big (Ev.bind e1 (Ev.bind e2 (Ev.bind e1 ?_)))
 simp only [e3, Option.bind_some]
 refine Ev.bind e4 (ifp rfl (Ev.bind e1 (Ev.bind e5 (ifp rfl (Ev.bind e6 (ifn n1 (Ev.bind e4 ?_)))))))
 have last : Ev (fun k => (laws_toIntS.f k l).bind fun t203 => ((impl_FlightOf.f t203).bind fun bt206 => ((laws_eqFlight.f k bt206.1 bt206.2.1 bt206.2.2 (flightOf l) [] 0).bind fun t214 => (if t214 = true then ((laws_heldFlight.f k y [] 0 1).bind fun t215 => (if t215 < 0 then (none) else (if t215 = 1 + ((flightOf l).length : Int) then (some true) else (none)))) else (none))))) true := by
  refine Ev.bind e1 ?_
  simp only [e3, Option.bind_some]
  exact Ev.bind e4 (ifp rfl (Ev.bind e9 (ifn n2 (ifp rfl (Ev.now _)))))
 apply Ev.next (b := (1 + ((flightOf l).length : Int), y, ([] : List Int))) e8
 ·
  intro k; simp only [laws_FnExactFlightOf.j0]; rw [if_neg (by simp)]
 refine Ev.bind e9 (ifn n2 (ifp rfl ?_))
 exact last
end Go.Proofs.Ytfddealjbpdehaa.Pure
