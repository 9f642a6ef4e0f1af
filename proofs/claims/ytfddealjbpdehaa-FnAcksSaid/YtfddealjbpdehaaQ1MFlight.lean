/-
  The reference's functions on flights and the drawn flight, told as plain facts on lists.
-/
import Derived.Test.YtfddealjbpdehaaQ1MAck
namespace Go.Proofs.Ytfddealjbpdehaa.M
set_option linter.unusedVariables false
set_option linter.unusedSimpArgs false
open Go.RowKit Go.Proofs.Ytfddealjbpdehaa.A Go.Proofs.YtfddealjbpdehaaW.PrintWords Go.Proofs.YtfddealjbpdehaaW.PrintLast
theorem specIn_f (a b c : Int) : spec_l01In.f a b c = some (decide (b ≤ a ∧ a ≤ c)) := by
 unfold spec_l01In.f
 by_cases h : a ≥ b
 ·
  rw [if_pos h]; congr 1; exact decide_eq_decide.mpr ⟨fun x => ⟨h, x⟩, fun x => x.2⟩
 ·
  rw [if_neg h]; congr 1; exact (decide_eq_false (fun x => h x.1)).symm
def insV (v : Int) : List Int → List Int
 | [] => [v]
 | x :: r => if v < x then v :: x :: r else x :: insV v r
def tailV (put : Bool) (v : Int) (l : List Int) : List Int := if put = true then l else insV v l
def stepF (out : List Int) (v : Int) : List Int := if (0 ≤ v ∧ v ≤ 9999) ∧ v ∉ out then insV v out else out
theorem insV_mem {v x : Int} : ∀ {l : List Int}, x ∈ insV v l ↔ x = v ∨ x ∈ l
 | [] => by simp [insV]
 | y :: r => by
  unfold insV
  by_cases h : v < y
  ·
   rw [if_pos h]; simp
  ·
   rw [if_neg h]
   simp only [List.mem_cons, insV_mem (l := r)]
   constructor
   ·
    rintro (h | h | h)
    ·
     exact .inr (.inl h)
    ·
     exact .inl h
    ·
     exact .inr (.inr h)
   ·
    rintro (h | h | h)
    ·
     exact .inr (.inl h)
    ·
     exact .inl h
    ·
     exact .inr (.inr h)
theorem insV_length (v : Int) : ∀ (l : List Int), (insV v l).length = l.length + 1
 | [] => rfl
 | y :: r => by
  unfold insV
  by_cases h : v < y
  ·
   rw [if_pos h]; rfl
  ·
   rw [if_neg h, List.length_cons, insV_length v r]; rfl
theorem insV_sorted {v : Int} : ∀ {l : List Int}, l.Pairwise (· < ·) → v ∉ l → (insV v l).Pairwise (· < ·)
 | [], _, _ => by simp [insV]
 | y :: r, h, hv => by
  unfold insV
  have h' := List.pairwise_cons.mp h
  by_cases c : v < y
  ·
   rw [if_pos c]
   refine List.pairwise_cons.mpr ⟨fun x hx => ?_, h⟩
   rcases List.mem_cons.mp hx with rfl | hx
   ·
    exact c
   ·
    exact Int.lt_trans c (h'.1 x hx)
  ·
   rw [if_neg c]
   have hne : v ≠ y := fun e => hv (by rw [e]; exact List.mem_cons_self)
   refine List.pairwise_cons.mpr ⟨fun x hx => ?_, insV_sorted h'.2 (fun e => hv (List.mem_cons_of_mem _ e))⟩
   rcases insV_mem.mp hx with rfl | hx
   ·
    omega
   ·
    exact h'.1 x hx
theorem stepF_asc {out : List Int} {v : Int} (h : Asc out) : Asc (stepF out v) := by
 unfold stepF
 by_cases c : (0 ≤ v ∧ v ≤ 9999) ∧ v ∉ out
 ·
  rw [if_pos c]
  exact ⟨insV_sorted h.1 c.2, fun x hx => by rcases insV_mem.mp hx with rfl | hx; exact c.1; exact h.2 x hx⟩
 ·
  rw [if_neg c]; exact h
theorem stepF_length (out : List Int) (v : Int) : (stepF out v).length ≤ out.length + 1 := by
 unfold stepF
 by_cases c : (0 ≤ v ∧ v ≤ 9999) ∧ v ∉ out
 ·
  rw [if_pos c, insV_length]; omega
 ·
  rw [if_neg c]; omega
theorem fold_asc : ∀ (l : List Int) {out : List Int}, Asc out → Asc (l.foldl stepF out)
 | [], _, h => h
 | v :: r, _, h => fold_asc r (stepF_asc h)
theorem fold_length : ∀ (l out : List Int), (l.foldl stepF out).length ≤ out.length + l.length
 | [], _ => by simp
 | v :: r, out => by
  have := fold_length r (stepF out v)
  have := stepF_length out v
  rw [List.foldl_cons, List.length_cons]
  omega
theorem fold_mem {x : Int} : ∀ (l out : List Int), x ∈ l.foldl stepF out ↔ (x ∈ out ∨ (x ∈ l ∧ 0 ≤ x ∧ x ≤ 9999))
 | [], out => by simp
 | v :: r, out => by
  rw [List.foldl_cons, fold_mem r]
  have hs : x ∈ stepF out v ↔ (x ∈ out ∨ (x = v ∧ 0 ≤ x ∧ x ≤ 9999)) := by
   unfold stepF
   by_cases c : (0 ≤ v ∧ v ≤ 9999) ∧ v ∉ out
   ·
    rw [if_pos c, insV_mem]
    constructor
    ·
     rintro (rfl | h)
     ·
      exact .inr ⟨rfl, c.1⟩
     ·
      exact .inl h
    ·
     rintro (h | h)
     ·
      exact .inr h
     ·
      exact .inl h.1
   ·
    rw [if_neg c]
    constructor
    ·
     exact .inl
    ·
     rintro (h | ⟨rfl, h⟩)
     ·
      exact h
     ·
      exact Decidable.byContradiction fun hn => c ⟨h, hn⟩
  rw [hs, List.mem_cons]
  constructor
  ·
   rintro ((h | h) | h)
   ·
    exact .inl h
   ·
    exact .inr ⟨.inl h.1, h.2⟩
   ·
    exact .inr ⟨.inr h.1, h.2⟩
  ·
   rintro (h | ⟨h | h, h2⟩)
   ·
    exact .inl (.inl h)
   ·
    exact .inl (.inr ⟨h, h2⟩)
   ·
    exact .inr ⟨h, h2⟩
def flightOf (l : List Int) : List Int := l.foldl stepF []
theorem flightOf_asc (l : List Int) : Asc (flightOf l) := fold_asc l ⟨List.Pairwise.nil, fun x hx => by cases hx⟩
theorem flightOf_length (l : List Int) : (flightOf l).length ≤ l.length := by have := fold_length l []; unfold flightOf; simp at this; exact this
theorem flightOf_l1 {list out : List Int} {i : Nat} (hi : i < list.length) (hf : Fits list) (ho : out.length ≤ i) {r : List Int × List Int × Int} : ∀ (d j : Nat) (acc : List Int) (put : Bool), out.length - j ≤ d → j ≤ out.length → acc.length ≤ j + 1 → (put = false → acc.length ≤ j) →
  Ev (fun k => spec_FlightOf.l0 k list (acc ++ tailV put (rd list (i : Int)) (out.drop j)) ((i + 1 : Nat) : Int)) r → Ev (fun k => spec_FlightOf.l1 k list out (i : Int) acc put (j : Int)) r := by
 unfold Fits at hf
 intro d
 have fin : ∀ (j : Nat) (acc : List Int) (put : Bool), ¬ j < out.length → acc.length ≤ out.length + 2 →
   Ev (fun k => spec_FlightOf.l0 k list (acc ++ tailV put (rd list (i : Int)) (out.drop j)) ((i + 1 : Nat) : Int)) r → Ev (fun k => spec_FlightOf.l1 k list out (i : Int) acc put (j : Int)) r := by
  intro j acc put hj ha h
  rw [drop_end hj] at h
  refine Ev.step (fun k => ?_) h
  simp only [spec_FlightOf.l1]
  rw [if_neg (by omega)]
  cases put with
  | true => rw [if_pos rfl, w64 (by omega) (by omega)]; simp [tailV]
  | false => rw [if_neg (by decide), if_pos (by omega), if_pos (by omega), if_pos (by omega), w64 (by omega) (by omega)]; simp [tailV, insV]
 induction d with
 | zero =>
  intro j acc put hd hjo ha hp h
  exact fin j acc put (by omega) (by omega) h
 | succ d ih =>
  intro j acc put hd hjo ha hp h
  by_cases c : j < out.length
  ·
   cases put with
   | true =>
    refine Ev.step (fun k => ?_) (ih (j + 1) (acc ++ [rd out (j : Int)]) true (by omega) (by omega) (by rw [List.length_append]; simp; omega) (fun x => by cases x) ?_)
    ·
     simp only [spec_FlightOf.l1]; rw [if_pos (by omega), if_pos trivial, if_pos (by omega), if_pos (by omega), w64 (by omega) (by omega)]; rfl
    ·
     have e : acc ++ tailV true (rd list (i : Int)) (out.drop j) = acc ++ [rd out (j : Int)] ++ tailV true (rd list (i : Int)) (out.drop (j + 1)) := by rw [drop_rd c]; simp [tailV]
     rw [e] at h; exact h
   | false =>
    by_cases lt : rd list (i : Int) < rd out (j : Int)
    ·
     refine Ev.step (fun k => ?_) (ih (j + 1) (acc ++ [rd list (i : Int)] ++ [rd out (j : Int)]) true (by omega) (by omega) (by have := hp rfl; rw [List.length_append, List.length_append]; simp; omega) (fun x => by cases x) ?_)
     ·
      simp only [spec_FlightOf.l1]; rw [if_pos (by omega), if_neg (by decide), if_pos (by omega), if_pos (by omega), if_pos (by omega), if_pos lt, if_pos (by omega)]
      simp only [Option.bind_some]
      rw [if_pos (by rw [List.length_append]; simp; omega), w64 (by omega) (by omega)]; rfl
     ·
      have e : acc ++ tailV false (rd list (i : Int)) (out.drop j) = acc ++ [rd list (i : Int)] ++ [rd out (j : Int)] ++ tailV true (rd list (i : Int)) (out.drop (j + 1)) := by rw [drop_rd c]; simp [tailV, insV, lt]
      rw [e] at h; exact h
    ·
     refine Ev.step (fun k => ?_) (ih (j + 1) (acc ++ [rd out (j : Int)]) false (by omega) (by omega) (by rw [List.length_append]; simp; omega) (fun _ => by have := hp rfl; rw [List.length_append]; simp; omega) ?_)
     ·
      simp only [spec_FlightOf.l1]; rw [if_pos (by omega), if_neg (by decide), if_pos (by omega), if_pos (by omega), if_pos (by omega), if_neg lt, if_pos (by omega), w64 (by omega) (by omega)]; rfl
     ·
      have e : acc ++ tailV false (rd list (i : Int)) (out.drop j) = acc ++ [rd out (j : Int)] ++ tailV false (rd list (i : Int)) (out.drop (j + 1)) := by rw [drop_rd c]; simp [tailV, insV, lt]
      rw [e] at h; exact h
  ·
   exact fin j acc put c (by omega) h
theorem flightOf_l0 {list : List Int} (hf : Fits list) : ∀ (d i : Nat) (out : List Int), list.length - i ≤ d → out.length ≤ i → Ev (fun k => spec_FlightOf.l0 k list out (i : Int)) ((list.drop i).foldl stepF out, [], 0) := by
 have hf' := hf
 unfold Fits at hf'
 intro d
 induction d with
 | zero =>
  intro i out hd ho
  refine Ev.step (f := fun _ => some (out, [], 0)) (fun k => ?_) (Ev.congr (fun _ => ?_) (Ev.now _))
  ·
   simp only [spec_FlightOf.l0]; rw [if_neg (by omega)]
  ·
   rw [drop_end (by omega)]; rfl
 | succ d ih =>
  intro i out hd ho
  by_cases c : i < list.length
  ·
   have skip : ∀ h : stepF out (rd list (i : Int)) = out, Ev (fun k => spec_FlightOf.j1 k list out (i : Int) true) ((list.drop i).foldl stepF out, [], 0) := by
    intro h
    have := ih (i + 1) out (by omega) (by omega)
    rw [drop_rd c, List.foldl_cons, h]
    refine Ev.step (fun k => ?_) this
    simp only [spec_FlightOf.j1]; rw [if_pos trivial, w64 (by omega) (by omega)]; rfl
   by_cases r : 0 ≤ rd list (i : Int) ∧ rd list (i : Int) ≤ 9999
   ·
    have hin := in_ok (l := out) (rd list (i : Int)) (by unfold Fits; omega)
    apply Ev.next hin
    ·
     intro k
     simp only [spec_FlightOf.l0]; rw [if_pos (by omega), if_pos (by omega), specIn_f, decide_eq_true r]
     simp only [Option.bind_some, if_true]
     rfl
    by_cases m : rd list (i : Int) ∈ out
    ·
     rw [decide_eq_true m]
     exact skip (by unfold stepF; rw [if_neg (fun x => x.2 m)])
    ·
     rw [decide_eq_false m]
     refine Ev.step (fun k => ?_) (flightOf_l1 c hf ho out.length 0 [] false (by omega) (by omega) (by simp) (fun _ => by simp) (r := ((list.drop i).foldl stepF out, [], 0)) ?_)
     ·
      simp only [spec_FlightOf.j1]; rw [if_neg (by decide)]; rfl
     ·
      have e : ([] : List Int) ++ tailV false (rd list (i : Int)) (out.drop 0) = stepF out (rd list (i : Int)) := by unfold stepF; rw [if_pos ⟨r, m⟩]; simp [tailV]
      rw [e, drop_rd c, List.foldl_cons]
      have := stepF_length out (rd list (i : Int))
      exact ih (i + 1) _ (by omega) (by omega)
   ·
    refine Ev.step (fun k => ?_) (skip (by unfold stepF; rw [if_neg (fun x => r x.1)]))
    simp only [spec_FlightOf.l0]; rw [if_pos (by omega), if_pos (by omega), specIn_f, decide_eq_false r]
    rfl
  ·
   refine Ev.step (f := fun _ => some (out, [], 0)) (fun k => ?_) (Ev.congr (fun _ => ?_) (Ev.now _))
   ·
    simp only [spec_FlightOf.l0]; rw [if_neg (by omega)]
   ·
    rw [drop_end (by omega)]; rfl
theorem specFlightOf_ok {list : List Int} (hf : Fits list) : Ev (fun k => spec_FlightOf.f k list) (flightOf list, [], 0) := flightOf_l0 hf list.length 0 [] (by omega) (by simp)
theorem specUp_loop {l : List Int} (hl : Fits l) : ∀ (d j : Nat), l.length - j ≤ d → Ev (fun k => spec_l31Up.l0 k l (j : Int)) (ascFrom l j && decide (l.length ≤ 100)) := by
 unfold Fits at hl
 have fin : ∀ j : Nat, ¬ j < l.length → Ev (fun k => spec_l31Up.l0 k l (j : Int)) (ascFrom l j && decide (l.length ≤ 100)) := by
  intro j hj
  rw [ascFrom_end hj, Bool.true_and]
  refine Ev.step (f := fun _ => some (decide (l.length ≤ 100))) (fun k => ?_) (Ev.now _)
  simp only [spec_l31Up.l0]; rw [if_neg (by omega)]; congr 1; exact decide_eq_decide.mpr (by omega)
 intro d
 induction d with
 | zero => intro j hd; exact fin j (by omega)
 | succ d ih =>
  intro j hd
  by_cases c : j < l.length
  ·
   by_cases r : 0 ≤ rd l (j : Int) ∧ rd l (j : Int) ≤ 9999
   ·
    by_cases z : 0 < j
    ·
     by_cases o : rd l ((j : Int) - 1) < rd l (j : Int)
     ·
      rw [ascFrom_good ⟨r, fun _ => o⟩]
      refine Ev.step (fun k => ?_) (ih (j + 1) (by omega))
      simp only [spec_l31Up.l0]
      rw [if_pos (by omega), if_pos (by omega), specIn_f, decide_eq_true r]
      simp only [Option.bind_some, if_true]
      rw [if_pos (by omega), w64 (n := (j : Int) - 1) (by omega) (by omega), if_pos (by omega), if_pos (by omega), if_neg (by omega), w64 (by omega) (by omega)]; rfl
     ·
      rw [ascFrom_bad c (fun x => o (x.2 z))]
      refine Ev.step (f := fun _ => some false) (fun k => ?_) (Ev.now _)
      simp only [spec_l31Up.l0]
      rw [if_pos (by omega), if_pos (by omega), specIn_f, decide_eq_true r]
      simp only [Option.bind_some, if_true]
      rw [if_pos (by omega), w64 (n := (j : Int) - 1) (by omega) (by omega), if_pos (by omega), if_pos (by omega), if_pos (by omega)]
    ·
     rw [ascFrom_good ⟨r, fun h => absurd h z⟩]
     refine Ev.step (fun k => ?_) (ih (j + 1) (by omega))
     simp only [spec_l31Up.l0]
     rw [if_pos (by omega), if_pos (by omega), specIn_f, decide_eq_true r]
     simp only [Option.bind_some, if_true]
     rw [if_neg (by omega), w64 (by omega) (by omega)]; rfl
   ·
    rw [ascFrom_bad c (fun x => r x.1)]
    refine Ev.step (f := fun _ => some false) (fun k => ?_) (Ev.now _)
    simp only [spec_l31Up.l0]
    rw [if_pos (by omega), if_pos (by omega), specIn_f, decide_eq_false r]
    rfl
  ·
   exact fin j c
theorem specUp_ok {l : List Int} (hl : Fits l) : Ev (fun k => spec_l31Up.f k l) (ascB l && decide (l.length ≤ 100)) := specUp_loop hl l.length 0 (by omega)
theorem specFlightOk_loop {s g : List Int} (t : Int) (hs : Fits s) (hg : Fits g) : ∀ (d j : Nat), g.length - j ≤ d → Ev (fun k => spec_FlightOk.l0 k (j : Int) s g t) (allIn (g.drop j) s) := by
 have hg' := hg
 unfold Fits at hg'
 intro d
 induction d with
 | zero =>
  intro j hd
  refine Ev.step (f := fun _ => some true) (fun k => ?_) (Ev.congr (fun _ => ?_) (Ev.now _))
  ·
   simp only [spec_FlightOk.l0]; rw [if_neg (by omega)]
  ·
   rw [drop_end (by omega)]; rfl
 | succ d ih =>
  intro j hd
  by_cases c : j < g.length
  ·
   apply Ev.next (in_ok (rd g (j : Int)) hs)
   ·
    intro k; simp only [spec_FlightOk.l0]; rw [if_pos (by omega), if_pos (by omega), w64 (by omega) (by omega)]
   by_cases e : rd g (j : Int) ∈ s
   ·
    have h2 : allIn (g.drop j) s = allIn (g.drop (j + 1)) s := by rw [drop_rd c]; unfold allIn; rw [List.all_cons, decide_eq_true e]; rfl
    rw [h2]
    exact Ev.congr (fun k => if_pos (decide_eq_true e)) (ih (j + 1) (by omega))
   ·
    have h2 : allIn (g.drop j) s = false := by rw [drop_rd c]; unfold allIn; rw [List.all_cons, decide_eq_false e]; rfl
    rw [h2]
    exact Ev.congr (fun k => if_neg (by simp [e])) (Ev.now _)
  ·
   refine Ev.step (f := fun _ => some true) (fun k => ?_) (Ev.congr (fun _ => ?_) (Ev.now _))
   ·
    simp only [spec_FlightOk.l0]; rw [if_neg (by omega)]
   ·
    rw [drop_end (by omega)]; rfl
def flightB2 (s g : List Int) (t : Int) : Bool := (ascB s && decide (s.length ≤ 100)) && (ascB g && decide (g.length ≤ 100)) && decide (0 ≤ t ∧ t ≤ 1000) && allIn g s
theorem specFlightOk_ok {s g : List Int} (t : Int) (hs : Fits s) (hg : Fits g) : Ev (fun k => spec_FlightOk.f k s g t) (flightB2 s g t) := by
 have no : Ev (fun k => spec_FlightOk.j0 k true s g t) false := Ev.step (f := fun _ => some false) (fun k => by simp only [spec_FlightOk.j0, if_true]) (Ev.now _)
 refine Ev.congr (fun k => rfl) (Ev.bind (specUp_ok hs) ?_)
 by_cases h1 : (ascB s && decide (s.length ≤ 100)) = true
 ·
  rw [h1]; refine Ev.congr (fun k => if_pos rfl) (Ev.bind (specUp_ok hg) ?_)
  by_cases h2 : (ascB g && decide (g.length ≤ 100)) = true
  ·
   rw [h2]; refine Ev.congr (fun k => if_pos rfl) ?_
   by_cases h4 : 0 ≤ t ∧ t ≤ 1000
   ·
    have e : flightB2 s g t = allIn (g.drop 0) s := by unfold flightB2; rw [h1, h2, decide_eq_true h4]; rfl
    rw [e]
    refine Ev.congr (fun k => ?_) (Ev.step (g := fun k => spec_FlightOk.j0 k false s g t) (fun k => ?_) (specFlightOk_loop t hs hg g.length 0 (by omega)))
    ·
     rw [specIn_f, decide_eq_true h4]; rfl
    ·
     simp only [spec_FlightOk.j0]; rfl
   ·
    have e : flightB2 s g t = false := by unfold flightB2; rw [decide_eq_false h4]; simp
    rw [e]
    refine Ev.congr (fun k => ?_) no
    rw [specIn_f, decide_eq_false h4]; rfl
  ·
   have e : flightB2 s g t = false := by unfold flightB2; rw [Bool.eq_false_iff.mpr h2]; simp
   rw [e, Bool.eq_false_iff.mpr h2]
   exact Ev.congr (fun k => if_neg (by decide)) no
 ·
  have e : flightB2 s g t = false := by unfold flightB2; rw [Bool.eq_false_iff.mpr h1]; simp
  rw [e, Bool.eq_false_iff.mpr h1]
  exact Ev.congr (fun k => if_neg (by decide)) no
theorem specCopy_ok {s g : List Int} (t : Int) (hs : Fits s) (hg : Fits g) : spec_l31Copy.f s g t = some (s, g, t) := by
 unfold Fits at hs hg
 unfold spec_l31Copy.f
 simp only [Option.bind_some, List.length_nil, List.nil_append]
 rw [if_pos (by omega), if_pos (by omega)]
theorem specAckedBy_loop {s g : List Int} (l : List Int) (t : Int) (hs : Fits s) (hg : Fits g) (hl : Fits l) (s' : List Int) (t' : Int) : ∀ (d j : Nat) (acc : List Int), s.length - j ≤ d → acc.length ≤ j →
  Ev (fun k => spec_AckedBy.l0 k l (j : Int) s g t s' acc t') (s', acc ++ (s.drop j).filter (pk g l), t') := by
 have hs' := hs
 unfold Fits at hs'
 intro d
 induction d with
 | zero =>
  intro j acc hd ha
  refine Ev.step (f := fun _ => some (s', acc, t')) (fun k => ?_) (Ev.congr (fun _ => ?_) (Ev.now _))
  ·
   simp only [spec_AckedBy.l0]; rw [if_neg (by omega)]
  ·
   rw [drop_end (by omega)]; simp
 | succ d ih =>
  intro j acc hd ha
  by_cases c : j < s.length
  ·
   apply Ev.next (in_ok (rd s (j : Int)) hg)
   ·
    intro k; simp only [spec_AckedBy.l0]; rw [if_pos (by omega), if_pos (by omega), w64 (by omega) (by omega)]
   have put : pk g l (rd s (j : Int)) = true → (s.drop j).filter (pk g l) = rd s (j : Int) :: (s.drop (j + 1)).filter (pk g l) := by
    intro h; rw [drop_rd c, List.filter_cons_of_pos h]
   by_cases e : rd s (j : Int) ∈ g
   ·
    rw [put (by simp [pk, e]), List.append_cons acc (rd s (j : Int)) ((s.drop (j + 1)).filter (pk g l))]
    refine Ev.congr (fun k => ?_) (ih (j + 1) (acc ++ [rd s (j : Int)]) (by omega) (by rw [List.length_append]; simp; omega))
    rw [if_pos (by simp [e]), if_pos (by omega)]; rfl
   ·
    refine Ev.congr (fun k => if_neg (by simp [e])) (Ev.bind (in_ok (rd s (j : Int)) hl) ?_)
    by_cases e2 : rd s (j : Int) ∈ l
    ·
     rw [put (by simp [pk, e2]), List.append_cons acc (rd s (j : Int)) ((s.drop (j + 1)).filter (pk g l))]
     refine Ev.congr (fun k => ?_) (ih (j + 1) (acc ++ [rd s (j : Int)]) (by omega) (by rw [List.length_append]; simp; omega))
     rw [if_pos (by simp [e2]), if_pos (by omega)]; rfl
    ·
     have h3 : (s.drop j).filter (pk g l) = (s.drop (j + 1)).filter (pk g l) := by rw [drop_rd c, List.filter_cons_of_neg (by simp [pk, e, e2])]
     rw [h3]
     refine Ev.congr (fun k => ?_) (ih (j + 1) acc (by omega) (by omega))
     rw [if_neg (by simp [e2])]; rfl
  ·
   refine Ev.step (f := fun _ => some (s', acc, t')) (fun k => ?_) (Ev.congr (fun _ => ?_) (Ev.now _))
   ·
    simp only [spec_AckedBy.l0]; rw [if_neg (by omega)]
   ·
    rw [drop_end (by omega)]; simp
theorem specAckedBy_ok {s g l : List Int} (t : Int) (hs : Fits s) (hg : Fits g) (hl : Fits l) :
  Ev (fun k => spec_AckedBy.f k s g t l) (if flightB2 s g t = true then (s, acked s g l, t) else (s, g, t)) := by
 refine Ev.congr (fun k => by unfold spec_AckedBy.f; rw [specCopy_ok t hs hg]; rfl) (Ev.bind (specFlightOk_ok t hs hg) ?_)
 by_cases h1 : flightB2 s g t = true
 ·
  rw [if_pos h1]
  exact Ev.congr (fun k => if_pos h1) (specAckedBy_loop l t hs hg hl s t s.length 0 [] (by omega) (by simp))
 ·
  rw [if_neg h1]
  exact Ev.congr (fun k => if_neg h1) (Ev.now _)
theorem flight_ok {b : List Int} {i : Int} (h : Int) (hc : Cur b i) : ∃ s g t j h', Ev (fun k => spec_l31Flight.f k b i h) (s, g, t, j, h') ∧ Cur b j ∧ Asc s ∧ s.length ≤ 6 ∧ (∃ p : Int → Bool, g = s.filter p) ∧ (t = 0 ∨ t = 3 ∨ t = 1000) := by
 obtain ⟨l1, j1, h1, e1, n1, c1⟩ := nums_ok h hc
 obtain ⟨l2, j2, h2, e2, n2, c2⟩ := nums_ok h1 c1
 obtain ⟨t, j3, h3, e3, ht, c3⟩ := pickInt_ok h2 [0, 3, 1000] c2 (by simp)
 have f1 : Fits l1 := by unfold Fits; omega
 have f2 : Fits l2 := by unfold Fits; omega
 have hl := flightOf_length l1
 have f3 : Fits (flightOf l1) := by unfold Fits; omega
 have f0 : Fits ([] : List Int) := by unfold Fits; simp
 have ha := flightOf_asc l1
 have hok : flightB2 (flightOf l1) [] 0 = true := by
  unfold flightB2
  rw [asc_ascB ha, decide_eq_true (by omega : (flightOf l1).length ≤ 100)]
  rfl
 refine ⟨flightOf l1, acked (flightOf l1) [] l2, t, j3, h3, ?_, c3, ha, by omega, ⟨_, rfl⟩, by simpa using ht⟩
 refine Ev.congr (fun k => rfl) (Ev.bind e1 (Ev.bind (specFlightOf_ok f1) (Ev.bind e2 (Ev.bind (specAckedBy_ok 0 f3 f0 f2) ?_))))
 rw [if_pos hok]
 refine Ev.congr (fun k => ?_) (Ev.now _)
 show (spec_l01PickInt.f b j2 h2 [0, 3, 1000]).bind _ = _
 rw [e3]; rfl
theorem drawFlight_ok {b : List Int} (hb : (b.length : Int) ≤ 1048576) : ∃ s g t, Ev (fun k => spec_DrawFlight.f k b) (s, g, t) ∧ Asc s ∧ s.length ≤ 6 ∧ (∃ p : Int → Bool, g = s.filter p) ∧ (t = 0 ∨ t = 3 ∨ t = 1000) := by
 obtain ⟨h, e0⟩ := new_ok b hb
 obtain ⟨s, g, t, j, h', e1, _, r⟩ := flight_ok h (cur_start hb)
 exact ⟨s, g, t, Ev.congr (fun k => rfl) (Ev.bind e0 (Ev.bind e1 (Ev.now _))), r⟩
end Go.Proofs.Ytfddealjbpdehaa.M
