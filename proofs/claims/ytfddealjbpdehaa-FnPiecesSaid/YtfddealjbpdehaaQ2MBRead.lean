/-
  A right part comes back from its text: plain facts.
-/
import Derived.Test.YtfddealjbpdehaaQ2Bx6
import Derived.Test.YtfddealjbpdehaaQ2MBCut
namespace Go.Proofs.Ytfddealjbpdehaa.MB
set_option linter.unusedVariables false
set_option linter.unusedSimpArgs false
open Go.RowKit Go.Proofs.Ytfddealjbpdehaa.B Go.Proofs.YtfddealjbpdehaaW.PrintWords Go.Proofs.YtfddealjbpdehaaW.PrintLast Go.Proofs.YtfddealjbpdehaaW.PrintMore
theorem var_len {n : Nat} (h : n ≤ 1000000000) : (varI n).length ≤ 5 := varI_len 4 n (by omega)
def enc (id n a : Nat) (pc : ByteArray) : List Int := varI id ++ varI n ++ varI a ++ (varI pc.size ++ nums pc)
theorem short_ok {pc : ByteArray} (h : pc.size ≤ 20000) : Ev (fun k => impl_ShortText.f k pc) (strOfNums (varI pc.size ++ nums pc), true) := by
 have v := varText_ok (n := (pc.size : Int)) (by omega) (by omega)
 rw [Int.toNat_natCast] at v
 have l := var_len (n := pc.size) (by omega)
 simp only [impl_ShortText.f]
 refine ifn (by omega) (Ev.bind v (ifp ?_ ?_))
 ·
  show (strOfNums (varI pc.size)).size + pc.size ≤ 9223372036854775807
  rw [strOfNums_size]; omega
 ·
  have e : strOfNums (varI pc.size) ++ pc = strOfNums (varI pc.size ++ nums pc) := by rw [← son_append, nums_back]
  show Ev (fun _ => some (strOfNums (varI pc.size) ++ pc, true)) _
  rw [e]
  exact Ev.now _
theorem partText_ok {id n a : Nat} {pc : ByteArray} (hok : impl_PieceOk.f (id : Int) (n : Int) (a : Int) pc = some true) (hi : id ≤ 65535) (hn : n ≤ 4000) (ha : a ≤ 4000) (hp : pc.size ≤ 1000) :
  Ev (fun k => impl_PartText.f k (id : Int) (n : Int) (a : Int) pc) (strOfNums (enc id n a pc), true) := by
 have v1 := varText_ok (n := (id : Int)) (by omega) (by omega)
 have v2 := varText_ok (n := (n : Int)) (by omega) (by omega)
 have v3 := varText_ok (n := (a : Int)) (by omega) (by omega)
 rw [Int.toNat_natCast] at v1 v2 v3
 have l1 := var_len (n := id) (by omega)
 have l2 := var_len (n := n) (by omega)
 have l3 := var_len (n := a) (by omega)
 have l4 := var_len (n := pc.size) (by omega)
 simp only [impl_PartText.f, hok, Option.bind_some]
 refine ifp trivial ?_
 refine Ev.step (f := fun k => impl_PartText.l0 k (⟨#[]⟩ : ByteArray) [(id : Int), (n : Int), (a : Int)] 3 0 (id : Int) (n : Int) (a : Int) pc) (fun k => ?_) ?_
 ·
  simp only [impl_PartText.j0]
  rw [if_neg (by simp; omega)]
  rfl
 have r0 : rd [(id : Int), (n : Int), (a : Int)] 0 = (id : Int) := rfl
 have r1 : rd [(id : Int), (n : Int), (a : Int)] 1 = (n : Int) := rfl
 have r2 : rd [(id : Int), (n : Int), (a : Int)] 2 = (a : Int) := rfl
 have z : ((⟨#[]⟩ : ByteArray)) = strOfNums [] := rfl
 rw [z]
 have fin : Ev (fun k => impl_PartText.l0 k (strOfNums (varI id ++ varI n ++ varI a)) [(id : Int), (n : Int), (a : Int)] 3 3 (id : Int) (n : Int) (a : Int) pc) (strOfNums (enc id n a pc), true) := by
  apply Ev.next (short_ok (pc := pc) (by omega))
  ·
   intro k; simp only [impl_PartText.l0]; rw [if_neg (by omega)]
  refine ifp ?_ ?_
  ·
   simp only [strOfNums_size, List.length_append, nums_len]; omega
  ·
   show Ev (fun _ => some (strOfNums (varI id ++ varI n ++ varI a) ++ strOfNums (varI pc.size ++ nums pc), true)) _
   rw [son_append]
   exact Ev.now _
 have st : ∀ (i : Nat) (acc : List Int) (m : Nat), i < 3 → rd [(id : Int), (n : Int), (a : Int)] (i : Int) = (m : Int) → m ≤ 65535 → acc.length ≤ 20 →
   Ev (fun k => impl_PartText.l0 k (strOfNums (acc ++ varI m)) [(id : Int), (n : Int), (a : Int)] 3 ((i + 1 : Nat) : Int) (id : Int) (n : Int) (a : Int) pc) (strOfNums (enc id n a pc), true) →
   Ev (fun k => impl_PartText.l0 k (strOfNums acc) [(id : Int), (n : Int), (a : Int)] 3 (i : Int) (id : Int) (n : Int) (a : Int) pc) (strOfNums (enc id n a pc), true) := by
  intro i acc m hi3 hr hm hacc hnext
  have v := varText_ok (n := (m : Int)) (by omega) (by omega)
  rw [Int.toNat_natCast] at v
  have l := var_len (n := m) (by omega)
  apply Ev.next v
  ·
   intro k; simp only [impl_PartText.l0]; rw [if_pos (by omega), if_pos (by omega), if_pos (by simp; omega), hr]
  refine ifp ?_ ?_
  ·
   simp only [strOfNums_size]; omega
  ·
   show Ev (fun k => impl_PartText.l0 k (strOfNums acc ++ strOfNums (varI m)) [(id : Int), (n : Int), (a : Int)] 3 (wrap64 ((i : Int) + 1)) (id : Int) (n : Int) (a : Int) pc) _
   rw [son_append, w64 (by omega) (by omega)]
   exact hnext
 refine st 0 [] id (by omega) r0 (by omega) (by simp) ?_
 refine st 1 _ n (by omega) r1 (by omega) (by simp; omega) ?_
 refine st 2 _ a (by omega) r2 (by omega) (by simp; omega) ?_
 rw [List.nil_append]
 exact fin
theorem enc_byte (id n a : Nat) (pc : ByteArray) : ∀ x ∈ enc id n a pc, 0 ≤ x ∧ x < 256 := by
 intro x hx
 unfold enc at hx
 simp only [List.mem_append] at hx
 rcases hx with ((h | h) | h) | (h | h)
 ·
  exact varI_byte _ x h
 ·
  exact varI_byte _ x h
 ·
  exact varI_byte _ x h
 ·
  exact varI_byte _ x h
 ·
  exact nums_byte _ x h
theorem readPart_ok {id n a : Nat} {pc : ByteArray} (hok : impl_PieceOk.f (id : Int) (n : Int) (a : Int) pc = some true) (hi : id ≤ 65535) (hn : n ≤ 4000) (ha : a ≤ 4000) (hp : pc.size ≤ 1000) :
  Ev (fun k => impl_ReadPart.f k (strOfNums (enc id n a pc))) ((id : Int), (n : Int), (a : Int), pc, true) := by
 have l1 := var_len (n := id) (by omega)
 have l2 := var_len (n := n) (by omega)
 have l3 := var_len (n := a) (by omega)
 have l4 := var_len (n := pc.size) (by omega)
 have hsz : (strOfNums (enc id n a pc)).size = (varI id).length + (varI n).length + (varI a).length + ((varI pc.size).length + pc.size) := by
  rw [strOfNums_size]; unfold enc; simp only [List.length_append, nums_len]
 have ht : ((strOfNums (enc id n a pc)).size : Int) ≤ 140737488351232 := by rw [hsz]; omega
 have H : Has (strOfNums (enc id n a pc)) 0 (enc id n a pc) := has_strOfNums _ (enc_byte id n a pc)
 have Hh := H
 unfold enc at Hh
 have e1 := readVar_ok ht (by omega) (Has.left (Has.left (Has.left Hh)))
 have e2 := readVar_ok ht (by omega) (Has.right (Has.left (Has.left Hh)))
 have e3 := readVar_ok ht (by omega) (Has.right (Has.left Hh))
 have e4 := readVar_ok ht (by omega) (Has.left (Has.right Hh))
 have hx : (strOfNums (enc id n a pc)).extract ((varI id).length + (varI n).length + (varI a).length + (varI pc.size).length) ((varI id).length + (varI n).length + (varI a).length + (varI pc.size).length + pc.size) = pc := by
  have := son_extract (varI id ++ varI n ++ varI a ++ varI pc.size) (nums pc) []
  rw [List.append_nil, nums_back, nums_len, List.append_assoc (varI id ++ varI n ++ varI a)] at this
  simp only [List.length_append] at this
  exact this
 simp only [List.length_append, Nat.zero_add] at e1 e2 e3 e4
 have e5 : Ev (fun k => impl_ReadShort.f k (strOfNums (enc id n a pc)) (((varI id).length + (varI n).length + (varI a).length : Nat) : Int)) (pc, (((varI id).length + (varI n).length + (varI a).length + (varI pc.size).length + pc.size : Nat) : Int), true) := by
  simp only [impl_ReadShort.f]
  refine Ev.bind e4 ?_
  refine ifp rfl (ifn (by show ¬ (pc.size : Int) > 20000; omega) (ifn ?_ (ifp ?_ (ifp ?_ (ifp ?_ ?_)))))
  ·
   show ¬ (pc.size : Int) > wrap64 (((strOfNums (enc id n a pc)).size : Int) - (((varI id).length + (varI n).length + (varI a).length + (varI pc.size).length : Nat) : Int))
   rw [hsz, w64 (by omega) (by omega)]; omega
  ·
   show (0 : Int) ≤ (((varI id).length + (varI n).length + (varI a).length + (varI pc.size).length : Nat) : Int)
   omega
  ·
   show (((varI id).length + (varI n).length + (varI a).length + (varI pc.size).length : Nat) : Int) ≤ wrap64 ((((varI id).length + (varI n).length + (varI a).length + (varI pc.size).length : Nat) : Int) + (pc.size : Int))
   rw [w64 (by omega) (by omega)]; omega
  ·
   show wrap64 ((((varI id).length + (varI n).length + (varI a).length + (varI pc.size).length : Nat) : Int) + (pc.size : Int)) ≤ ((strOfNums (enc id n a pc)).size : Int)
   rw [hsz, w64 (by omega) (by omega)]; omega
  ·
   show Ev (fun _ => some ((strOfNums (enc id n a pc)).extract ((((varI id).length + (varI n).length + (varI a).length + (varI pc.size).length : Nat) : Int)).toNat (wrap64 ((((varI id).length + (varI n).length + (varI a).length + (varI pc.size).length : Nat) : Int) + (pc.size : Int))).toNat, wrap64 ((((varI id).length + (varI n).length + (varI a).length + (varI pc.size).length : Nat) : Int) + (pc.size : Int)), true)) _
   rw [w64 (by omega) (by omega)]
   have c : ((((varI id).length + (varI n).length + (varI a).length + (varI pc.size).length : Nat) : Int) + (pc.size : Int)) = (((varI id).length + (varI n).length + (varI a).length + (varI pc.size).length + pc.size : Nat) : Int) := by omega
   rw [c, Int.toNat_natCast, Int.toNat_natCast, hx]
   exact Ev.now _
 simp only [impl_ReadPart.f]
 refine Ev.bind e1 (Ev.bind e2 (Ev.bind e3 (Ev.bind e5 (ifp rfl (ifp rfl (ifp rfl ?_))))))
 apply Ev.next (partText_ok hok hi hn ha hp)
 ·
  intro k; simp only [impl_ReadPart.j0]; rw [if_neg (by simp)]
 refine ifp rfl (ifp rfl (Ev.now _))
end Go.Proofs.Ytfddealjbpdehaa.MB
