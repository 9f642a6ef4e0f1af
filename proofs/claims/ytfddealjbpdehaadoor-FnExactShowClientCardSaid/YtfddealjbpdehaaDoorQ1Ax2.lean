-- Written by a program of this session (wip/trim.py) out of the texts that the kit's print and wip/myprint.py write for this claim.
import Derived.Test.YtfddealjbpdehaaDoorQ1Ax0
import Derived.Test.YtfddealjbpdehaaDoorQ1Ax1
import Derived.Test.YtfddealjbpdehaaDoorQ1GClient
namespace Go.Proofs.YtfddealjbpdehaaDoor.A
open Go.RowKit Go.Proofs.YtfddealjbpdehaaDoorW.PrintWords Go.Proofs.YtfddealjbpdehaaDoorW.PrintLast Go.Proofs.YtfddealjbpdehaaDoorW.PrintMore
attribute [local go_sem] max2_int min2_int max_two min_two max_three min_three max_four min_four
set_option linter.unusedVariables false
set_option linter.unusedSimpArgs false
def impl_ShowClient.f (a0_0 : Int) (a0_1 : Int) (a0_2 : Int) (a0_3 : Int) (a0_4 : Int) (a0_5 : Bool) (a0_6 : Int) (a0_7 : Int) (a0_8 : Int) (a0_9 : Int) (a0_10 : Int) (a0_11 : Int) (a0_12 : Int) (a0_13 : Int) (a0_14 : Int) (a0_15 : Int) (a0_16 : Int) (a0_17 : Int) (a0_18 : Int) (a0_19 : Int) (a0_20 : Int) (a0_21 : Int) (a0_22 : Int) : Option (ByteArray) := (impl_within.f a0_3 0 4).bind fun t123 => (if t123 = true then ((some (([(⟨#[105, 100, 108, 101]⟩ : ByteArray), (⟨#[104, 101, 108, 108, 111]⟩ : ByteArray), (⟨#[119, 104, 111]⟩ : ByteArray), (⟨#[111, 112, 101, 110]⟩ : ByteArray), (⟨#[102, 97, 105, 108, 101, 100]⟩ : ByteArray)] : List ByteArray) : List ByteArray)).bind fun y124 => (if 0 ≤ a0_3 then (if a0_3 < (y124.length : Int) then ((impl_told.f a0_0).bind fun t128 => (if 7 + t128.size ≤ 9223372036854775807 then (if 7 + t128.size + 1 ≤ 9223372036854775807 then (if 7 + t128.size + 1 + (rdOf ByteArray.empty y124 a0_3).size ≤ 9223372036854775807 then (if 7 + t128.size + 1 + (rdOf ByteArray.empty y124 a0_3).size + 1 ≤ 9223372036854775807 then ((impl_told.f a0_10).bind fun t129 => (if 7 + t128.size + 1 + (rdOf ByteArray.empty y124 a0_3).size + 1 + t129.size ≤ 9223372036854775807 then (if 7 + t128.size + 1 + (rdOf ByteArray.empty y124 a0_3).size + 1 + t129.size + 1 ≤ 9223372036854775807 then (some (((((((⟨#[99, 108, 105, 101, 110, 116, 32]⟩ : ByteArray) ++ t128) ++ (⟨#[32]⟩ : ByteArray)) ++ (rdOf ByteArray.empty y124 a0_3)) ++ (⟨#[32]⟩ : ByteArray)) ++ t129) ++ (⟨#[10]⟩ : ByteArray))) else (none)) else (none))) else (none)) else (none)) else (none)) else (none))) else (none)) else (none))) else ((impl_told.f a0_0).bind fun t130 => (if 7 + t130.size ≤ 9223372036854775807 then (if 7 + t130.size + 1 ≤ 9223372036854775807 then (if 7 + t130.size + 1 + 1 ≤ 9223372036854775807 then (if 7 + t130.size + 1 + 1 + 1 ≤ 9223372036854775807 then ((impl_told.f a0_10).bind fun t131 => (if 7 + t130.size + 1 + 1 + 1 + t131.size ≤ 9223372036854775807 then (if 7 + t130.size + 1 + 1 + 1 + t131.size + 1 ≤ 9223372036854775807 then (some (((((((⟨#[99, 108, 105, 101, 110, 116, 32]⟩ : ByteArray) ++ t130) ++ (⟨#[32]⟩ : ByteArray)) ++ (⟨#[63]⟩ : ByteArray)) ++ (⟨#[32]⟩ : ByteArray)) ++ t131) ++ (⟨#[10]⟩ : ByteArray))) else (none)) else (none))) else (none)) else (none)) else (none)) else (none))))
def impl_ShowClient.T4 : Bool × List (List Nat × List Nat) := (true, [([], []), ([0], [0]), ([1], [1]), ([2], [2]), ([3], [3]), ([], []), ([4, 5], [4, 5]), ([6], [6]), ([], []), ([8], [8]), ([9, 2], [9]), ([7, 10], [7, 10]), ([11], [11]), ([12, 10, 0, 1, 2, 3, 4, 5, 6, 7, 8, 9, 10, 11, 12], [12])])
def impl_ShowClient.B4 : List Nat := [0, 1, 3, 7, 15, 0, 63, 127, 0, 256, 775, 2047, 4095, 8191]
theorem impl_ShowClient.tab4 : rtab .any (opsOf Tryd.f9 4) = impl_ShowClient.T4 := by kernel_rfl
theorem impl_ShowClient.bits4 : waitsOk impl_ShowClient.T4.2 impl_ShowClient.B4 = true := by kernel_rfl
set_option maxHeartbeats 8000000 in
set_option maxRecDepth 100000 in
theorem impl_ShowClient.calls (a0_0 : Int) (a0_1 : Int) (a0_2 : Int) (a0_3 : Int) (a0_4 : Int) (a0_5 : Bool) (a0_6 : Int) (a0_7 : Int) (a0_8 : Int) (a0_9 : Int) (a0_10 : Int) (a0_11 : Int) (a0_12 : Int) (a0_13 : Int) (a0_14 : Int) (a0_15 : Int) (a0_16 : Int) (a0_17 : Int) (a0_18 : Int) (a0_19 : Int) (a0_20 : Int) (a0_21 : Int) (a0_22 : Int) (r : ByteArray) (w : World) (hT : TabW w) (h : impl_ShowClient.f a0_0 a0_1 a0_2 a0_3 a0_4 a0_5 a0_6 a0_7 a0_8 a0_9 a0_10 a0_11 a0_12 a0_13 a0_14 a0_15 a0_16 a0_17 a0_18 a0_19 a0_20 a0_21 a0_22 = some r) :
  Calls Tryd.prog 9 #[.agg #[.int .i64 a0_0, .int .i64 a0_1, .int .i64 a0_2, .int .i64 a0_3, .int .i64 a0_4, .bool a0_5, .int .i64 a0_6, .int .i64 a0_7, .int .i64 a0_8, .int .i64 a0_9, .int .i64 a0_10, .int .i64 a0_11, .int .i64 a0_12, .int .i64 a0_13, .int .i64 a0_14, .int .i64 a0_15, .int .i64 a0_16, .int .i64 a0_17, .int .i64 a0_18, .int .i64 a0_19, .int .i64 a0_20, .int .i64 a0_21, .int .i64 a0_22]] w fun e w' => e = .returned (.string r) ∧ Below w.heap.size w w' := by
 have hu33 := Tryd.underlying33
 have HB := Aside0.mk (Below.refl w.heap.size w)
 have HT0 := Aside0.mk hT
 clear hT
 have H : ((impl_within.f a0_3 0 4).bind fun t123 => (if t123 = true then ((some (([(⟨#[105, 100, 108, 101]⟩ : ByteArray), (⟨#[104, 101, 108, 108, 111]⟩ : ByteArray), (⟨#[119, 104, 111]⟩ : ByteArray), (⟨#[111, 112, 101, 110]⟩ : ByteArray), (⟨#[102, 97, 105, 108, 101, 100]⟩ : ByteArray)] : List ByteArray) : List ByteArray)).bind fun y124 => (if 0 ≤ a0_3 then (if a0_3 < (y124.length : Int) then ((impl_told.f a0_0).bind fun t128 => (if 7 + t128.size ≤ 9223372036854775807 then (if 7 + t128.size + 1 ≤ 9223372036854775807 then (if 7 + t128.size + 1 + (rdOf ByteArray.empty y124 a0_3).size ≤ 9223372036854775807 then (if 7 + t128.size + 1 + (rdOf ByteArray.empty y124 a0_3).size + 1 ≤ 9223372036854775807 then ((impl_told.f a0_10).bind fun t129 => (if 7 + t128.size + 1 + (rdOf ByteArray.empty y124 a0_3).size + 1 + t129.size ≤ 9223372036854775807 then (if 7 + t128.size + 1 + (rdOf ByteArray.empty y124 a0_3).size + 1 + t129.size + 1 ≤ 9223372036854775807 then (some (((((((⟨#[99, 108, 105, 101, 110, 116, 32]⟩ : ByteArray) ++ t128) ++ (⟨#[32]⟩ : ByteArray)) ++ (rdOf ByteArray.empty y124 a0_3)) ++ (⟨#[32]⟩ : ByteArray)) ++ t129) ++ (⟨#[10]⟩ : ByteArray))) else (none)) else (none))) else (none)) else (none)) else (none)) else (none))) else (none)) else (none))) else ((impl_told.f a0_0).bind fun t130 => (if 7 + t130.size ≤ 9223372036854775807 then (if 7 + t130.size + 1 ≤ 9223372036854775807 then (if 7 + t130.size + 1 + 1 ≤ 9223372036854775807 then (if 7 + t130.size + 1 + 1 + 1 ≤ 9223372036854775807 then ((impl_told.f a0_10).bind fun t131 => (if 7 + t130.size + 1 + 1 + 1 + t131.size ≤ 9223372036854775807 then (if 7 + t130.size + 1 + 1 + 1 + t131.size + 1 ≤ 9223372036854775807 then (some (((((((⟨#[99, 108, 105, 101, 110, 116, 32]⟩ : ByteArray) ++ t130) ++ (⟨#[32]⟩ : ByteArray)) ++ (⟨#[63]⟩ : ByteArray)) ++ (⟨#[32]⟩ : ByteArray)) ++ t131) ++ (⟨#[10]⟩ : ByteArray))) else (none)) else (none))) else (none)) else (none)) else (none)) else (none))))) = some r := h
 clear h
 replace H := Option.bind_eq_some_iff.mp H
 obtain ⟨t123, A20, H⟩ := H
 replace H : (if t123 = true then ((some (([(⟨#[105, 100, 108, 101]⟩ : ByteArray), (⟨#[104, 101, 108, 108, 111]⟩ : ByteArray), (⟨#[119, 104, 111]⟩ : ByteArray), (⟨#[111, 112, 101, 110]⟩ : ByteArray), (⟨#[102, 97, 105, 108, 101, 100]⟩ : ByteArray)] : List ByteArray) : List ByteArray)).bind fun y124 => (if 0 ≤ a0_3 then (if a0_3 < (y124.length : Int) then ((impl_told.f a0_0).bind fun t128 => (if 7 + t128.size ≤ 9223372036854775807 then (if 7 + t128.size + 1 ≤ 9223372036854775807 then (if 7 + t128.size + 1 + (rdOf ByteArray.empty y124 a0_3).size ≤ 9223372036854775807 then (if 7 + t128.size + 1 + (rdOf ByteArray.empty y124 a0_3).size + 1 ≤ 9223372036854775807 then ((impl_told.f a0_10).bind fun t129 => (if 7 + t128.size + 1 + (rdOf ByteArray.empty y124 a0_3).size + 1 + t129.size ≤ 9223372036854775807 then (if 7 + t128.size + 1 + (rdOf ByteArray.empty y124 a0_3).size + 1 + t129.size + 1 ≤ 9223372036854775807 then (some (((((((⟨#[99, 108, 105, 101, 110, 116, 32]⟩ : ByteArray) ++ t128) ++ (⟨#[32]⟩ : ByteArray)) ++ (rdOf ByteArray.empty y124 a0_3)) ++ (⟨#[32]⟩ : ByteArray)) ++ t129) ++ (⟨#[10]⟩ : ByteArray))) else (none)) else (none))) else (none)) else (none)) else (none)) else (none))) else (none)) else (none))) else ((impl_told.f a0_0).bind fun t130 => (if 7 + t130.size ≤ 9223372036854775807 then (if 7 + t130.size + 1 ≤ 9223372036854775807 then (if 7 + t130.size + 1 + 1 ≤ 9223372036854775807 then (if 7 + t130.size + 1 + 1 + 1 ≤ 9223372036854775807 then ((impl_told.f a0_10).bind fun t131 => (if 7 + t130.size + 1 + 1 + 1 + t131.size ≤ 9223372036854775807 then (if 7 + t130.size + 1 + 1 + 1 + t131.size + 1 ≤ 9223372036854775807 then (some (((((((⟨#[99, 108, 105, 101, 110, 116, 32]⟩ : ByteArray) ++ t130) ++ (⟨#[32]⟩ : ByteArray)) ++ (⟨#[63]⟩ : ByteArray)) ++ (⟨#[32]⟩ : ByteArray)) ++ t131) ++ (⟨#[10]⟩ : ByteArray))) else (none)) else (none))) else (none)) else (none)) else (none)) else (none)))) = some r := H
 have A2 := Aside0.mk A20
 clear A20
 by_cases c3 : t123 = true
 ·
  subst c3
  have H1 : ((some (([(⟨#[105, 100, 108, 101]⟩ : ByteArray), (⟨#[104, 101, 108, 108, 111]⟩ : ByteArray), (⟨#[119, 104, 111]⟩ : ByteArray), (⟨#[111, 112, 101, 110]⟩ : ByteArray), (⟨#[102, 97, 105, 108, 101, 100]⟩ : ByteArray)] : List ByteArray) : List ByteArray)).bind fun y124 => (if 0 ≤ a0_3 then (if a0_3 < (y124.length : Int) then ((impl_told.f a0_0).bind fun t128 => (if 7 + t128.size ≤ 9223372036854775807 then (if 7 + t128.size + 1 ≤ 9223372036854775807 then (if 7 + t128.size + 1 + (rdOf ByteArray.empty y124 a0_3).size ≤ 9223372036854775807 then (if 7 + t128.size + 1 + (rdOf ByteArray.empty y124 a0_3).size + 1 ≤ 9223372036854775807 then ((impl_told.f a0_10).bind fun t129 => (if 7 + t128.size + 1 + (rdOf ByteArray.empty y124 a0_3).size + 1 + t129.size ≤ 9223372036854775807 then (if 7 + t128.size + 1 + (rdOf ByteArray.empty y124 a0_3).size + 1 + t129.size + 1 ≤ 9223372036854775807 then (some (((((((⟨#[99, 108, 105, 101, 110, 116, 32]⟩ : ByteArray) ++ t128) ++ (⟨#[32]⟩ : ByteArray)) ++ (rdOf ByteArray.empty y124 a0_3)) ++ (⟨#[32]⟩ : ByteArray)) ++ t129) ++ (⟨#[10]⟩ : ByteArray))) else (none)) else (none))) else (none)) else (none)) else (none)) else (none))) else (none)) else (none))) = some r := by rw [if_pos rfl] at H; exact H
  clear H
  have H := H1
  clear H1
  obtain ⟨y124, hy124⟩ : ∃ y_ : List ByteArray, y_ = (([(⟨#[105, 100, 108, 101]⟩ : ByteArray), (⟨#[104, 101, 108, 108, 111]⟩ : ByteArray), (⟨#[119, 104, 111]⟩ : ByteArray), (⟨#[111, 112, 101, 110]⟩ : ByteArray), (⟨#[102, 97, 105, 108, 101, 100]⟩ : ByteArray)] : List ByteArray)) := ⟨_, rfl⟩
  replace H : (if 0 ≤ a0_3 then (if a0_3 < (y124.length : Int) then ((impl_told.f a0_0).bind fun t128 => (if 7 + t128.size ≤ 9223372036854775807 then (if 7 + t128.size + 1 ≤ 9223372036854775807 then (if 7 + t128.size + 1 + (rdOf ByteArray.empty y124 a0_3).size ≤ 9223372036854775807 then (if 7 + t128.size + 1 + (rdOf ByteArray.empty y124 a0_3).size + 1 ≤ 9223372036854775807 then ((impl_told.f a0_10).bind fun t129 => (if 7 + t128.size + 1 + (rdOf ByteArray.empty y124 a0_3).size + 1 + t129.size ≤ 9223372036854775807 then (if 7 + t128.size + 1 + (rdOf ByteArray.empty y124 a0_3).size + 1 + t129.size + 1 ≤ 9223372036854775807 then (some (((((((⟨#[99, 108, 105, 101, 110, 116, 32]⟩ : ByteArray) ++ t128) ++ (⟨#[32]⟩ : ByteArray)) ++ (rdOf ByteArray.empty y124 a0_3)) ++ (⟨#[32]⟩ : ByteArray)) ++ t129) ++ (⟨#[10]⟩ : ByteArray))) else (none)) else (none))) else (none)) else (none)) else (none)) else (none))) else (none)) else (none)) = some r := by first | (rw [hy124]; with_reducible exact H) | (have H2_ := (Option.bind_some _ _).symm.trans H; rw [hy124]; with_reducible exact H2_) | (have H2_ := (Option.bind_some _ _).symm.trans H; with_reducible exact H2_) | with_reducible exact H | (rw [hy124]; exact H) | exact H
  have Ny124 := Aside0.mk hy124
  clear hy124
  by_cases c4 : 0 ≤ a0_3
  ·
   rw [if_pos c4] at H
   have c4b0 : decide (0 ≤ a0_3) = true := decide_eq_true c4
   clear c4
   by_cases c5 : a0_3 < (y124.length : Int)
   ·
    rw [if_pos c5] at H
    have c5b0 : decide (a0_3 < (y124.length : Int)) = true := decide_eq_true c5
    clear c5
    replace H := Option.bind_eq_some_iff.mp H
    obtain ⟨t128, A60, H⟩ := H
    replace H : (if 7 + t128.size ≤ 9223372036854775807 then (if 7 + t128.size + 1 ≤ 9223372036854775807 then (if 7 + t128.size + 1 + (rdOf ByteArray.empty y124 a0_3).size ≤ 9223372036854775807 then (if 7 + t128.size + 1 + (rdOf ByteArray.empty y124 a0_3).size + 1 ≤ 9223372036854775807 then ((impl_told.f a0_10).bind fun t129 => (if 7 + t128.size + 1 + (rdOf ByteArray.empty y124 a0_3).size + 1 + t129.size ≤ 9223372036854775807 then (if 7 + t128.size + 1 + (rdOf ByteArray.empty y124 a0_3).size + 1 + t129.size + 1 ≤ 9223372036854775807 then (some (((((((⟨#[99, 108, 105, 101, 110, 116, 32]⟩ : ByteArray) ++ t128) ++ (⟨#[32]⟩ : ByteArray)) ++ (rdOf ByteArray.empty y124 a0_3)) ++ (⟨#[32]⟩ : ByteArray)) ++ t129) ++ (⟨#[10]⟩ : ByteArray))) else (none)) else (none))) else (none)) else (none)) else (none)) else (none)) = some r := H
    have A6 := Aside0.mk A60
    clear A60
    by_cases c7 : 7 + t128.size ≤ 9223372036854775807
    ·
     rw [if_pos c7] at H
     have c7b0 := eq_true c7
     have c7b1 : decide (7 + t128.size ≤ 9223372036854775807) = true := decide_eq_true c7
     try have c7b2 : (9223372036854775807 < 7 + t128.size) = False := eq_false (Nat.not_lt.2 c7)
     by_cases c8 : 7 + t128.size + 1 ≤ 9223372036854775807
     ·
      rw [if_pos c8] at H
      have c8b0 := eq_true c8
      have c8b1 : decide (7 + t128.size + 1 ≤ 9223372036854775807) = true := decide_eq_true c8
      try have c8b2 : (9223372036854775807 < 7 + t128.size + 1) = False := eq_false (Nat.not_lt.2 c8)
      by_cases c9 : 7 + t128.size + 1 + (rdOf ByteArray.empty y124 a0_3).size ≤ 9223372036854775807
      ·
       rw [if_pos c9] at H
       have c9b0 := eq_true c9
       have c9b1 : decide (7 + t128.size + 1 + (rdOf ByteArray.empty y124 a0_3).size ≤ 9223372036854775807) = true := decide_eq_true c9
       try have c9b2 : (9223372036854775807 < 7 + t128.size + 1 + (rdOf ByteArray.empty y124 a0_3).size) = False := eq_false (Nat.not_lt.2 c9)
       by_cases c10 : 7 + t128.size + 1 + (rdOf ByteArray.empty y124 a0_3).size + 1 ≤ 9223372036854775807
       ·
        rw [if_pos c10] at H
        have c10b0 := eq_true c10
        have c10b1 : decide (7 + t128.size + 1 + (rdOf ByteArray.empty y124 a0_3).size + 1 ≤ 9223372036854775807) = true := decide_eq_true c10
        try have c10b2 : (9223372036854775807 < 7 + t128.size + 1 + (rdOf ByteArray.empty y124 a0_3).size + 1) = False := eq_false (Nat.not_lt.2 c10)
        replace H := Option.bind_eq_some_iff.mp H
        obtain ⟨t129, A110, H⟩ := H
        replace H : (if 7 + t128.size + 1 + (rdOf ByteArray.empty y124 a0_3).size + 1 + t129.size ≤ 9223372036854775807 then (if 7 + t128.size + 1 + (rdOf ByteArray.empty y124 a0_3).size + 1 + t129.size + 1 ≤ 9223372036854775807 then (some (((((((⟨#[99, 108, 105, 101, 110, 116, 32]⟩ : ByteArray) ++ t128) ++ (⟨#[32]⟩ : ByteArray)) ++ (rdOf ByteArray.empty y124 a0_3)) ++ (⟨#[32]⟩ : ByteArray)) ++ t129) ++ (⟨#[10]⟩ : ByteArray))) else (none)) else (none)) = some r := H
        have A11 := Aside0.mk A110
        clear A110
        by_cases c12 : 7 + t128.size + 1 + (rdOf ByteArray.empty y124 a0_3).size + 1 + t129.size ≤ 9223372036854775807
        ·
         rw [if_pos c12] at H
         have c12b0 := eq_true c12
         have c12b1 : decide (7 + t128.size + 1 + (rdOf ByteArray.empty y124 a0_3).size + 1 + t129.size ≤ 9223372036854775807) = true := decide_eq_true c12
         try have c12b2 : (9223372036854775807 < 7 + t128.size + 1 + (rdOf ByteArray.empty y124 a0_3).size + 1 + t129.size) = False := eq_false (Nat.not_lt.2 c12)
         by_cases c13 : 7 + t128.size + 1 + (rdOf ByteArray.empty y124 a0_3).size + 1 + t129.size + 1 ≤ 9223372036854775807
         ·
          rw [if_pos c13] at H
          have c13b0 := eq_true c13
          have c13b1 : decide (7 + t128.size + 1 + (rdOf ByteArray.empty y124 a0_3).size + 1 + t129.size + 1 ≤ 9223372036854775807) = true := decide_eq_true c13
          try have c13b2 : (9223372036854775807 < 7 + t128.size + 1 + (rdOf ByteArray.empty y124 a0_3).size + 1 + t129.size + 1) = False := eq_false (Nat.not_lt.2 c13)
          obtain rfl := Option.some.inj H
          go_enter Tryd.func9, Tryd.ntmps9
          try go_wp2_with (first | ((with_reducible refine gate_dst (N := 1) rfl ?_); refine box_event ?hg (N := 1) ?hd (cs := #[.int .i64 a0_0, .int .i64 a0_1, .int .i64 a0_2, .int .i64 a0_3, .int .i64 a0_4, .bool a0_5, .int .i64 a0_6, .int .i64 a0_7, .int .i64 a0_8, .int .i64 a0_9, .int .i64 a0_10, .int .i64 a0_11, .int .i64 a0_12, .int .i64 a0_13, .int .i64 a0_14, .int .i64 a0_15, .int .i64 a0_16, .int .i64 a0_17, .int .i64 a0_18, .int .i64 a0_19, .int .i64 a0_20, .int .i64 a0_21, .int .i64 a0_22]) (t := 33) ?hr ?_; (case hd => rfl); (case hg => rfl); (case hr => first | (go_simp; done) | (go_simp; rfl)); intro gb122 hg w14 hbox hb; have n0_ := Aside0.mk (below_step (by repeat (first | (with_reducible first | exact HB.out | apply below_alloc | apply pw_below_drewN | apply below_drew1) | exact HB.out)) hb); have n1_ := Aside0.mk (hbox); have n2_ := Aside0.mk ((by rw [hg]; exact (below_size (by repeat (first | (with_reducible first | exact HB.out | apply below_alloc | apply pw_below_drewN | apply below_drew1) | exact HB.out))) : w.heap.size ≤ gb122)); have n3_ := Aside0.mk ((by rw [hg]; exact (below_size (by repeat (first | (with_reducible first | exact HB.out | apply below_alloc | apply pw_below_drewN | apply below_drew1) | exact HB.out))) : w.heap.size ≤ gb122)); clear HB; have HB := n0_; have BK122 := n1_; have GW122 := n2_; have GE122 := n3_; clear n0_ n1_ n2_ n3_; clear hb hbox hg; have hcz15_0 : w14.cell? ⟨gb122, 0, none⟩ = some (.int .i64 a0_0) := (blk_cell BK122.out 0).trans rfl; have hcz15_1 : w14.cell? ⟨gb122, 1, none⟩ = some (.int .i64 a0_1) := (blk_cell BK122.out 1).trans rfl; have hcz15_2 : w14.cell? ⟨gb122, 2, none⟩ = some (.int .i64 a0_2) := (blk_cell BK122.out 2).trans rfl; have hcz15_3 : w14.cell? ⟨gb122, 3, none⟩ = some (.int .i64 a0_3) := (blk_cell BK122.out 3).trans rfl; have hcz15_4 : w14.cell? ⟨gb122, 4, none⟩ = some (.int .i64 a0_4) := (blk_cell BK122.out 4).trans rfl; have hcz15_5 : w14.cell? ⟨gb122, 5, none⟩ = some (.bool a0_5) := (blk_cell BK122.out 5).trans rfl; have hcz15_6 : w14.cell? ⟨gb122, 6, none⟩ = some (.int .i64 a0_6) := (blk_cell BK122.out 6).trans rfl; have hcz15_7 : w14.cell? ⟨gb122, 7, none⟩ = some (.int .i64 a0_7) := (blk_cell BK122.out 7).trans rfl; have hcz15_8 : w14.cell? ⟨gb122, 8, none⟩ = some (.int .i64 a0_8) := (blk_cell BK122.out 8).trans rfl; have hcz15_9 : w14.cell? ⟨gb122, 9, none⟩ = some (.int .i64 a0_9) := (blk_cell BK122.out 9).trans rfl; have hcz15_10 : w14.cell? ⟨gb122, 10, none⟩ = some (.int .i64 a0_10) := (blk_cell BK122.out 10).trans rfl; have hcz15_11 : w14.cell? ⟨gb122, 11, none⟩ = some (.int .i64 a0_11) := (blk_cell BK122.out 11).trans rfl; have hcz15_12 : w14.cell? ⟨gb122, 12, none⟩ = some (.int .i64 a0_12) := (blk_cell BK122.out 12).trans rfl; have hcz15_13 : w14.cell? ⟨gb122, 13, none⟩ = some (.int .i64 a0_13) := (blk_cell BK122.out 13).trans rfl; have hcz15_14 : w14.cell? ⟨gb122, 14, none⟩ = some (.int .i64 a0_14) := (blk_cell BK122.out 14).trans rfl; have hcz15_15 : w14.cell? ⟨gb122, 15, none⟩ = some (.int .i64 a0_15) := (blk_cell BK122.out 15).trans rfl; have hcz15_16 : w14.cell? ⟨gb122, 16, none⟩ = some (.int .i64 a0_16) := (blk_cell BK122.out 16).trans rfl; have hcz15_17 : w14.cell? ⟨gb122, 17, none⟩ = some (.int .i64 a0_17) := (blk_cell BK122.out 17).trans rfl; have hcz15_18 : w14.cell? ⟨gb122, 18, none⟩ = some (.int .i64 a0_18) := (blk_cell BK122.out 18).trans rfl; have hcz15_19 : w14.cell? ⟨gb122, 19, none⟩ = some (.int .i64 a0_19) := (blk_cell BK122.out 19).trans rfl; have hcz15_20 : w14.cell? ⟨gb122, 20, none⟩ = some (.int .i64 a0_20) := (blk_cell BK122.out 20).trans rfl; have hcz15_21 : w14.cell? ⟨gb122, 21, none⟩ = some (.int .i64 a0_21) := (blk_cell BK122.out 21).trans rfl; have hcz15_22 : w14.cell? ⟨gb122, 22, none⟩ = some (.int .i64 a0_22) := (blk_cell BK122.out 22).trans rfl; have hfz15_0 := blk_frozen BK122.out 0; have hfz15_1 := blk_frozen BK122.out 1; have hfz15_2 := blk_frozen BK122.out 2; have hfz15_3 := blk_frozen BK122.out 3; have hfz15_4 := blk_frozen BK122.out 4; have hfz15_5 := blk_frozen BK122.out 5; have hfz15_6 := blk_frozen BK122.out 6; have hfz15_7 := blk_frozen BK122.out 7; have hfz15_8 := blk_frozen BK122.out 8; have hfz15_9 := blk_frozen BK122.out 9; have hfz15_10 := blk_frozen BK122.out 10; have hfz15_11 := blk_frozen BK122.out 11; have hfz15_12 := blk_frozen BK122.out 12; have hfz15_13 := blk_frozen BK122.out 13; have hfz15_14 := blk_frozen BK122.out 14; have hfz15_15 := blk_frozen BK122.out 15; have hfz15_16 := blk_frozen BK122.out 16; have hfz15_17 := blk_frozen BK122.out 17; have hfz15_18 := blk_frozen BK122.out 18; have hfz15_19 := blk_frozen BK122.out 19; have hfz15_20 := blk_frozen BK122.out 20; have hfz15_21 := blk_frozen BK122.out 21; have hfz15_22 := blk_frozen BK122.out 22) | ((with_reducible refine gate_callee (f := 28) rfl ?_); refine goesL_ (some 6) rfl rfl Tryd.func28 (by kernel_rfl) rfl #[.int .i64 a0_3, .int .i64 0, .int .i64 4] rfl (by (try simp only [List.map_toArray, List.map_cons, List.map_nil]); first | done | rfl | (simp only [List.length_drop, List.length_take]; rfl)) ?_; (with_reducible refine (impl_within.calls a0_3 0 4 true _ A2.out).mono ?_); rintro e w' ⟨rfl, ⟨nd, rfl⟩⟩; refine ⟨_, rfl, ?_⟩) | ((with_reducible refine gate_dst (N := 7) rfl ?_); refine Kd.R_lit Kd.string _ 9 ?hg (N := 7) ?hd (xs := ([(⟨#[105, 100, 108, 101]⟩ : ByteArray), (⟨#[104, 101, 108, 108, 111]⟩ : ByteArray), (⟨#[119, 104, 111]⟩ : ByteArray), (⟨#[111, 112, 101, 110]⟩ : ByteArray), (⟨#[102, 97, 105, 108, 101, 100]⟩ : ByteArray)] : List ByteArray)) (inner := [.string (⟨#[105, 100, 108, 101]⟩ : ByteArray), .string (⟨#[104, 101, 108, 108, 111]⟩ : ByteArray), .string (⟨#[119, 104, 111]⟩ : ByteArray), .string (⟨#[111, 112, 101, 110]⟩ : ByteArray), .string (⟨#[102, 97, 105, 108, 101, 100]⟩ : ByteArray)]) (ok := fun _ => True) (okp := fun _ => True) ?hr ?hp (fun _ hk => hk) trivial (Below.refl _ _) (Nat.le_refl _) (by simp) ?_; (case hd => rfl); (case hg => rfl); (case hr => first | (go_simp; done) | (go_simp; rfl)); (case hp => exact (Reps.one (show Kd.M Kd.string _ _ _ (⟨#[105, 100, 108, 101]⟩ : ByteArray) [.string (⟨#[105, 100, 108, 101]⟩ : ByteArray)] from rfl) (Reps.one (show Kd.M Kd.string _ _ _ (⟨#[104, 101, 108, 108, 111]⟩ : ByteArray) [.string (⟨#[104, 101, 108, 108, 111]⟩ : ByteArray)] from rfl) (Reps.one (show Kd.M Kd.string _ _ _ (⟨#[119, 104, 111]⟩ : ByteArray) [.string (⟨#[119, 104, 111]⟩ : ByteArray)] from rfl) (Reps.one (show Kd.M Kd.string _ _ _ (⟨#[111, 112, 101, 110]⟩ : ByteArray) [.string (⟨#[111, 112, 101, 110]⟩ : ByteArray)] from rfl) (Reps.one (show Kd.M Kd.string _ _ _ (⟨#[102, 97, 105, 108, 101, 100]⟩ : ByteArray) [.string (⟨#[102, 97, 105, 108, 101, 100]⟩ : ByteArray)] from rfl) (Reps.none _ _))))))); intro v125 w16 ho17 hb hg_ hnew_; clear hg_ hnew_; (first | rw [← Ny124.out] at ho17 | (simp only [Int.reduceToNat] at ho17; rw [← Ny124.out] at ho17)); have n0_ := Aside0.mk (Kd.R_lower ho17 (below_size (by repeat (first | (with_reducible first | exact HB.out | apply below_alloc | apply pw_below_drewN | apply below_drew1 | refine below_set ?_ GE122.out) | exact HB.out)))); have n1_ := Aside0.mk (blk_below (g := gb122) (o := .cells #[.int .i64 a0_0, .int .i64 a0_1, .int .i64 a0_2, .int .i64 a0_3, .int .i64 a0_4, .bool a0_5, .int .i64 a0_6, .int .i64 a0_7, .int .i64 a0_8, .int .i64 a0_9, .int .i64 a0_10, .int .i64 a0_11, .int .i64 a0_12, .int .i64 a0_13, .int .i64 a0_14, .int .i64 a0_15, .int .i64 a0_16, .int .i64 a0_17, .int .i64 a0_18, .int .i64 a0_19, .int .i64 a0_20, .int .i64 a0_21, .int .i64 a0_22] 33 (0, 0)) (by (with_reducible repeat (first | refine blk_drewN ?_ _ | refine blk_drew ?_ | refine blk_alloc ?_ _)); exact BK122.out) hb); have n2_ := Aside0.mk (below_step (by repeat (first | (with_reducible first | exact HB.out | apply below_alloc | apply pw_below_drewN | apply below_drew1 | refine below_set ?_ GE122.out) | exact HB.out)) hb); clear BK122; clear HB; have HO126 := n0_; have BK122 := n1_; have HB := n2_; clear n0_ n1_ n2_; clear hb ho17; have hcz18_0 : w16.cell? ⟨gb122, 0, none⟩ = some (.int .i64 a0_0) := (blk_cell BK122.out 0).trans rfl; have hcz18_1 : w16.cell? ⟨gb122, 1, none⟩ = some (.int .i64 a0_1) := (blk_cell BK122.out 1).trans rfl; have hcz18_2 : w16.cell? ⟨gb122, 2, none⟩ = some (.int .i64 a0_2) := (blk_cell BK122.out 2).trans rfl; have hcz18_3 : w16.cell? ⟨gb122, 3, none⟩ = some (.int .i64 a0_3) := (blk_cell BK122.out 3).trans rfl; have hcz18_4 : w16.cell? ⟨gb122, 4, none⟩ = some (.int .i64 a0_4) := (blk_cell BK122.out 4).trans rfl; have hcz18_5 : w16.cell? ⟨gb122, 5, none⟩ = some (.bool a0_5) := (blk_cell BK122.out 5).trans rfl; have hcz18_6 : w16.cell? ⟨gb122, 6, none⟩ = some (.int .i64 a0_6) := (blk_cell BK122.out 6).trans rfl; have hcz18_7 : w16.cell? ⟨gb122, 7, none⟩ = some (.int .i64 a0_7) := (blk_cell BK122.out 7).trans rfl; have hcz18_8 : w16.cell? ⟨gb122, 8, none⟩ = some (.int .i64 a0_8) := (blk_cell BK122.out 8).trans rfl; have hcz18_9 : w16.cell? ⟨gb122, 9, none⟩ = some (.int .i64 a0_9) := (blk_cell BK122.out 9).trans rfl; have hcz18_10 : w16.cell? ⟨gb122, 10, none⟩ = some (.int .i64 a0_10) := (blk_cell BK122.out 10).trans rfl; have hcz18_11 : w16.cell? ⟨gb122, 11, none⟩ = some (.int .i64 a0_11) := (blk_cell BK122.out 11).trans rfl; have hcz18_12 : w16.cell? ⟨gb122, 12, none⟩ = some (.int .i64 a0_12) := (blk_cell BK122.out 12).trans rfl; have hcz18_13 : w16.cell? ⟨gb122, 13, none⟩ = some (.int .i64 a0_13) := (blk_cell BK122.out 13).trans rfl; have hcz18_14 : w16.cell? ⟨gb122, 14, none⟩ = some (.int .i64 a0_14) := (blk_cell BK122.out 14).trans rfl; have hcz18_15 : w16.cell? ⟨gb122, 15, none⟩ = some (.int .i64 a0_15) := (blk_cell BK122.out 15).trans rfl; have hcz18_16 : w16.cell? ⟨gb122, 16, none⟩ = some (.int .i64 a0_16) := (blk_cell BK122.out 16).trans rfl; have hcz18_17 : w16.cell? ⟨gb122, 17, none⟩ = some (.int .i64 a0_17) := (blk_cell BK122.out 17).trans rfl; have hcz18_18 : w16.cell? ⟨gb122, 18, none⟩ = some (.int .i64 a0_18) := (blk_cell BK122.out 18).trans rfl; have hcz18_19 : w16.cell? ⟨gb122, 19, none⟩ = some (.int .i64 a0_19) := (blk_cell BK122.out 19).trans rfl; have hcz18_20 : w16.cell? ⟨gb122, 20, none⟩ = some (.int .i64 a0_20) := (blk_cell BK122.out 20).trans rfl; have hcz18_21 : w16.cell? ⟨gb122, 21, none⟩ = some (.int .i64 a0_21) := (blk_cell BK122.out 21).trans rfl; have hcz18_22 : w16.cell? ⟨gb122, 22, none⟩ = some (.int .i64 a0_22) := (blk_cell BK122.out 22).trans rfl; have hfz18_0 := blk_frozen BK122.out 0; have hfz18_1 := blk_frozen BK122.out 1; have hfz18_2 := blk_frozen BK122.out 2; have hfz18_3 := blk_frozen BK122.out 3; have hfz18_4 := blk_frozen BK122.out 4; have hfz18_5 := blk_frozen BK122.out 5; have hfz18_6 := blk_frozen BK122.out 6; have hfz18_7 := blk_frozen BK122.out 7; have hfz18_8 := blk_frozen BK122.out 8; have hfz18_9 := blk_frozen BK122.out 9; have hfz18_10 := blk_frozen BK122.out 10; have hfz18_11 := blk_frozen BK122.out 11; have hfz18_12 := blk_frozen BK122.out 12; have hfz18_13 := blk_frozen BK122.out 13; have hfz18_14 := blk_frozen BK122.out 14; have hfz18_15 := blk_frozen BK122.out 15; have hfz18_16 := blk_frozen BK122.out 16; have hfz18_17 := blk_frozen BK122.out 17; have hfz18_18 := blk_frozen BK122.out 18; have hfz18_19 := blk_frozen BK122.out 19; have hfz18_20 := blk_frozen BK122.out 20; have hfz18_21 := blk_frozen BK122.out 21; have hfz18_22 := blk_frozen BK122.out 22; obtain ⟨Ao19, co19, eo19⟩ := Kd.R_slice HO126.out; subst eo19; have p127 : 0 ≤ (a0_3 : Int) := of_decide_eq_true (by first | (with_reducible assumption) | assumption); have q127 : a0_3 < (y124.length : Int) := of_decide_eq_true (by first | (with_reducible assumption) | assumption); obtain ⟨ad127, e127, hx127_0⟩ := Kd.at_string (Kd.R_reads' HO126.out).2.2 a0_3 p127 q127; cases e127; replace p127 := eq_true p127; replace q127 := eq_true q127))
          have n0_ := Aside0.mk (Kd.R_drew HO126.out)
          have n1_ := Aside0.mk (blk_drew BK122.out)
          have n2_ := Aside0.mk (below_drew1 HB.out)
          clear HO126
          clear BK122
          clear HB
          have HO126 := n0_
          have BK122 := n1_
          have HB := n2_
          clear n0_ n1_ n2_
          refine start_ (n := 14) (S := fun w' => w'.cell? ⟨gb122, 0, none⟩ = some (.int .i64 a0_0) ∧ w'.cell? ⟨gb122, 1, none⟩ = some (.int .i64 a0_1) ∧ w'.cell? ⟨gb122, 2, none⟩ = some (.int .i64 a0_2) ∧ w'.cell? ⟨gb122, 3, none⟩ = some (.int .i64 a0_3) ∧ w'.cell? ⟨gb122, 4, none⟩ = some (.int .i64 a0_4) ∧ w'.cell? ⟨gb122, 5, none⟩ = some (.bool a0_5) ∧ w'.cell? ⟨gb122, 6, none⟩ = some (.int .i64 a0_6) ∧ w'.cell? ⟨gb122, 7, none⟩ = some (.int .i64 a0_7) ∧ w'.cell? ⟨gb122, 8, none⟩ = some (.int .i64 a0_8) ∧ w'.cell? ⟨gb122, 9, none⟩ = some (.int .i64 a0_9) ∧ w'.cell? ⟨gb122, 10, none⟩ = some (.int .i64 a0_10) ∧ w'.cell? ⟨gb122, 11, none⟩ = some (.int .i64 a0_11) ∧ w'.cell? ⟨gb122, 12, none⟩ = some (.int .i64 a0_12) ∧ w'.cell? ⟨gb122, 13, none⟩ = some (.int .i64 a0_13) ∧ w'.cell? ⟨gb122, 14, none⟩ = some (.int .i64 a0_14) ∧ w'.cell? ⟨gb122, 15, none⟩ = some (.int .i64 a0_15) ∧ w'.cell? ⟨gb122, 16, none⟩ = some (.int .i64 a0_16) ∧ w'.cell? ⟨gb122, 17, none⟩ = some (.int .i64 a0_17) ∧ w'.cell? ⟨gb122, 18, none⟩ = some (.int .i64 a0_18) ∧ w'.cell? ⟨gb122, 19, none⟩ = some (.int .i64 a0_19) ∧ w'.cell? ⟨gb122, 20, none⟩ = some (.int .i64 a0_20) ∧ w'.cell? ⟨gb122, 21, none⟩ = some (.int .i64 a0_21) ∧ w'.cell? ⟨gb122, 22, none⟩ = some (.int .i64 a0_22)) (ds := []) #[false, false, false, false, false, false, false, false, false, false, false, false, false, false] (by kernel_rfl) rfl rfl ⟨(blk_cell BK122.out 0).trans rfl, (blk_cell BK122.out 1).trans rfl, (blk_cell BK122.out 2).trans rfl, (blk_cell BK122.out 3).trans rfl, (blk_cell BK122.out 4).trans rfl, (blk_cell BK122.out 5).trans rfl, (blk_cell BK122.out 6).trans rfl, (blk_cell BK122.out 7).trans rfl, (blk_cell BK122.out 8).trans rfl, (blk_cell BK122.out 9).trans rfl, (blk_cell BK122.out 10).trans rfl, (blk_cell BK122.out 11).trans rfl, (blk_cell BK122.out 12).trans rfl, (blk_cell BK122.out 13).trans rfl, (blk_cell BK122.out 14).trans rfl, (blk_cell BK122.out 15).trans rfl, (blk_cell BK122.out 16).trans rfl, (blk_cell BK122.out 17).trans rfl, (blk_cell BK122.out 18).trans rfl, (blk_cell BK122.out 19).trans rfl, (blk_cell BK122.out 20).trans rfl, (blk_cell BK122.out 21).trans rfl, (blk_cell BK122.out 22).trans rfl⟩ (fun hHeld => ?_); refine with_tabW impl_ShowClient.tab4 impl_ShowClient.bits4 (fun HT_ HW_ => ?_)
          generalize w16.drew = w20 at HO126 BK122 HB hHeld ⊢
          refine pure_ (i := 0) (N := some 12) (v := ?_) (a' := ?_) #[true, false, false, false, false, false, false, false, false, false, false, false, false, false] rfl rfl (any_of HT_.out (by kernel_rfl)) (fun _ _ _ h => h) (Or.inl ⟨by rfl, ?_⟩) ?_ ?_
          rotate_left
          ·
           intro w'
           go_simp
           with_reducible rfl
          rotate_left
          ·
           simp only [Act.put, List.setIfInBounds_toArray, List.set_cons_zero, List.set_cons_succ, i64_w, i32_w]
           rfl
          refine pure_ (i := 5) (N := some 17) (v := ?_) (a' := ?_) #[true, false, false, false, false, true, false, false, false, false, false, false, false, false] rfl rfl (any_of HT_.out (by kernel_rfl)) (fun _ _ _ h => h) (Or.inl ⟨by rfl, ?_⟩) ?_ ?_
          rotate_left
          ·
           intro w'
           go_simp
           with_reducible rfl
          rotate_left
          ·
           simp only [Act.put, List.setIfInBounds_toArray, List.set_cons_zero, List.set_cons_succ, i64_w, i32_w]
           rfl
          refine pure_ (i := 8) (N := some 20) (v := ?_) (a' := ?_) #[true, false, false, false, false, true, false, false, true, false, false, false, false, false] rfl rfl (any_of HT_.out (by kernel_rfl)) (fun _ _ _ h => h) (Or.inl ⟨by rfl, ?_⟩) ?_ ?_
          rotate_left
          ·
           intro w'
           go_simp
           with_reducible rfl
          rotate_left
          ·
           simp only [Act.put, List.setIfInBounds_toArray, List.set_cons_zero, List.set_cons_succ, i64_w, i32_w]
           rfl
          refine take_ (i := 1) (N := some 13) (v := ?_) (a' := ?_) #[true, true, false, false, false, true, false, false, true, false, false, false, false, false] rfl rfl (take_ofW HT_.out HW_.out (by kernel_rfl)) (fun _ _ _ h => h) (Or.inl ⟨by rfl, ?_⟩) hHeld ?_ ?_
          rotate_left
          ·
           rintro w' ⟨s0, s1, s2, s3, s4, s5, s6, s7, s8, s9, s10, s11, s12, s13, s14, s15, s16, s17, s18, s19, s20, s21, s22⟩
           go_simp
           with_reducible rfl
          rotate_left
          ·
           simp only [Act.put, List.setIfInBounds_toArray, List.set_cons_zero, List.set_cons_succ, i64_w, i32_w]
           rfl
          refine take_ (i := 9) (N := some 21) (v := ?_) (a' := ?_) #[true, true, false, false, false, true, false, false, true, true, false, false, false, false] rfl rfl (take_ofW HT_.out HW_.out (by kernel_rfl)) (fun _ _ _ h => h) (Or.inl ⟨by rfl, ?_⟩) hHeld ?_ ?_
          rotate_left
          ·
           rintro w' ⟨s0, s1, s2, s3, s4, s5, s6, s7, s8, s9, s10, s11, s12, s13, s14, s15, s16, s17, s18, s19, s20, s21, s22⟩
           go_simp
           with_reducible rfl
          rotate_left
          ·
           simp only [Act.put, List.setIfInBounds_toArray, List.set_cons_zero, List.set_cons_succ, i64_w, i32_w]
           rfl
          refine one_ (i := 2) (N := some 14) #[true, true, true, false, false, true, false, false, true, true, false, false, false, false] rfl rfl (one_of HT_.out (by kernel_rfl)) (by decide) (fun K hK => ?_)
          refine goes_ Tryd.func29 (by kernel_rfl) rfl #[.int .i64 a0_0] (by rfl) rfl rfl (by (try simp only [List.map_toArray, List.map_cons, List.map_nil]); first | done | rfl | (simp only [List.length_drop, List.length_take]; rfl)) ?_
          with_reducible refine (impl_told.calls a0_0 t128 _ ?side1 A6.out).mono ?_
          (case side1 => exact TabW.below HT0.out (by repeat (first | (with_reducible first | exact HB.out | apply below_alloc | apply pw_below_drewN | apply below_drew1 | refine below_set ?_ GE122.out) | exact HB.out)))
          rintro e w21 ⟨rfl, hb⟩
          refine ⟨_, rfl, ?_⟩
          have n0_ := Aside0.mk (Kd.R_below (by (with_reducible repeat (first | apply Kd.R_alloc | apply Kd.R_drewN | apply Kd.R_drew)); exact HO126.out) hb)
          have n1_ := Aside0.mk (blk_below (g := gb122) (o := .cells #[.int .i64 a0_0, .int .i64 a0_1, .int .i64 a0_2, .int .i64 a0_3, .int .i64 a0_4, .bool a0_5, .int .i64 a0_6, .int .i64 a0_7, .int .i64 a0_8, .int .i64 a0_9, .int .i64 a0_10, .int .i64 a0_11, .int .i64 a0_12, .int .i64 a0_13, .int .i64 a0_14, .int .i64 a0_15, .int .i64 a0_16, .int .i64 a0_17, .int .i64 a0_18, .int .i64 a0_19, .int .i64 a0_20, .int .i64 a0_21, .int .i64 a0_22] 33 (0, 0)) (by (with_reducible repeat (first | refine blk_drewN ?_ _ | refine blk_drew ?_ | refine blk_alloc ?_ _)); exact BK122.out) hb)
          have n2_ := Aside0.mk (below_step (by repeat (first | (with_reducible first | exact HB.out | apply below_alloc | apply pw_below_drewN | apply below_drew1 | refine below_set ?_ GE122.out) | exact HB.out)) hb)
          clear HO126
          clear BK122
          clear HB
          have HO126 := n0_
          have BK122 := n1_
          have HB := n2_
          clear n0_ n1_ n2_
          (try clear hb)
          (try clear hb2)
          (try clear hk)
          (try clear hi)
          refine hK.out _ _ ⟨(blk_cell BK122.out 0).trans rfl, (blk_cell BK122.out 1).trans rfl, (blk_cell BK122.out 2).trans rfl, (blk_cell BK122.out 3).trans rfl, (blk_cell BK122.out 4).trans rfl, (blk_cell BK122.out 5).trans rfl, (blk_cell BK122.out 6).trans rfl, (blk_cell BK122.out 7).trans rfl, (blk_cell BK122.out 8).trans rfl, (blk_cell BK122.out 9).trans rfl, (blk_cell BK122.out 10).trans rfl, (blk_cell BK122.out 11).trans rfl, (blk_cell BK122.out 12).trans rfl, (blk_cell BK122.out 13).trans rfl, (blk_cell BK122.out 14).trans rfl, (blk_cell BK122.out 15).trans rfl, (blk_cell BK122.out 16).trans rfl, (blk_cell BK122.out 17).trans rfl, (blk_cell BK122.out 18).trans rfl, (blk_cell BK122.out 19).trans rfl, (blk_cell BK122.out 20).trans rfl, (blk_cell BK122.out 21).trans rfl, (blk_cell BK122.out 22).trans rfl⟩ (fun hHeld => ?_)
          clear hK K
          refine norm_ (a' := ?_) ?_ ?_
          rotate_left
          ·
           show Act.put _ (some 14) _ = _
           simp only [Act.put, List.setIfInBounds_toArray, List.set_cons_zero, List.set_cons_succ, i64_w, i32_w]
           rfl
          refine pure_ (i := 3) (N := some 15) (v := ?_) (a' := ?_) #[true, true, true, true, false, true, false, false, true, true, false, false, false, false] rfl rfl (any_of HT_.out (by kernel_rfl)) (fun _ _ _ h => h) (Or.inl ⟨by rfl, ?_⟩) ?_ ?_
          rotate_left
          ·
           intro w'
           go_simp
           with_reducible rfl
          rotate_left
          ·
           simp only [Act.put, List.setIfInBounds_toArray, List.set_cons_zero, List.set_cons_succ, i64_w, i32_w]
           rfl
          refine pure_ (i := 4) (N := some 16) (v := ?_) (a' := ?_) #[true, true, true, true, true, true, false, false, true, true, false, false, false, false] rfl rfl (any_of HT_.out (by kernel_rfl)) (fun _ _ _ h => h) (Or.inl ⟨by rfl, ?_⟩) ?_ ?_
          rotate_left
          ·
           intro w'
           go_simp
           with_reducible rfl
          rotate_left
          ·
           simp only [Act.put, List.setIfInBounds_toArray, List.set_cons_zero, List.set_cons_succ, i64_w, i32_w]
           rfl
          refine pure_ (i := 6) (N := some 18) (v := ?_) (a' := ?_) #[true, true, true, true, true, true, true, false, true, true, false, false, false, false] rfl rfl (any_of HT_.out (by kernel_rfl)) (fun _ _ _ h => h) (Or.inl ⟨by rfl, ?_⟩) ?_ ?_
          rotate_left
          ·
           intro w'
           go_simp
           with_reducible rfl
          rotate_left
          ·
           simp only [Act.put, List.setIfInBounds_toArray, List.set_cons_zero, List.set_cons_succ, i64_w, i32_w]
           rfl
          refine pure_ (i := 7) (N := some 19) (v := ?_) (a' := ?_) #[true, true, true, true, true, true, true, true, true, true, false, false, false, false] rfl rfl (any_of HT_.out (by kernel_rfl)) (fun _ _ _ h => h) (Or.inl ⟨by rfl, ?_⟩) ?_ ?_
          rotate_left
          ·
           intro w'
           go_simp
           with_reducible rfl
          rotate_left
          ·
           simp only [Act.put, List.setIfInBounds_toArray, List.set_cons_zero, List.set_cons_succ, i64_w, i32_w]
           rfl
          refine one_ (i := 10) (N := some 22) #[true, true, true, true, true, true, true, true, true, true, true, false, false, false] rfl rfl (one_of HT_.out (by kernel_rfl)) (by decide) (fun K hK => ?_)
          refine goes_ Tryd.func29 (by kernel_rfl) rfl #[.int .i64 a0_10] (by rfl) rfl rfl (by (try simp only [List.map_toArray, List.map_cons, List.map_nil]); first | done | rfl | (simp only [List.length_drop, List.length_take]; rfl)) ?_
          with_reducible refine (impl_told.calls a0_10 t129 _ ?side1 A11.out).mono ?_
          (case side1 => exact TabW.below HT0.out (by repeat (first | (with_reducible first | exact HB.out | apply below_alloc | apply pw_below_drewN | apply below_drew1 | refine below_set ?_ GE122.out) | exact HB.out)))
          rintro e w22 ⟨rfl, hb⟩
          refine ⟨_, rfl, ?_⟩
          have n0_ := Aside0.mk (Kd.R_below (by (with_reducible repeat (first | apply Kd.R_alloc | apply Kd.R_drewN | apply Kd.R_drew)); exact HO126.out) hb)
          have n1_ := Aside0.mk (blk_below (g := gb122) (o := .cells #[.int .i64 a0_0, .int .i64 a0_1, .int .i64 a0_2, .int .i64 a0_3, .int .i64 a0_4, .bool a0_5, .int .i64 a0_6, .int .i64 a0_7, .int .i64 a0_8, .int .i64 a0_9, .int .i64 a0_10, .int .i64 a0_11, .int .i64 a0_12, .int .i64 a0_13, .int .i64 a0_14, .int .i64 a0_15, .int .i64 a0_16, .int .i64 a0_17, .int .i64 a0_18, .int .i64 a0_19, .int .i64 a0_20, .int .i64 a0_21, .int .i64 a0_22] 33 (0, 0)) (by (with_reducible repeat (first | refine blk_drewN ?_ _ | refine blk_drew ?_ | refine blk_alloc ?_ _)); exact BK122.out) hb)
          have n2_ := Aside0.mk (below_step (by repeat (first | (with_reducible first | exact HB.out | apply below_alloc | apply pw_below_drewN | apply below_drew1 | refine below_set ?_ GE122.out) | exact HB.out)) hb)
          clear HO126
          clear BK122
          clear HB
          have HO126 := n0_
          have BK122 := n1_
          have HB := n2_
          clear n0_ n1_ n2_
          (try clear hb)
          (try clear hb2)
          (try clear hk)
          (try clear hi)
          refine hK.out _ _ ⟨(blk_cell BK122.out 0).trans rfl, (blk_cell BK122.out 1).trans rfl, (blk_cell BK122.out 2).trans rfl, (blk_cell BK122.out 3).trans rfl, (blk_cell BK122.out 4).trans rfl, (blk_cell BK122.out 5).trans rfl, (blk_cell BK122.out 6).trans rfl, (blk_cell BK122.out 7).trans rfl, (blk_cell BK122.out 8).trans rfl, (blk_cell BK122.out 9).trans rfl, (blk_cell BK122.out 10).trans rfl, (blk_cell BK122.out 11).trans rfl, (blk_cell BK122.out 12).trans rfl, (blk_cell BK122.out 13).trans rfl, (blk_cell BK122.out 14).trans rfl, (blk_cell BK122.out 15).trans rfl, (blk_cell BK122.out 16).trans rfl, (blk_cell BK122.out 17).trans rfl, (blk_cell BK122.out 18).trans rfl, (blk_cell BK122.out 19).trans rfl, (blk_cell BK122.out 20).trans rfl, (blk_cell BK122.out 21).trans rfl, (blk_cell BK122.out 22).trans rfl⟩ (fun hHeld => ?_)
          clear hK K
          refine norm_ (a' := ?_) ?_ ?_
          rotate_left
          ·
           show Act.put _ (some 22) _ = _
           simp only [Act.put, List.setIfInBounds_toArray, List.set_cons_zero, List.set_cons_succ, i64_w, i32_w]
           rfl
          refine pure_ (i := 11) (N := some 23) (v := ?_) (a' := ?_) #[true, true, true, true, true, true, true, true, true, true, true, true, false, false] rfl rfl (any_of HT_.out (by kernel_rfl)) (fun _ _ _ h => h) (Or.inl ⟨by rfl, ?_⟩) ?_ ?_
          rotate_left
          ·
           intro w'
           go_simp
           with_reducible rfl
          rotate_left
          ·
           simp only [Act.put, List.setIfInBounds_toArray, List.set_cons_zero, List.set_cons_succ, i64_w, i32_w]
           rfl
          refine pure_ (i := 12) (N := some 24) (v := ?_) (a' := ?_) #[true, true, true, true, true, true, true, true, true, true, true, true, true, false] rfl rfl (any_of HT_.out (by kernel_rfl)) (fun _ _ _ h => h) (Or.inl ⟨by rfl, ?_⟩) ?_ ?_
          rotate_left
          ·
           intro w'
           go_simp
           with_reducible rfl
          rotate_left
          ·
           simp only [Act.put, List.setIfInBounds_toArray, List.set_cons_zero, List.set_cons_succ, i64_w, i32_w]
           rfl
          refine pure_ (i := 13) (N := some 2) (v := ?_) (a' := ?_) #[true, true, true, true, true, true, true, true, true, true, true, true, true, true] rfl rfl (any_of HT_.out (by kernel_rfl)) (fun _ _ _ h => h) (Or.inl ⟨by rfl, ?_⟩) ?_ ?_
          rotate_left
          ·
           intro w'
           go_simp
           with_reducible rfl
          rotate_left
          ·
           simp only [Act.put, List.setIfInBounds_toArray, List.set_cons_zero, List.set_cons_succ, i64_w, i32_w]
           rfl
          refine done_ (done_of HT_.out (by kernel_rfl)) ?_
          try go_wp2
          go_ret
          exact ⟨by first | rfl | (simp [errW_none, errW_some] <;> rfl) | (simp [*, errW_none, errW_some] <;> rfl), by repeat (first | (with_reducible first | exact HB.out | apply below_alloc | apply pw_below_drewN | apply below_drew1 | refine below_set ?_ GE122.out) | exact HB.out)⟩
         ·
          rw [if_neg c13] at H
          exact absurd H (by simp)
        ·
         rw [if_neg c12] at H
         exact absurd H (by simp)
       ·
        rw [if_neg c10] at H
        exact absurd H (by simp)
      ·
       rw [if_neg c9] at H
       exact absurd H (by simp)
     ·
      rw [if_neg c8] at H
      exact absurd H (by simp)
    ·
     rw [if_neg c7] at H
     exact absurd H (by simp)
   ·
    rw [if_neg c5] at H
    exact absurd H (by simp)
  ·
   rw [if_neg c4] at H
   exact absurd H (by simp)
 ·
  replace c3 := Bool.eq_false_iff.mpr c3
  subst c3
  have H1 : ((impl_told.f a0_0).bind fun t130 => (if 7 + t130.size ≤ 9223372036854775807 then (if 7 + t130.size + 1 ≤ 9223372036854775807 then (if 7 + t130.size + 1 + 1 ≤ 9223372036854775807 then (if 7 + t130.size + 1 + 1 + 1 ≤ 9223372036854775807 then ((impl_told.f a0_10).bind fun t131 => (if 7 + t130.size + 1 + 1 + 1 + t131.size ≤ 9223372036854775807 then (if 7 + t130.size + 1 + 1 + 1 + t131.size + 1 ≤ 9223372036854775807 then (some (((((((⟨#[99, 108, 105, 101, 110, 116, 32]⟩ : ByteArray) ++ t130) ++ (⟨#[32]⟩ : ByteArray)) ++ (⟨#[63]⟩ : ByteArray)) ++ (⟨#[32]⟩ : ByteArray)) ++ t131) ++ (⟨#[10]⟩ : ByteArray))) else (none)) else (none))) else (none)) else (none)) else (none)) else (none))) = some r := by rw [if_neg (show ¬ (false = true) by decide)] at H; exact H
  clear H
  have H := H1
  clear H1
  replace H := Option.bind_eq_some_iff.mp H
  obtain ⟨t130, A230, H⟩ := H
  replace H : (if 7 + t130.size ≤ 9223372036854775807 then (if 7 + t130.size + 1 ≤ 9223372036854775807 then (if 7 + t130.size + 1 + 1 ≤ 9223372036854775807 then (if 7 + t130.size + 1 + 1 + 1 ≤ 9223372036854775807 then ((impl_told.f a0_10).bind fun t131 => (if 7 + t130.size + 1 + 1 + 1 + t131.size ≤ 9223372036854775807 then (if 7 + t130.size + 1 + 1 + 1 + t131.size + 1 ≤ 9223372036854775807 then (some (((((((⟨#[99, 108, 105, 101, 110, 116, 32]⟩ : ByteArray) ++ t130) ++ (⟨#[32]⟩ : ByteArray)) ++ (⟨#[63]⟩ : ByteArray)) ++ (⟨#[32]⟩ : ByteArray)) ++ t131) ++ (⟨#[10]⟩ : ByteArray))) else (none)) else (none))) else (none)) else (none)) else (none)) else (none)) = some r := H
  have A23 := Aside0.mk A230
  clear A230
  by_cases c24 : 7 + t130.size ≤ 9223372036854775807
  ·
   rw [if_pos c24] at H
   have c24b0 := eq_true c24
   have c24b1 : decide (7 + t130.size ≤ 9223372036854775807) = true := decide_eq_true c24
   try have c24b2 : (9223372036854775807 < 7 + t130.size) = False := eq_false (Nat.not_lt.2 c24)
   by_cases c25 : 7 + t130.size + 1 ≤ 9223372036854775807
   ·
    rw [if_pos c25] at H
    have c25b0 := eq_true c25
    have c25b1 : decide (7 + t130.size + 1 ≤ 9223372036854775807) = true := decide_eq_true c25
    try have c25b2 : (9223372036854775807 < 7 + t130.size + 1) = False := eq_false (Nat.not_lt.2 c25)
    by_cases c26 : 7 + t130.size + 1 + 1 ≤ 9223372036854775807
    ·
     rw [if_pos c26] at H
     have c26b0 := eq_true c26
     have c26b1 : decide (7 + t130.size + 1 + 1 ≤ 9223372036854775807) = true := decide_eq_true c26
     try have c26b2 : (9223372036854775807 < 7 + t130.size + 1 + 1) = False := eq_false (Nat.not_lt.2 c26)
     by_cases c27 : 7 + t130.size + 1 + 1 + 1 ≤ 9223372036854775807
     ·
      rw [if_pos c27] at H
      have c27b0 := eq_true c27
      have c27b1 : decide (7 + t130.size + 1 + 1 + 1 ≤ 9223372036854775807) = true := decide_eq_true c27
      try have c27b2 : (9223372036854775807 < 7 + t130.size + 1 + 1 + 1) = False := eq_false (Nat.not_lt.2 c27)
      replace H := Option.bind_eq_some_iff.mp H
      obtain ⟨t131, A280, H⟩ := H
      replace H : (if 7 + t130.size + 1 + 1 + 1 + t131.size ≤ 9223372036854775807 then (if 7 + t130.size + 1 + 1 + 1 + t131.size + 1 ≤ 9223372036854775807 then (some (((((((⟨#[99, 108, 105, 101, 110, 116, 32]⟩ : ByteArray) ++ t130) ++ (⟨#[32]⟩ : ByteArray)) ++ (⟨#[63]⟩ : ByteArray)) ++ (⟨#[32]⟩ : ByteArray)) ++ t131) ++ (⟨#[10]⟩ : ByteArray))) else (none)) else (none)) = some r := H
      have A28 := Aside0.mk A280
      clear A280
      by_cases c29 : 7 + t130.size + 1 + 1 + 1 + t131.size ≤ 9223372036854775807
      ·
       rw [if_pos c29] at H
       have c29b0 := eq_true c29
       have c29b1 : decide (7 + t130.size + 1 + 1 + 1 + t131.size ≤ 9223372036854775807) = true := decide_eq_true c29
       try have c29b2 : (9223372036854775807 < 7 + t130.size + 1 + 1 + 1 + t131.size) = False := eq_false (Nat.not_lt.2 c29)
       by_cases c30 : 7 + t130.size + 1 + 1 + 1 + t131.size + 1 ≤ 9223372036854775807
       ·
        rw [if_pos c30] at H
        have c30b0 := eq_true c30
        have c30b1 : decide (7 + t130.size + 1 + 1 + 1 + t131.size + 1 ≤ 9223372036854775807) = true := decide_eq_true c30
        try have c30b2 : (9223372036854775807 < 7 + t130.size + 1 + 1 + 1 + t131.size + 1) = False := eq_false (Nat.not_lt.2 c30)
        obtain rfl := Option.some.inj H
        go_enter Tryd.func9, Tryd.ntmps9
        try go_wp2_with (first | ((with_reducible refine gate_dst (N := 1) rfl ?_); refine box_event ?hg (N := 1) ?hd (cs := #[.int .i64 a0_0, .int .i64 a0_1, .int .i64 a0_2, .int .i64 a0_3, .int .i64 a0_4, .bool a0_5, .int .i64 a0_6, .int .i64 a0_7, .int .i64 a0_8, .int .i64 a0_9, .int .i64 a0_10, .int .i64 a0_11, .int .i64 a0_12, .int .i64 a0_13, .int .i64 a0_14, .int .i64 a0_15, .int .i64 a0_16, .int .i64 a0_17, .int .i64 a0_18, .int .i64 a0_19, .int .i64 a0_20, .int .i64 a0_21, .int .i64 a0_22]) (t := 33) ?hr ?_; (case hd => rfl); (case hg => rfl); (case hr => first | (go_simp; done) | (go_simp; rfl)); intro gb122 hg w31 hbox hb; have n0_ := Aside0.mk (below_step (by repeat (first | (with_reducible first | exact HB.out | apply below_alloc | apply pw_below_drewN | apply below_drew1) | exact HB.out)) hb); have n1_ := Aside0.mk (hbox); have n2_ := Aside0.mk ((by rw [hg]; exact (below_size (by repeat (first | (with_reducible first | exact HB.out | apply below_alloc | apply pw_below_drewN | apply below_drew1) | exact HB.out))) : w.heap.size ≤ gb122)); have n3_ := Aside0.mk ((by rw [hg]; exact (below_size (by repeat (first | (with_reducible first | exact HB.out | apply below_alloc | apply pw_below_drewN | apply below_drew1) | exact HB.out))) : w.heap.size ≤ gb122)); clear HB; have HB := n0_; have BK122 := n1_; have GW122 := n2_; have GE122 := n3_; clear n0_ n1_ n2_ n3_; clear hb hbox hg; have hcz32_0 : w31.cell? ⟨gb122, 0, none⟩ = some (.int .i64 a0_0) := (blk_cell BK122.out 0).trans rfl; have hcz32_1 : w31.cell? ⟨gb122, 1, none⟩ = some (.int .i64 a0_1) := (blk_cell BK122.out 1).trans rfl; have hcz32_2 : w31.cell? ⟨gb122, 2, none⟩ = some (.int .i64 a0_2) := (blk_cell BK122.out 2).trans rfl; have hcz32_3 : w31.cell? ⟨gb122, 3, none⟩ = some (.int .i64 a0_3) := (blk_cell BK122.out 3).trans rfl; have hcz32_4 : w31.cell? ⟨gb122, 4, none⟩ = some (.int .i64 a0_4) := (blk_cell BK122.out 4).trans rfl; have hcz32_5 : w31.cell? ⟨gb122, 5, none⟩ = some (.bool a0_5) := (blk_cell BK122.out 5).trans rfl; have hcz32_6 : w31.cell? ⟨gb122, 6, none⟩ = some (.int .i64 a0_6) := (blk_cell BK122.out 6).trans rfl; have hcz32_7 : w31.cell? ⟨gb122, 7, none⟩ = some (.int .i64 a0_7) := (blk_cell BK122.out 7).trans rfl; have hcz32_8 : w31.cell? ⟨gb122, 8, none⟩ = some (.int .i64 a0_8) := (blk_cell BK122.out 8).trans rfl; have hcz32_9 : w31.cell? ⟨gb122, 9, none⟩ = some (.int .i64 a0_9) := (blk_cell BK122.out 9).trans rfl; have hcz32_10 : w31.cell? ⟨gb122, 10, none⟩ = some (.int .i64 a0_10) := (blk_cell BK122.out 10).trans rfl; have hcz32_11 : w31.cell? ⟨gb122, 11, none⟩ = some (.int .i64 a0_11) := (blk_cell BK122.out 11).trans rfl; have hcz32_12 : w31.cell? ⟨gb122, 12, none⟩ = some (.int .i64 a0_12) := (blk_cell BK122.out 12).trans rfl; have hcz32_13 : w31.cell? ⟨gb122, 13, none⟩ = some (.int .i64 a0_13) := (blk_cell BK122.out 13).trans rfl; have hcz32_14 : w31.cell? ⟨gb122, 14, none⟩ = some (.int .i64 a0_14) := (blk_cell BK122.out 14).trans rfl; have hcz32_15 : w31.cell? ⟨gb122, 15, none⟩ = some (.int .i64 a0_15) := (blk_cell BK122.out 15).trans rfl; have hcz32_16 : w31.cell? ⟨gb122, 16, none⟩ = some (.int .i64 a0_16) := (blk_cell BK122.out 16).trans rfl; have hcz32_17 : w31.cell? ⟨gb122, 17, none⟩ = some (.int .i64 a0_17) := (blk_cell BK122.out 17).trans rfl; have hcz32_18 : w31.cell? ⟨gb122, 18, none⟩ = some (.int .i64 a0_18) := (blk_cell BK122.out 18).trans rfl; have hcz32_19 : w31.cell? ⟨gb122, 19, none⟩ = some (.int .i64 a0_19) := (blk_cell BK122.out 19).trans rfl; have hcz32_20 : w31.cell? ⟨gb122, 20, none⟩ = some (.int .i64 a0_20) := (blk_cell BK122.out 20).trans rfl; have hcz32_21 : w31.cell? ⟨gb122, 21, none⟩ = some (.int .i64 a0_21) := (blk_cell BK122.out 21).trans rfl; have hcz32_22 : w31.cell? ⟨gb122, 22, none⟩ = some (.int .i64 a0_22) := (blk_cell BK122.out 22).trans rfl; have hfz32_0 := blk_frozen BK122.out 0; have hfz32_1 := blk_frozen BK122.out 1; have hfz32_2 := blk_frozen BK122.out 2; have hfz32_3 := blk_frozen BK122.out 3; have hfz32_4 := blk_frozen BK122.out 4; have hfz32_5 := blk_frozen BK122.out 5; have hfz32_6 := blk_frozen BK122.out 6; have hfz32_7 := blk_frozen BK122.out 7; have hfz32_8 := blk_frozen BK122.out 8; have hfz32_9 := blk_frozen BK122.out 9; have hfz32_10 := blk_frozen BK122.out 10; have hfz32_11 := blk_frozen BK122.out 11; have hfz32_12 := blk_frozen BK122.out 12; have hfz32_13 := blk_frozen BK122.out 13; have hfz32_14 := blk_frozen BK122.out 14; have hfz32_15 := blk_frozen BK122.out 15; have hfz32_16 := blk_frozen BK122.out 16; have hfz32_17 := blk_frozen BK122.out 17; have hfz32_18 := blk_frozen BK122.out 18; have hfz32_19 := blk_frozen BK122.out 19; have hfz32_20 := blk_frozen BK122.out 20; have hfz32_21 := blk_frozen BK122.out 21; have hfz32_22 := blk_frozen BK122.out 22) | ((with_reducible refine gate_callee (f := 28) rfl ?_); refine goesL_ (some 6) rfl rfl Tryd.func28 (by kernel_rfl) rfl #[.int .i64 a0_3, .int .i64 0, .int .i64 4] rfl (by (try simp only [List.map_toArray, List.map_cons, List.map_nil]); first | done | rfl | (simp only [List.length_drop, List.length_take]; rfl)) ?_; (with_reducible refine (impl_within.calls a0_3 0 4 false _ A2.out).mono ?_); rintro e w' ⟨rfl, ⟨nd, rfl⟩⟩; refine ⟨_, rfl, ?_⟩))
        (try (rw [drewN_self w31]; generalize hq_ : World.drewN w31 _ = w31; have n0_ : Aside0 (w31.heap[gb122]? = some (.cells #[.int .i64 a0_0, .int .i64 a0_1, .int .i64 a0_2, .int .i64 a0_3, .int .i64 a0_4, .bool a0_5, .int .i64 a0_6, .int .i64 a0_7, .int .i64 a0_8, .int .i64 a0_9, .int .i64 a0_10, .int .i64 a0_11, .int .i64 a0_12, .int .i64 a0_13, .int .i64 a0_14, .int .i64 a0_15, .int .i64 a0_16, .int .i64 a0_17, .int .i64 a0_18, .int .i64 a0_19, .int .i64 a0_20, .int .i64 a0_21, .int .i64 a0_22] 33 (0, 0))) := ⟨by rw [← hq_]; exact (by (with_reducible repeat (first | refine blk_drewN ?_ _ | refine blk_drew ?_ | refine blk_alloc ?_ _)); exact BK122.out)⟩; have n1_ : Aside0 (Below w.heap.size w w31) := ⟨by rw [← hq_]; exact (by repeat (first | (with_reducible first | exact HB.out | apply below_alloc | apply pw_below_drewN | apply below_drew1 | refine below_set ?_ GE122.out) | exact HB.out))⟩; clear BK122 HB hq_; have BK122 := n0_; have HB := n1_; clear n0_ n1_))
        have n0_ := Aside0.mk (blk_drew BK122.out)
        have n1_ := Aside0.mk (below_drew1 HB.out)
        clear BK122
        clear HB
        have BK122 := n0_
        have HB := n1_
        clear n0_ n1_
        refine start_ (n := 14) (S := fun w' => w'.cell? ⟨gb122, 0, none⟩ = some (.int .i64 a0_0) ∧ w'.cell? ⟨gb122, 1, none⟩ = some (.int .i64 a0_1) ∧ w'.cell? ⟨gb122, 2, none⟩ = some (.int .i64 a0_2) ∧ w'.cell? ⟨gb122, 3, none⟩ = some (.int .i64 a0_3) ∧ w'.cell? ⟨gb122, 4, none⟩ = some (.int .i64 a0_4) ∧ w'.cell? ⟨gb122, 5, none⟩ = some (.bool a0_5) ∧ w'.cell? ⟨gb122, 6, none⟩ = some (.int .i64 a0_6) ∧ w'.cell? ⟨gb122, 7, none⟩ = some (.int .i64 a0_7) ∧ w'.cell? ⟨gb122, 8, none⟩ = some (.int .i64 a0_8) ∧ w'.cell? ⟨gb122, 9, none⟩ = some (.int .i64 a0_9) ∧ w'.cell? ⟨gb122, 10, none⟩ = some (.int .i64 a0_10) ∧ w'.cell? ⟨gb122, 11, none⟩ = some (.int .i64 a0_11) ∧ w'.cell? ⟨gb122, 12, none⟩ = some (.int .i64 a0_12) ∧ w'.cell? ⟨gb122, 13, none⟩ = some (.int .i64 a0_13) ∧ w'.cell? ⟨gb122, 14, none⟩ = some (.int .i64 a0_14) ∧ w'.cell? ⟨gb122, 15, none⟩ = some (.int .i64 a0_15) ∧ w'.cell? ⟨gb122, 16, none⟩ = some (.int .i64 a0_16) ∧ w'.cell? ⟨gb122, 17, none⟩ = some (.int .i64 a0_17) ∧ w'.cell? ⟨gb122, 18, none⟩ = some (.int .i64 a0_18) ∧ w'.cell? ⟨gb122, 19, none⟩ = some (.int .i64 a0_19) ∧ w'.cell? ⟨gb122, 20, none⟩ = some (.int .i64 a0_20) ∧ w'.cell? ⟨gb122, 21, none⟩ = some (.int .i64 a0_21) ∧ w'.cell? ⟨gb122, 22, none⟩ = some (.int .i64 a0_22)) (ds := []) #[false, false, false, false, false, false, false, false, false, false, false, false, false, false] (by kernel_rfl) rfl rfl ⟨(blk_cell BK122.out 0).trans rfl, (blk_cell BK122.out 1).trans rfl, (blk_cell BK122.out 2).trans rfl, (blk_cell BK122.out 3).trans rfl, (blk_cell BK122.out 4).trans rfl, (blk_cell BK122.out 5).trans rfl, (blk_cell BK122.out 6).trans rfl, (blk_cell BK122.out 7).trans rfl, (blk_cell BK122.out 8).trans rfl, (blk_cell BK122.out 9).trans rfl, (blk_cell BK122.out 10).trans rfl, (blk_cell BK122.out 11).trans rfl, (blk_cell BK122.out 12).trans rfl, (blk_cell BK122.out 13).trans rfl, (blk_cell BK122.out 14).trans rfl, (blk_cell BK122.out 15).trans rfl, (blk_cell BK122.out 16).trans rfl, (blk_cell BK122.out 17).trans rfl, (blk_cell BK122.out 18).trans rfl, (blk_cell BK122.out 19).trans rfl, (blk_cell BK122.out 20).trans rfl, (blk_cell BK122.out 21).trans rfl, (blk_cell BK122.out 22).trans rfl⟩ (fun hHeld => ?_); refine with_tabW impl_ShowClient.tab4 impl_ShowClient.bits4 (fun HT_ HW_ => ?_)
        generalize w31.drew = w33 at BK122 HB hHeld ⊢
        refine pure_ (i := 0) (N := some 12) (v := ?_) (a' := ?_) #[true, false, false, false, false, false, false, false, false, false, false, false, false, false] rfl rfl (any_of HT_.out (by kernel_rfl)) (fun _ _ _ h => h) (Or.inl ⟨by rfl, ?_⟩) ?_ ?_
        rotate_left
        ·
         intro w'
         go_simp
         with_reducible rfl
        rotate_left
        ·
         simp only [Act.put, List.setIfInBounds_toArray, List.set_cons_zero, List.set_cons_succ, i64_w, i32_w]
         rfl
        refine pure_ (i := 5) (N := some 17) (v := ?_) (a' := ?_) #[true, false, false, false, false, true, false, false, false, false, false, false, false, false] rfl rfl (any_of HT_.out (by kernel_rfl)) (fun _ _ _ h => h) (Or.inl ⟨by rfl, ?_⟩) ?_ ?_
        rotate_left
        ·
         intro w'
         go_simp
         with_reducible rfl
        rotate_left
        ·
         simp only [Act.put, List.setIfInBounds_toArray, List.set_cons_zero, List.set_cons_succ, i64_w, i32_w]
         rfl
        refine pure_ (i := 8) (N := some 20) (v := ?_) (a' := ?_) #[true, false, false, false, false, true, false, false, true, false, false, false, false, false] rfl rfl (any_of HT_.out (by kernel_rfl)) (fun _ _ _ h => h) (Or.inl ⟨by rfl, ?_⟩) ?_ ?_
        rotate_left
        ·
         intro w'
         go_simp
         with_reducible rfl
        rotate_left
        ·
         simp only [Act.put, List.setIfInBounds_toArray, List.set_cons_zero, List.set_cons_succ, i64_w, i32_w]
         rfl
        refine take_ (i := 1) (N := some 13) (v := ?_) (a' := ?_) #[true, true, false, false, false, true, false, false, true, false, false, false, false, false] rfl rfl (take_ofW HT_.out HW_.out (by kernel_rfl)) (fun _ _ _ h => h) (Or.inl ⟨by rfl, ?_⟩) hHeld ?_ ?_
        rotate_left
        ·
         rintro w' ⟨s0, s1, s2, s3, s4, s5, s6, s7, s8, s9, s10, s11, s12, s13, s14, s15, s16, s17, s18, s19, s20, s21, s22⟩
         go_simp
         with_reducible rfl
        rotate_left
        ·
         simp only [Act.put, List.setIfInBounds_toArray, List.set_cons_zero, List.set_cons_succ, i64_w, i32_w]
         rfl
        refine take_ (i := 9) (N := some 21) (v := ?_) (a' := ?_) #[true, true, false, false, false, true, false, false, true, true, false, false, false, false] rfl rfl (take_ofW HT_.out HW_.out (by kernel_rfl)) (fun _ _ _ h => h) (Or.inl ⟨by rfl, ?_⟩) hHeld ?_ ?_
        rotate_left
        ·
         rintro w' ⟨s0, s1, s2, s3, s4, s5, s6, s7, s8, s9, s10, s11, s12, s13, s14, s15, s16, s17, s18, s19, s20, s21, s22⟩
         go_simp
         with_reducible rfl
        rotate_left
        ·
         simp only [Act.put, List.setIfInBounds_toArray, List.set_cons_zero, List.set_cons_succ, i64_w, i32_w]
         rfl
        refine one_ (i := 2) (N := some 14) #[true, true, true, false, false, true, false, false, true, true, false, false, false, false] rfl rfl (one_of HT_.out (by kernel_rfl)) (by decide) (fun K hK => ?_)
        refine goes_ Tryd.func29 (by kernel_rfl) rfl #[.int .i64 a0_0] (by rfl) rfl rfl (by (try simp only [List.map_toArray, List.map_cons, List.map_nil]); first | done | rfl | (simp only [List.length_drop, List.length_take]; rfl)) ?_
        with_reducible refine (impl_told.calls a0_0 t130 _ ?side1 A23.out).mono ?_
        (case side1 => exact TabW.below HT0.out (by repeat (first | (with_reducible first | exact HB.out | apply below_alloc | apply pw_below_drewN | apply below_drew1 | refine below_set ?_ GE122.out) | exact HB.out)))
        rintro e w34 ⟨rfl, hb⟩
        refine ⟨_, rfl, ?_⟩
        have n0_ := Aside0.mk (blk_below (g := gb122) (o := .cells #[.int .i64 a0_0, .int .i64 a0_1, .int .i64 a0_2, .int .i64 a0_3, .int .i64 a0_4, .bool a0_5, .int .i64 a0_6, .int .i64 a0_7, .int .i64 a0_8, .int .i64 a0_9, .int .i64 a0_10, .int .i64 a0_11, .int .i64 a0_12, .int .i64 a0_13, .int .i64 a0_14, .int .i64 a0_15, .int .i64 a0_16, .int .i64 a0_17, .int .i64 a0_18, .int .i64 a0_19, .int .i64 a0_20, .int .i64 a0_21, .int .i64 a0_22] 33 (0, 0)) (by (with_reducible repeat (first | refine blk_drewN ?_ _ | refine blk_drew ?_ | refine blk_alloc ?_ _)); exact BK122.out) hb)
        have n1_ := Aside0.mk (below_step (by repeat (first | (with_reducible first | exact HB.out | apply below_alloc | apply pw_below_drewN | apply below_drew1 | refine below_set ?_ GE122.out) | exact HB.out)) hb)
        clear BK122
        clear HB
        have BK122 := n0_
        have HB := n1_
        clear n0_ n1_
        (try clear hb)
        (try clear hb2)
        (try clear hk)
        (try clear hi)
        refine hK.out _ _ ⟨(blk_cell BK122.out 0).trans rfl, (blk_cell BK122.out 1).trans rfl, (blk_cell BK122.out 2).trans rfl, (blk_cell BK122.out 3).trans rfl, (blk_cell BK122.out 4).trans rfl, (blk_cell BK122.out 5).trans rfl, (blk_cell BK122.out 6).trans rfl, (blk_cell BK122.out 7).trans rfl, (blk_cell BK122.out 8).trans rfl, (blk_cell BK122.out 9).trans rfl, (blk_cell BK122.out 10).trans rfl, (blk_cell BK122.out 11).trans rfl, (blk_cell BK122.out 12).trans rfl, (blk_cell BK122.out 13).trans rfl, (blk_cell BK122.out 14).trans rfl, (blk_cell BK122.out 15).trans rfl, (blk_cell BK122.out 16).trans rfl, (blk_cell BK122.out 17).trans rfl, (blk_cell BK122.out 18).trans rfl, (blk_cell BK122.out 19).trans rfl, (blk_cell BK122.out 20).trans rfl, (blk_cell BK122.out 21).trans rfl, (blk_cell BK122.out 22).trans rfl⟩ (fun hHeld => ?_)
        clear hK K
        refine norm_ (a' := ?_) ?_ ?_
        rotate_left
        ·
         show Act.put _ (some 14) _ = _
         simp only [Act.put, List.setIfInBounds_toArray, List.set_cons_zero, List.set_cons_succ, i64_w, i32_w]
         rfl
        refine pure_ (i := 3) (N := some 15) (v := ?_) (a' := ?_) #[true, true, true, true, false, true, false, false, true, true, false, false, false, false] rfl rfl (any_of HT_.out (by kernel_rfl)) (fun _ _ _ h => h) (Or.inl ⟨by rfl, ?_⟩) ?_ ?_
        rotate_left
        ·
         intro w'
         go_simp
         with_reducible rfl
        rotate_left
        ·
         simp only [Act.put, List.setIfInBounds_toArray, List.set_cons_zero, List.set_cons_succ, i64_w, i32_w]
         rfl
        refine pure_ (i := 4) (N := some 16) (v := ?_) (a' := ?_) #[true, true, true, true, true, true, false, false, true, true, false, false, false, false] rfl rfl (any_of HT_.out (by kernel_rfl)) (fun _ _ _ h => h) (Or.inl ⟨by rfl, ?_⟩) ?_ ?_
        rotate_left
        ·
         intro w'
         go_simp
         with_reducible rfl
        rotate_left
        ·
         simp only [Act.put, List.setIfInBounds_toArray, List.set_cons_zero, List.set_cons_succ, i64_w, i32_w]
         rfl
        refine pure_ (i := 6) (N := some 18) (v := ?_) (a' := ?_) #[true, true, true, true, true, true, true, false, true, true, false, false, false, false] rfl rfl (any_of HT_.out (by kernel_rfl)) (fun _ _ _ h => h) (Or.inl ⟨by rfl, ?_⟩) ?_ ?_
        rotate_left
        ·
         intro w'
         go_simp
         with_reducible rfl
        rotate_left
        ·
         simp only [Act.put, List.setIfInBounds_toArray, List.set_cons_zero, List.set_cons_succ, i64_w, i32_w]
         rfl
        refine pure_ (i := 7) (N := some 19) (v := ?_) (a' := ?_) #[true, true, true, true, true, true, true, true, true, true, false, false, false, false] rfl rfl (any_of HT_.out (by kernel_rfl)) (fun _ _ _ h => h) (Or.inl ⟨by rfl, ?_⟩) ?_ ?_
        rotate_left
        ·
         intro w'
         go_simp
         with_reducible rfl
        rotate_left
        ·
         simp only [Act.put, List.setIfInBounds_toArray, List.set_cons_zero, List.set_cons_succ, i64_w, i32_w]
         rfl
        refine one_ (i := 10) (N := some 22) #[true, true, true, true, true, true, true, true, true, true, true, false, false, false] rfl rfl (one_of HT_.out (by kernel_rfl)) (by decide) (fun K hK => ?_)
        refine goes_ Tryd.func29 (by kernel_rfl) rfl #[.int .i64 a0_10] (by rfl) rfl rfl (by (try simp only [List.map_toArray, List.map_cons, List.map_nil]); first | done | rfl | (simp only [List.length_drop, List.length_take]; rfl)) ?_
        with_reducible refine (impl_told.calls a0_10 t131 _ ?side1 A28.out).mono ?_
        (case side1 => exact TabW.below HT0.out (by repeat (first | (with_reducible first | exact HB.out | apply below_alloc | apply pw_below_drewN | apply below_drew1 | refine below_set ?_ GE122.out) | exact HB.out)))
        rintro e w35 ⟨rfl, hb⟩
        refine ⟨_, rfl, ?_⟩
        have n0_ := Aside0.mk (blk_below (g := gb122) (o := .cells #[.int .i64 a0_0, .int .i64 a0_1, .int .i64 a0_2, .int .i64 a0_3, .int .i64 a0_4, .bool a0_5, .int .i64 a0_6, .int .i64 a0_7, .int .i64 a0_8, .int .i64 a0_9, .int .i64 a0_10, .int .i64 a0_11, .int .i64 a0_12, .int .i64 a0_13, .int .i64 a0_14, .int .i64 a0_15, .int .i64 a0_16, .int .i64 a0_17, .int .i64 a0_18, .int .i64 a0_19, .int .i64 a0_20, .int .i64 a0_21, .int .i64 a0_22] 33 (0, 0)) (by (with_reducible repeat (first | refine blk_drewN ?_ _ | refine blk_drew ?_ | refine blk_alloc ?_ _)); exact BK122.out) hb)
        have n1_ := Aside0.mk (below_step (by repeat (first | (with_reducible first | exact HB.out | apply below_alloc | apply pw_below_drewN | apply below_drew1 | refine below_set ?_ GE122.out) | exact HB.out)) hb)
        clear BK122
        clear HB
        have BK122 := n0_
        have HB := n1_
        clear n0_ n1_
        (try clear hb)
        (try clear hb2)
        (try clear hk)
        (try clear hi)
        refine hK.out _ _ ⟨(blk_cell BK122.out 0).trans rfl, (blk_cell BK122.out 1).trans rfl, (blk_cell BK122.out 2).trans rfl, (blk_cell BK122.out 3).trans rfl, (blk_cell BK122.out 4).trans rfl, (blk_cell BK122.out 5).trans rfl, (blk_cell BK122.out 6).trans rfl, (blk_cell BK122.out 7).trans rfl, (blk_cell BK122.out 8).trans rfl, (blk_cell BK122.out 9).trans rfl, (blk_cell BK122.out 10).trans rfl, (blk_cell BK122.out 11).trans rfl, (blk_cell BK122.out 12).trans rfl, (blk_cell BK122.out 13).trans rfl, (blk_cell BK122.out 14).trans rfl, (blk_cell BK122.out 15).trans rfl, (blk_cell BK122.out 16).trans rfl, (blk_cell BK122.out 17).trans rfl, (blk_cell BK122.out 18).trans rfl, (blk_cell BK122.out 19).trans rfl, (blk_cell BK122.out 20).trans rfl, (blk_cell BK122.out 21).trans rfl, (blk_cell BK122.out 22).trans rfl⟩ (fun hHeld => ?_)
        clear hK K
        refine norm_ (a' := ?_) ?_ ?_
        rotate_left
        ·
         show Act.put _ (some 22) _ = _
         simp only [Act.put, List.setIfInBounds_toArray, List.set_cons_zero, List.set_cons_succ, i64_w, i32_w]
         rfl
        refine pure_ (i := 11) (N := some 23) (v := ?_) (a' := ?_) #[true, true, true, true, true, true, true, true, true, true, true, true, false, false] rfl rfl (any_of HT_.out (by kernel_rfl)) (fun _ _ _ h => h) (Or.inl ⟨by rfl, ?_⟩) ?_ ?_
        rotate_left
        ·
         intro w'
         go_simp
         with_reducible rfl
        rotate_left
        ·
         simp only [Act.put, List.setIfInBounds_toArray, List.set_cons_zero, List.set_cons_succ, i64_w, i32_w]
         rfl
        refine pure_ (i := 12) (N := some 24) (v := ?_) (a' := ?_) #[true, true, true, true, true, true, true, true, true, true, true, true, true, false] rfl rfl (any_of HT_.out (by kernel_rfl)) (fun _ _ _ h => h) (Or.inl ⟨by rfl, ?_⟩) ?_ ?_
        rotate_left
        ·
         intro w'
         go_simp
         with_reducible rfl
        rotate_left
        ·
         simp only [Act.put, List.setIfInBounds_toArray, List.set_cons_zero, List.set_cons_succ, i64_w, i32_w]
         rfl
        refine pure_ (i := 13) (N := some 2) (v := ?_) (a' := ?_) #[true, true, true, true, true, true, true, true, true, true, true, true, true, true] rfl rfl (any_of HT_.out (by kernel_rfl)) (fun _ _ _ h => h) (Or.inl ⟨by rfl, ?_⟩) ?_ ?_
        rotate_left
        ·
         intro w'
         go_simp
         with_reducible rfl
        rotate_left
        ·
         simp only [Act.put, List.setIfInBounds_toArray, List.set_cons_zero, List.set_cons_succ, i64_w, i32_w]
         rfl
        refine done_ (done_of HT_.out (by kernel_rfl)) ?_
        try go_wp2
        go_ret
        exact ⟨by first | rfl | (simp [errW_none, errW_some] <;> rfl) | (simp [*, errW_none, errW_some] <;> rfl), by repeat (first | (with_reducible first | exact HB.out | apply below_alloc | apply pw_below_drewN | apply below_drew1 | refine below_set ?_ GE122.out) | exact HB.out)⟩
       ·
        rw [if_neg c30] at H
        exact absurd H (by simp)
      ·
       rw [if_neg c29] at H
       exact absurd H (by simp)
     ·
      rw [if_neg c27] at H
      exact absurd H (by simp)
    ·
     rw [if_neg c26] at H
     exact absurd H (by simp)
   ·
    rw [if_neg c25] at H
    exact absurd H (by simp)
  ·
   rw [if_neg c24] at H
   exact absurd H (by simp)
end Go.Proofs.YtfddealjbpdehaaDoor.A
