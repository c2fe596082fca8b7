/- One part of the proofs on this program: functions of the program as plain functions, that the code comes to them, and facts on them. -/
import Derived.Test.YtbcjbcjpoddkoaaYAll1
import Derived.Test.YtbcjbcjpoddkoaaYWAuto
section
namespace Go.Proofs.Ytbcjbcjpoddkoaa.P
open Go.RowKit Go.Proofs.YtbcjbcjpoddkoaaW.PrintWords Go.Proofs.YtbcjbcjpoddkoaaW.PrintLast Go.Proofs.YtbcjbcjpoddkoaaW.PrintMore
attribute [local go_sem] max2_int min2_int max_two min_two max_three min_three max_four min_four isSome_cell_setCell
set_option linter.unusedVariables false
set_option linter.unusedSimpArgs false
def spec_opens.f (a0 : Int) : Option (Bool) := (spec_inRange.f a0 7 12).bind fun t118 => (some t118)
set_option maxHeartbeats 8000000 in
set_option maxRecDepth 100000 in
theorem spec_opens.calls (a0 : Int) (r : Bool) (w : World) (h : spec_opens.f a0 = some r) :
  Calls Try.prog 87 #[.int .i64 a0] w fun e w' => e = .returned (.bool r) ∧ Drawn0 w w' := by
 have H : ((spec_inRange.f a0 7 12).bind fun t118 => (some t118)) = some r := h
 clear h
 replace H := Option.bind_eq_some_iff.mp H
 obtain ⟨t118, A20, H⟩ := H
 replace H : (some t118) = some r := H
 have A2 := am A20
 clear A20
 obtain rfl := Option.some.inj H
 go_enter Try.func87, Try.ntmps87
 go_wp2_with (first | ((with_reducible refine gate_callee (f := 60) rfl ?_); refine gL (some 4) Try.func60 #[.int .i64 a0, .int .i64 7, .int .i64 12] ?_; (with_reducible refine (spec_inRange.calls a0 7 12 t118 _ A2.out).mono ?_); rintro e w' ⟨rfl, ⟨nd, rfl⟩⟩; refine ⟨_, rfl, ?_⟩))
 go_ret
 exact ⟨sq, Y8⟩
def spec_follows.f (a0 : Int) : Option (Bool) := (spec_inRange.f a0 8 10).bind fun t119 => (some t119)
set_option maxHeartbeats 8000000 in
set_option maxRecDepth 100000 in
theorem spec_follows.calls (a0 : Int) (r : Bool) (w : World) (h : spec_follows.f a0 = some r) :
  Calls Try.prog 90 #[.int .i64 a0] w fun e w' => e = .returned (.bool r) ∧ Drawn0 w w' := by
 have H : ((spec_inRange.f a0 8 10).bind fun t119 => (some t119)) = some r := h
 clear h
 replace H := Option.bind_eq_some_iff.mp H
 obtain ⟨t119, A20, H⟩ := H
 replace H : (some t119) = some r := H
 have A2 := am A20
 clear A20
 obtain rfl := Option.some.inj H
 go_enter Try.func90, Try.ntmps90
 go_wp2_with (first | ((with_reducible refine gate_callee (f := 60) rfl ?_); refine gL (some 4) Try.func60 #[.int .i64 a0, .int .i64 8, .int .i64 10] ?_; (with_reducible refine (spec_inRange.calls a0 8 10 t119 _ A2.out).mono ?_); rintro e w' ⟨rfl, ⟨nd, rfl⟩⟩; refine ⟨_, rfl, ?_⟩))
 go_ret
 exact ⟨sq, Y8⟩
def spec_blockEnd.l0 : Nat → List (S59) → Int → Int → Option (Int)
 | 0, _, _, _ => none
 | k + 1, x0, x1, x5 => if x5 < (x0.length : Int) then (if 0 ≤ x5 then (if 0 ≤ x1 then (if x1 < (x0.length : Int) then (if ((rd_T59 x0 x5).f0) > ((rd_T59 x0 x1).f0) then (spec_blockEnd.l0 k x0 x1 (wrap64 (x5 + 1))) else (some x5)) else (none)) else (none)) else (none)) else (some x5)
def spec_blockEnd.f (k : Nat) (l0 : List (S59)) (a1 : Int) : Option (Int) := spec_blockEnd.l0 k l0 a1 (wrap64 (a1 + 1))
set_option maxHeartbeats 8000000 in
set_option maxRecDepth 100000 in
theorem spec_blockEnd.calls (k : Nat) (A0 : Option Addr) (c0 : Nat) (l0 : List (S59)) (a1 : Int) (r : Int) (w : World) (hr0 : Kd.C k59 w A0 l0.length l0) (hc0 : l0.length ≤ c0) (h : spec_blockEnd.f k l0 a1 = some r) :
  Calls Try.prog 65 #[.slice A0 l0.length c0, .int .i64 a1] w fun e w' => e = .returned (.int .i64 r) ∧ Drawn0 w w' := by
 have HR0 := am hr0
 have HC0 := am hc0
 clear hr0 hc0
 have H : (spec_blockEnd.l0 k l0 a1 (wrap64 (a1 + 1))) = some r := h
 clear h
 have H' := am H
 clear H
 go_enter Try.func65, Try.ntmps65
 go_wp2
 repeat (go_quiet (fail); try go_wp2)
 go_loopg [5] k (fun kq v5 w' => ∃ (x5_1 : Int), v5 = .int .i64 x5_1 ∧ Aside0 (spec_blockEnd.l0 kq l0 a1 x5_1 = some r) ∧ Aside0 (kq ≤ k) ∧ Drawn0 w w')
 case atStart => exact ⟨(wrap64 (a1 + 1)), (sq), H', ⟨Nat.le_refl _⟩, Y8⟩
 case round =>
  clear H'
  try clear p2
  obtain ⟨x5_1, rfl, HA, HK1, ⟨m1, rfl⟩⟩ := hrel
  cases gk with
  | zero => exact absurd HA.out (by simp [spec_blockEnd.l0])
  | succ k1 =>
   have H := HA.out
   clear HA
   simp only [spec_blockEnd.l0] at H
   by_cases c3 : x5_1 < (l0.length : Int)
   ·rw [if_pos c3] at H
    have c3b0 : decide (x5_1 < (l0.length : Int)) = true := decide_eq_true c3
    clear c3
    by_cases c4 : 0 ≤ x5_1
    ·rw [if_pos c4] at H
     have c4b0 : decide (0 ≤ x5_1) = true := decide_eq_true c4
     clear c4
     by_cases c5 : 0 ≤ a1
     ·rw [if_pos c5] at H
      have c5b0 : decide (0 ≤ a1) = true := decide_eq_true c5
      clear c5
      by_cases c6 : a1 < (l0.length : Int)
      ·rw [if_pos c6] at H
       have c6b0 : decide (a1 < (l0.length : Int)) = true := decide_eq_true c6
       clear c6
       by_cases c7 : ((rd_T59 l0 x5_1).f0) > ((rd_T59 l0 a1).f0)
       ·rw [if_pos c7] at H
        have c7b0 : decide (((rd_T59 l0 a1).f0) < ((rd_T59 l0 x5_1).f0)) = true := decide_eq_true c7
        clear c7
        have H' := am H
        clear H
        have p120 : 0 ≤ (x5_1 : Int) := of_decide_eq_true (uq)
        have q120 : x5_1 < (l0.length : Int) := of_decide_eq_true (uq)
        obtain ⟨ad120, e120, hx120_0, hx120_1, hx120_2, hx120_3⟩ := at_T59 HR0.out x5_1 p120 q120
        cases e120
        replace p120 := eq_true p120
        replace q120 := eq_true q120
        have p121 : 0 ≤ (a1 : Int) := of_decide_eq_true (uq)
        have q121 : a1 < (l0.length : Int) := of_decide_eq_true (uq)
        obtain ⟨ad121, e121, hx121_0, hx121_1, hx121_2, hx121_3⟩ := at_T59 HR0.out a1 p121 q121
        obtain rfl : ad120 = ad121 := (by injection e121)
        replace p121 := eq_true p121
        replace q121 := eq_true q121
        go_wp2
        repeat (go_quiet (fail); try go_wp2)
        go_roundg k1
        case measure => have := HK1.out; omega
        case rel => exact ⟨(wrap64 (x5_1 + 1)), (sq), H', ⟨by have := HK1.out; omega⟩, Y8⟩
       ·rw [if_neg c7] at H
        have c7b0 : decide (((rd_T59 l0 a1).f0) < ((rd_T59 l0 x5_1).f0)) = false := decide_eq_false c7
        clear c7
        obtain rfl := Option.some.inj H
        have p120 : 0 ≤ (x5_1 : Int) := of_decide_eq_true (uq)
        have q120 : x5_1 < (l0.length : Int) := of_decide_eq_true (uq)
        obtain ⟨ad120, e120, hx120_0, hx120_1, hx120_2, hx120_3⟩ := at_T59 HR0.out x5_1 p120 q120
        cases e120
        replace p120 := eq_true p120
        replace q120 := eq_true q120
        have p121 : 0 ≤ (a1 : Int) := of_decide_eq_true (uq)
        have q121 : a1 < (l0.length : Int) := of_decide_eq_true (uq)
        obtain ⟨ad121, e121, hx121_0, hx121_1, hx121_2, hx121_3⟩ := at_T59 HR0.out a1 p121 q121
        obtain rfl : ad120 = ad121 := (by injection e121)
        replace p121 := eq_true p121
        replace q121 := eq_true q121
        go_wp2
        repeat (go_quiet (fail); try go_wp2)
        go_ret
        exact ⟨sq, Y8⟩
      ·rw [if_neg c6] at H
       exact absurd H (by simp)
     ·rw [if_neg c5] at H
      exact absurd H (by simp)
    ·rw [if_neg c4] at H
     exact absurd H (by simp)
   ·rw [if_neg c3] at H
    have c3b0 : decide (x5_1 < (l0.length : Int)) = false := decide_eq_false c3
    clear c3
    obtain rfl := Option.some.inj H
    go_wp2
    repeat (go_quiet (fail); try go_wp2)
    go_ret
    exact ⟨sq, Y8⟩
def spec_sameNext.f (k : Nat) (l0 : List (S59)) (a1 : Int) : Option (Int) := (spec_blockEnd.f k l0 a1).bind fun t122 => (if t122 < (l0.length : Int) then (if 0 ≤ t122 then (if 0 ≤ a1 then (if a1 < (l0.length : Int) then (if ((rd_T59 l0 t122).f0) = ((rd_T59 l0 a1).f0) then (some t122) else (some (l0.length : Int))) else (none)) else (none)) else (none)) else (some (l0.length : Int)))
set_option maxHeartbeats 8000000 in
set_option maxRecDepth 100000 in
theorem spec_sameNext.calls (k : Nat) (A0 : Option Addr) (c0 : Nat) (l0 : List (S59)) (a1 : Int) (r : Int) (w : World) (hr0 : Kd.C k59 w A0 l0.length l0) (hc0 : l0.length ≤ c0) (h : spec_sameNext.f k l0 a1 = some r) :
  Calls Try.prog 94 #[.slice A0 l0.length c0, .int .i64 a1] w fun e w' => e = .returned (.int .i64 r) ∧ Drawn0 w w' := by
 have HR0 := am hr0
 have HC0 := am hc0
 clear hr0 hc0
 have H : ((spec_blockEnd.f k l0 a1).bind fun t122 => (if t122 < (l0.length : Int) then (if 0 ≤ t122 then (if 0 ≤ a1 then (if a1 < (l0.length : Int) then (if ((rd_T59 l0 t122).f0) = ((rd_T59 l0 a1).f0) then (some t122) else (some (l0.length : Int))) else (none)) else (none)) else (none)) else (some (l0.length : Int)))) = some r := h
 clear h
 replace H := Option.bind_eq_some_iff.mp H
 obtain ⟨t122, A30, H⟩ := H
 replace H : (if t122 < (l0.length : Int) then (if 0 ≤ t122 then (if 0 ≤ a1 then (if a1 < (l0.length : Int) then (if ((rd_T59 l0 t122).f0) = ((rd_T59 l0 a1).f0) then (some t122) else (some (l0.length : Int))) else (none)) else (none)) else (none)) else (some (l0.length : Int))) = some r := H
 have A3 := am A30
 clear A30
 by_cases c4 : t122 < (l0.length : Int)
 ·rw [if_pos c4] at H
  have c4b0 : decide (t122 < (l0.length : Int)) = true := decide_eq_true c4
  clear c4
  by_cases c5 : 0 ≤ t122
  ·rw [if_pos c5] at H
   have c5b0 : decide (0 ≤ t122) = true := decide_eq_true c5
   clear c5
   by_cases c6 : 0 ≤ a1
   ·rw [if_pos c6] at H
    have c6b0 : decide (0 ≤ a1) = true := decide_eq_true c6
    clear c6
    by_cases c7 : a1 < (l0.length : Int)
    ·rw [if_pos c7] at H
     have c7b0 : decide (a1 < (l0.length : Int)) = true := decide_eq_true c7
     clear c7
     by_cases c8 : ((rd_T59 l0 t122).f0) = ((rd_T59 l0 a1).f0)
     ·rw [if_pos c8] at H
      have c8b0 : (((rd_T59 l0 t122).f0) == ((rd_T59 l0 a1).f0)) = true := beq_iff_eq.mpr c8
      have c8b1 : (((rd_T59 l0 t122).f0) != ((rd_T59 l0 a1).f0)) = false := bne_eq_false_iff_eq.mpr c8
      clear c8
      obtain rfl := Option.some.inj H
      go_enter Try.func94, Try.ntmps94
      go_wp2_with (first | (go_at_call 65; (with_reducible refine (spec_blockEnd.calls k _ _ l0 a1 t122 _ ?side1 ?side2 A3.out).mono ?_); (case side1 => exact Y35); (case side2 => exact HC0.out); rintro e w' ⟨rfl, ⟨nd, rfl⟩⟩; (try first | exact ⟨rfl, _, World.drewN_drewN _ _ _⟩ | exact ⟨rfl, _, Eq.trans (World.drewN_drewN _ _ _) (congrArg (World.drewN _) (Nat.add_assoc _ _ _))⟩); have p123 : 0 ≤ (t122 : Int) := of_decide_eq_true (uq); have q123 : t122 < (l0.length : Int) := of_decide_eq_true (uq); obtain ⟨ad123, e123, hx123_0, hx123_1, hx123_2, hx123_3⟩ := at_T59 HR0.out t122 p123 q123; cases e123; replace p123 := eq_true p123; replace q123 := eq_true q123; have p124 : 0 ≤ (a1 : Int) := of_decide_eq_true (uq); have q124 : a1 < (l0.length : Int) := of_decide_eq_true (uq); obtain ⟨ad124, e124, hx124_0, hx124_1, hx124_2, hx124_3⟩ := at_T59 HR0.out a1 p124 q124; obtain rfl : ad123 = ad124 := (by injection e124); replace p124 := eq_true p124; replace q124 := eq_true q124))
      repeat (go_quiet (first | (go_at_call 65; (with_reducible refine (spec_blockEnd.calls k _ _ l0 a1 t122 _ ?side1 ?side2 A3.out).mono ?_); (case side1 => exact Y35); (case side2 => exact HC0.out); rintro e w' ⟨rfl, ⟨nd, rfl⟩⟩; (try first | exact ⟨rfl, _, World.drewN_drewN _ _ _⟩ | exact ⟨rfl, _, Eq.trans (World.drewN_drewN _ _ _) (congrArg (World.drewN _) (Nat.add_assoc _ _ _))⟩); have p123 : 0 ≤ (t122 : Int) := of_decide_eq_true (uq); have q123 : t122 < (l0.length : Int) := of_decide_eq_true (uq); obtain ⟨ad123, e123, hx123_0, hx123_1, hx123_2, hx123_3⟩ := at_T59 HR0.out t122 p123 q123; cases e123; replace p123 := eq_true p123; replace q123 := eq_true q123; have p124 : 0 ≤ (a1 : Int) := of_decide_eq_true (uq); have q124 : a1 < (l0.length : Int) := of_decide_eq_true (uq); obtain ⟨ad124, e124, hx124_0, hx124_1, hx124_2, hx124_3⟩ := at_T59 HR0.out a1 p124 q124; obtain rfl : ad123 = ad124 := (by injection e124); replace p124 := eq_true p124; replace q124 := eq_true q124)); try go_wp2_with (first | (go_at_call 65; (with_reducible refine (spec_blockEnd.calls k _ _ l0 a1 t122 _ ?side1 ?side2 A3.out).mono ?_); (case side1 => exact Y35); (case side2 => exact HC0.out); rintro e w' ⟨rfl, ⟨nd, rfl⟩⟩; (try first | exact ⟨rfl, _, World.drewN_drewN _ _ _⟩ | exact ⟨rfl, _, Eq.trans (World.drewN_drewN _ _ _) (congrArg (World.drewN _) (Nat.add_assoc _ _ _))⟩); have p123 : 0 ≤ (t122 : Int) := of_decide_eq_true (uq); have q123 : t122 < (l0.length : Int) := of_decide_eq_true (uq); obtain ⟨ad123, e123, hx123_0, hx123_1, hx123_2, hx123_3⟩ := at_T59 HR0.out t122 p123 q123; cases e123; replace p123 := eq_true p123; replace q123 := eq_true q123; have p124 : 0 ≤ (a1 : Int) := of_decide_eq_true (uq); have q124 : a1 < (l0.length : Int) := of_decide_eq_true (uq); obtain ⟨ad124, e124, hx124_0, hx124_1, hx124_2, hx124_3⟩ := at_T59 HR0.out a1 p124 q124; obtain rfl : ad123 = ad124 := (by injection e124); replace p124 := eq_true p124; replace q124 := eq_true q124)))
      go_ret
      exact ⟨sq, Y8⟩
     ·rw [if_neg c8] at H
      have c8b0 : (((rd_T59 l0 t122).f0) == ((rd_T59 l0 a1).f0)) = false := beq_eq_false_iff_ne.mpr c8
      have c8b1 : (((rd_T59 l0 t122).f0) != ((rd_T59 l0 a1).f0)) = true := bne_iff_ne.mpr c8
      obtain rfl := Option.some.inj H
      go_enter Try.func94, Try.ntmps94
      go_wp2_with (first | (go_at_call 65; (with_reducible refine (spec_blockEnd.calls k _ _ l0 a1 t122 _ ?side1 ?side2 A3.out).mono ?_); (case side1 => exact Y35); (case side2 => exact HC0.out); rintro e w' ⟨rfl, ⟨nd, rfl⟩⟩; (try first | exact ⟨rfl, _, World.drewN_drewN _ _ _⟩ | exact ⟨rfl, _, Eq.trans (World.drewN_drewN _ _ _) (congrArg (World.drewN _) (Nat.add_assoc _ _ _))⟩); have p123 : 0 ≤ (t122 : Int) := of_decide_eq_true (uq); have q123 : t122 < (l0.length : Int) := of_decide_eq_true (uq); obtain ⟨ad123, e123, hx123_0, hx123_1, hx123_2, hx123_3⟩ := at_T59 HR0.out t122 p123 q123; cases e123; replace p123 := eq_true p123; replace q123 := eq_true q123; have p124 : 0 ≤ (a1 : Int) := of_decide_eq_true (uq); have q124 : a1 < (l0.length : Int) := of_decide_eq_true (uq); obtain ⟨ad124, e124, hx124_0, hx124_1, hx124_2, hx124_3⟩ := at_T59 HR0.out a1 p124 q124; obtain rfl : ad123 = ad124 := (by injection e124); replace p124 := eq_true p124; replace q124 := eq_true q124))
      repeat (go_quiet (first | (go_at_call 65; (with_reducible refine (spec_blockEnd.calls k _ _ l0 a1 t122 _ ?side1 ?side2 A3.out).mono ?_); (case side1 => exact Y35); (case side2 => exact HC0.out); rintro e w' ⟨rfl, ⟨nd, rfl⟩⟩; (try first | exact ⟨rfl, _, World.drewN_drewN _ _ _⟩ | exact ⟨rfl, _, Eq.trans (World.drewN_drewN _ _ _) (congrArg (World.drewN _) (Nat.add_assoc _ _ _))⟩); have p123 : 0 ≤ (t122 : Int) := of_decide_eq_true (uq); have q123 : t122 < (l0.length : Int) := of_decide_eq_true (uq); obtain ⟨ad123, e123, hx123_0, hx123_1, hx123_2, hx123_3⟩ := at_T59 HR0.out t122 p123 q123; cases e123; replace p123 := eq_true p123; replace q123 := eq_true q123; have p124 : 0 ≤ (a1 : Int) := of_decide_eq_true (uq); have q124 : a1 < (l0.length : Int) := of_decide_eq_true (uq); obtain ⟨ad124, e124, hx124_0, hx124_1, hx124_2, hx124_3⟩ := at_T59 HR0.out a1 p124 q124; obtain rfl : ad123 = ad124 := (by injection e124); replace p124 := eq_true p124; replace q124 := eq_true q124)); try go_wp2_with (first | (go_at_call 65; (with_reducible refine (spec_blockEnd.calls k _ _ l0 a1 t122 _ ?side1 ?side2 A3.out).mono ?_); (case side1 => exact Y35); (case side2 => exact HC0.out); rintro e w' ⟨rfl, ⟨nd, rfl⟩⟩; (try first | exact ⟨rfl, _, World.drewN_drewN _ _ _⟩ | exact ⟨rfl, _, Eq.trans (World.drewN_drewN _ _ _) (congrArg (World.drewN _) (Nat.add_assoc _ _ _))⟩); have p123 : 0 ≤ (t122 : Int) := of_decide_eq_true (uq); have q123 : t122 < (l0.length : Int) := of_decide_eq_true (uq); obtain ⟨ad123, e123, hx123_0, hx123_1, hx123_2, hx123_3⟩ := at_T59 HR0.out t122 p123 q123; cases e123; replace p123 := eq_true p123; replace q123 := eq_true q123; have p124 : 0 ≤ (a1 : Int) := of_decide_eq_true (uq); have q124 : a1 < (l0.length : Int) := of_decide_eq_true (uq); obtain ⟨ad124, e124, hx124_0, hx124_1, hx124_2, hx124_3⟩ := at_T59 HR0.out a1 p124 q124; obtain rfl : ad123 = ad124 := (by injection e124); replace p124 := eq_true p124; replace q124 := eq_true q124)))
      go_ret
      exact ⟨sq, Y8⟩
    ·rw [if_neg c7] at H
     exact absurd H (by simp)
   ·rw [if_neg c6] at H
    exact absurd H (by simp)
  ·rw [if_neg c5] at H
   exact absurd H (by simp)
 ·rw [if_neg c4] at H
  have c4b0 : decide (t122 < (l0.length : Int)) = false := decide_eq_false c4
  clear c4
  obtain rfl := Option.some.inj H
  go_enter Try.func94, Try.ntmps94
  go_wp2_with (first | (go_at_call 65; (with_reducible refine (spec_blockEnd.calls k _ _ l0 a1 t122 _ ?side1 ?side2 A3.out).mono ?_); (case side1 => exact Y35); (case side2 => exact HC0.out); rintro e w' ⟨rfl, ⟨nd, rfl⟩⟩; (try first | exact ⟨rfl, _, World.drewN_drewN _ _ _⟩ | exact ⟨rfl, _, Eq.trans (World.drewN_drewN _ _ _) (congrArg (World.drewN _) (Nat.add_assoc _ _ _))⟩)))
  repeat (go_quiet (first | (go_at_call 65; (with_reducible refine (spec_blockEnd.calls k _ _ l0 a1 t122 _ ?side1 ?side2 A3.out).mono ?_); (case side1 => exact Y35); (case side2 => exact HC0.out); rintro e w' ⟨rfl, ⟨nd, rfl⟩⟩; (try first | exact ⟨rfl, _, World.drewN_drewN _ _ _⟩ | exact ⟨rfl, _, Eq.trans (World.drewN_drewN _ _ _) (congrArg (World.drewN _) (Nat.add_assoc _ _ _))⟩))); try go_wp2_with (first | (go_at_call 65; (with_reducible refine (spec_blockEnd.calls k _ _ l0 a1 t122 _ ?side1 ?side2 A3.out).mono ?_); (case side1 => exact Y35); (case side2 => exact HC0.out); rintro e w' ⟨rfl, ⟨nd, rfl⟩⟩; (try first | exact ⟨rfl, _, World.drewN_drewN _ _ _⟩ | exact ⟨rfl, _, Eq.trans (World.drewN_drewN _ _ _) (congrArg (World.drewN _) (Nat.add_assoc _ _ _))⟩))))
  go_ret
  exact ⟨sq, Y8⟩
def spec_chainOf.l0 : Nat → List (S59) → List Int → Int → Option (List Int)
 | 0, _, _, _ => none
 | k + 1, x0, x5, x6 => if x6 < (x0.length : Int) then (if 0 ≤ x6 then ((spec_follows.f ((rd_T59 x0 x6).f1)).bind fun t130 => (if t130 = true then (if x5.length < 17592186044416 then ((spec_sameNext.f k x0 x6).bind fun t134 => (spec_chainOf.l0 k x0 (x5 ++ [x6]) t134)) else (none)) else (some x5))) else (none)) else (some x5)
def spec_chainOf.f (k : Nat) (l0 : List (S59)) (a1 : Int) : Option (List Int) := (spec_sameNext.f k l0 a1).bind fun t128 => (spec_chainOf.l0 k l0 (([a1] : List Int)) t128)
set_option maxHeartbeats 8000000 in
set_option maxRecDepth 100000 in
theorem spec_chainOf.calls (k : Nat) (A0 : Option Addr) (c0 : Nat) (l0 : List (S59)) (a1 : Int) (r : List Int) (w : World) (hr0 : Kd.C k59 w A0 l0.length l0) (hc0 : l0.length ≤ c0) (h : spec_chainOf.f k l0 a1 = some r) :
  Calls Try.prog 66 #[.slice A0 l0.length c0, .int .i64 a1] w fun e w' => ∃ v0_ : Value, e = .returned (v0_) ∧ Kd.R (Kd.int .i64) 3 w' w.heap.size (fun _ => True) v0_ r ∧ Below w.heap.size w w' := by
 have HR0 := am hr0
 have HC0 := am hc0
 clear hr0 hc0
 have HB := am (Below.refl w.heap.size w)
 have H : ((spec_sameNext.f k l0 a1).bind fun t128 => (spec_chainOf.l0 k l0 (([a1] : List Int)) t128)) = some r := h
 clear h
 obtain ⟨y125, hy125⟩ : ∃ y_ : List Int, y_ = (([a1] : List Int)) := ⟨_, rfl⟩
 replace H : ((spec_sameNext.f k l0 a1).bind fun t128 => (spec_chainOf.l0 k l0 y125 t128)) = some r := by first | (rw [hy125]; with_reducible exact H) | (have H2_ := (Option.bind_some _ _).symm.trans H; rw [hy125]; with_reducible exact H2_) | (have H2_ := (Option.bind_some _ _).symm.trans H; with_reducible exact H2_) | with_reducible exact H | (rw [hy125]; exact H) | exact H
 have Ny125 := am hy125
 clear hy125
 replace H := Option.bind_eq_some_iff.mp H
 obtain ⟨t128, A30, H⟩ := H
 replace H : (spec_chainOf.l0 k l0 y125 t128) = some r := H
 have A3 := am A30
 clear A30
 have H' := am H
 clear H
 go_enter Try.func66, Try.ntmps66
 go_wp2_with (first | ((with_reducible refine gate_dst (N := 8) rfl ?_); refine Kd.R_lit (Kd.int .i64) _ 3 ?hg (N := 8) ?hd (xs := ([a1] : List Int)) (inner := [.int .i64 a1]) (ok := fun _ => True) (okp := fun _ => True) ?hr ?hp (fun _ hk => hk) trivial (Below.refl _ _) (Nat.le_refl _) (by simp) ?_; (case hd => rfl); (case hg => rfl); (case hr => exact Y5); (case hp => exact (Reps.one (show Kd.M (Kd.int .i64) _ _ _ a1 [.int .i64 a1] from rfl) (Reps.none _ _))); intro v126 w4 ho5 hb hg_ hnew_; clear hg_ hnew_; (first | rw [← Ny125.out] at ho5 | (simp only [Int.reduceToNat] at ho5; rw [← Ny125.out] at ho5)); have HO127 := am (Kd.R_lower ho5 (below_size (bq))); replace HB := am (below_step (bq) hb); clear hb ho5) | ((with_reducible refine gate_callee (f := 94) rfl ?_); refine gL (some 11) Try.func94 #[.slice A0 l0.length c0, .int .i64 a1] ?_; (with_reducible refine (spec_sameNext.calls k _ _ l0 a1 t128 _ ?side1 ?side2 A3.out).mono ?_); (case side1 => exact cq (Kd.C_below HR0.out HB.out)); (case side2 => exact HC0.out); rintro e w' ⟨rfl, ⟨nd, rfl⟩⟩; refine ⟨_, rfl, ?_⟩))
 go_loopg [5, 6] k (fun kq v5 v6 w' => ∃ (x5_1 : List Int) (x6_1 : Int), v6 = .int .i64 x6_1 ∧ Aside0 (spec_chainOf.l0 kq l0 x5_1 x6_1 = some r) ∧ Aside0 (kq ≤ k) ∧ Aside0 (Kd.R (Kd.int .i64) 3 w' w.heap.size (fun _ => True) v5 x5_1) ∧ Aside0 (Below w.heap.size w w'))
 case atStart => exact ⟨(y125), (t128), (sq), H', ⟨Nat.le_refl _⟩, ⟨rq HO127.out⟩, ⟨bq⟩⟩
 case round =>
  clear H'
  try clear p2
  obtain ⟨x5_1, x6_1, rfl, HA, HK1, HO_5, HB⟩ := hrel
  cases gk with
  | zero => exact absurd HA.out (by simp [spec_chainOf.l0])
  | succ k1 =>
   have H := HA.out
   clear HA
   simp only [spec_chainOf.l0] at H
   by_cases c6 : x6_1 < (l0.length : Int)
   ·rw [if_pos c6] at H
    have c6b0 : decide (x6_1 < (l0.length : Int)) = true := decide_eq_true c6
    clear c6
    by_cases c7 : 0 ≤ x6_1
    ·rw [if_pos c7] at H
     have c7b0 : decide (0 ≤ x6_1) = true := decide_eq_true c7
     clear c7
     replace H := Option.bind_eq_some_iff.mp H
     obtain ⟨t130, A80, H⟩ := H
     replace H : (if t130 = true then (if x5_1.length < 17592186044416 then ((spec_sameNext.f k1 l0 x6_1).bind fun t134 => (spec_chainOf.l0 k1 l0 (x5_1 ++ [x6_1]) t134)) else (none)) else (some x5_1)) = some r := H
     have A8 := am A80
     clear A80
     by_cases c9 : t130 = true
     ·subst c9
      have H1 : (if x5_1.length < 17592186044416 then ((spec_sameNext.f k1 l0 x6_1).bind fun t134 => (spec_chainOf.l0 k1 l0 (x5_1 ++ [x6_1]) t134)) else (none)) = some r := by rw [if_pos rfl] at H; exact H
      clear H
      have H := H1
      clear H1
      by_cases c10 : x5_1.length < 17592186044416
      ·rw [if_pos c10] at H
       have LMc10 := am c10
       clear c10
       obtain ⟨y131, hy131⟩ : ∃ y_ : List Int, y_ = (x5_1 ++ [x6_1]) := ⟨_, rfl⟩
       replace H : ((spec_sameNext.f k1 l0 x6_1).bind fun t134 => (spec_chainOf.l0 k1 l0 y131 t134)) = some r := by first | (rw [hy131]; with_reducible exact H) | (have H2_ := (Option.bind_some _ _).symm.trans H; rw [hy131]; with_reducible exact H2_) | (have H2_ := (Option.bind_some _ _).symm.trans H; with_reducible exact H2_) | with_reducible exact H | (rw [hy131]; exact H) | exact H
       have Ny131 := am hy131
       clear hy131
       replace H := Option.bind_eq_some_iff.mp H
       obtain ⟨t134, A110, H⟩ := H
       replace H : (spec_chainOf.l0 k1 l0 y131 t134) = some r := H
       have A11 := am A110
       clear A110
       have H' := am H
       clear H
       have p129 : 0 ≤ (x6_1 : Int) := of_decide_eq_true (uq)
       have q129 : x6_1 < (l0.length : Int) := of_decide_eq_true (uq)
       obtain ⟨ad129, e129, hx129_0, hx129_1, hx129_2, hx129_3⟩ := at_T59 HR0.out x6_1 p129 q129
       cases e129
       replace hx129_0 := cb HB.out hx129_0
       replace hx129_1 := cb HB.out hx129_1
       replace hx129_2 := cb HB.out hx129_2
       replace hx129_3 := cb HB.out hx129_3
       replace p129 := eq_true p129
       replace q129 := eq_true q129
       go_wp2_with (first | (go_at_call 90; (with_reducible refine (spec_follows.calls ((rd_T59 l0 x6_1).f1) true _ A8.out).mono ?_); rintro e w' ⟨rfl, ⟨nd, rfl⟩⟩) | ((with_reducible refine gate_builtin (b := .append) (xs := #[.tmp 27, .tmp 29]) rfl ?_); at_builtin; refine Kd.R_append (Kd.int .i64) (w0 := w) w.heap.size rfl (.tmp 27) (.tmp 29) 65 3 (.int .i64 0) 8 rfl Try.underlying65 info3 rfl (by decide) (by omega) u5 x5_1 x6_1 [.int .i64 x6_1] (fun _ => True) (fun _ => False) rfl rfl ?aP (fun _ hk => hk.elim) ?aF ?aO ?aB ?aS ?aL ?_; (case aP => exact rfl); (case aB => exact (bq)); (case aF => exact (fun _ _ => trivial)); (case aO => exact (rq HO_5.out)); (case aS => exact (below_size (bq))); (case aL => have := LMc10.out; omega); intro v132 w12 ho hb hg hat; rw [← Ny131.out] at ho; have n0_ := am (hb); have n1_ := am (ho); clear HB HO_5; have HB := n0_; have HO133 := n1_; clear n0_ n1_ ho hb hg hat) | ((with_reducible refine gate_callee (f := 94) rfl ?_); refine gL (some 26) Try.func94 #[.slice (some ad129) l0.length c0, .int .i64 x6_1] ?_; (with_reducible refine (spec_sameNext.calls k1 _ _ l0 x6_1 t134 _ ?side1 ?side2 A11.out).mono ?_); (case side1 => exact cq (Kd.C_below HR0.out HB.out)); (case side2 => exact HC0.out); rintro e w' ⟨rfl, ⟨nd, rfl⟩⟩; refine ⟨_, rfl, ?_⟩))
       go_roundg k1
       case measure => have := HK1.out; omega
       case rel => exact ⟨(y131), (t134), (sq), H', ⟨by have := HK1.out; omega⟩, ⟨rq HO133.out⟩, ⟨bq⟩⟩
      ·rw [if_neg c10] at H
       exact absurd H (by simp)
     ·replace c9 := Bool.eq_false_iff.mpr c9
      subst c9
      have H1 : (some x5_1) = some r := by rw [if_neg (show ¬ (false = true) by decide)] at H; exact H
      clear H
      have H := H1
      clear H1
      obtain rfl := Option.some.inj H
      have p129 : 0 ≤ (x6_1 : Int) := of_decide_eq_true (uq)
      have q129 : x6_1 < (l0.length : Int) := of_decide_eq_true (uq)
      obtain ⟨ad129, e129, hx129_0, hx129_1, hx129_2, hx129_3⟩ := at_T59 HR0.out x6_1 p129 q129
      cases e129
      replace hx129_0 := cb HB.out hx129_0
      replace hx129_1 := cb HB.out hx129_1
      replace hx129_2 := cb HB.out hx129_2
      replace hx129_3 := cb HB.out hx129_3
      replace p129 := eq_true p129
      replace q129 := eq_true q129
      go_wp2_with (first | (go_at_call 90; (with_reducible refine (spec_follows.calls ((rd_T59 l0 x6_1).f1) false _ A8.out).mono ?_); rintro e w' ⟨rfl, ⟨nd, rfl⟩⟩))
      go_ret
      exact ⟨_, Y0, rq HO_5.out, bq⟩
    ·rw [if_neg c7] at H
     exact absurd H (by simp)
   ·rw [if_neg c6] at H
    have c6b0 : decide (x6_1 < (l0.length : Int)) = false := decide_eq_false c6
    clear c6
    obtain rfl := Option.some.inj H
    go_wp2
    go_ret
    exact ⟨_, Y0, rq HO_5.out, bq⟩
mutual
def spec_validChain.l0 : Nat → List (S59) → List Int → Int → Int → Option (Bool)
 | 0, _, _, _, _ => none
 | k + 1, x0, x5, x6, x7 => if x7 < (x5.length : Int) then (if 0 ≤ x7 then (if 0 ≤ (rd x5 x7) then (if (rd x5 x7) < (x0.length : Int) then (if ((rd_T59 x0 (rd x5 x7)).f1) = 8 then (spec_validChain.j1 k x0 x5 (wrap64 (x6 + 1)) x7 ((rd_T59 x0 (rd x5 x7)).f1)) else (spec_validChain.j1 k x0 x5 x6 x7 ((rd_T59 x0 (rd x5 x7)).f1))) else (none)) else (none)) else (none)) else (if (x5.length : Int) > 1 then (some (decide (x6 ≤ 6))) else (some false))
def spec_validChain.j1 : Nat → List (S59) → List Int → Int → Int → Int → Option (Bool)
 | 0, _, _, _, _, _ => none
 | k + 1, x0, x5, x6, x7, x8 => if x7 > 1 then (if 0 ≤ (wrap64 (x7 - 1)) then (if (wrap64 (x7 - 1)) < (x5.length : Int) then (if 0 ≤ (rd x5 (wrap64 (x7 - 1))) then (if (rd x5 (wrap64 (x7 - 1))) < (x0.length : Int) then (if x8 < ((rd_T59 x0 (rd x5 (wrap64 (x7 - 1)))).f1) then (spec_validChain.j2 k x0 x5 x6 x7 true) else (if x8 = ((rd_T59 x0 (rd x5 (wrap64 (x7 - 1)))).f1) then (if x8 = 8 then (if x8 = 9 then (spec_validChain.j2 k x0 x5 x6 x7 (x6 == 0)) else (spec_validChain.j2 k x0 x5 x6 x7 false)) else (spec_validChain.j2 k x0 x5 x6 x7 true)) else (if x8 = 9 then (spec_validChain.j2 k x0 x5 x6 x7 (x6 == 0)) else (spec_validChain.j2 k x0 x5 x6 x7 false)))) else (none)) else (none)) else (none)) else (none)) else (if x8 = 9 then (spec_validChain.j2 k x0 x5 x6 x7 (x6 == 0)) else (spec_validChain.j2 k x0 x5 x6 x7 false))
def spec_validChain.j2 : Nat → List (S59) → List Int → Int → Int → Bool → Option (Bool)
 | 0, _, _, _, _, _ => none
 | k + 1, x0, x5, x6, x7, x69 => if x69 = true then (some false) else (spec_validChain.l0 k x0 x5 x6 (wrap64 (x7 + 1)))
end
def spec_validChain.f (k : Nat) (l0 : List (S59)) (a1 : Int) : Option (Bool) := (spec_chainOf.f k l0 a1).bind fun t135 => (spec_validChain.l0 k l0 t135 0 1)
set_option maxHeartbeats 8000000 in
set_option maxRecDepth 100000 in
theorem spec_validChain.calls (k : Nat) (A0 : Option Addr) (c0 : Nat) (l0 : List (S59)) (a1 : Int) (r : Bool) (w : World) (hr0 : Kd.C k59 w A0 l0.length l0) (hc0 : l0.length ≤ c0) (h : spec_validChain.f k l0 a1 = some r) :
  Calls Try.prog 88 #[.slice A0 l0.length c0, .int .i64 a1] w fun e w' => e = .returned (.bool r) ∧ Below w.heap.size w w' := by
 have HR0 := am hr0
 have HC0 := am hc0
 clear hr0 hc0
 have HB := am (Below.refl w.heap.size w)
 have H : ((spec_chainOf.f k l0 a1).bind fun t135 => (spec_validChain.l0 k l0 t135 0 1)) = some r := h
 clear h
 replace H := Option.bind_eq_some_iff.mp H
 obtain ⟨t135, A30, H⟩ := H
 replace H : (spec_validChain.l0 k l0 t135 0 1) = some r := H
 have A3 := am A30
 clear A30
 have H' := am H
 clear H
 go_enter Try.func88, Try.ntmps88
 go_wp2_with (first | ((with_reducible refine gate_callee (f := 66) rfl ?_); refine gL (some 11) Try.func66 #[.slice A0 l0.length c0, .int .i64 a1] ?_; (with_reducible refine (spec_chainOf.calls k _ _ l0 a1 t135 _ ?side1 ?side2 A3.out).mono ?_); (case side1 => exact Y35); (case side2 => exact HC0.out); rintro e w4 ⟨v136, rfl, ho0, hb⟩; refine ⟨_, rfl, ?_⟩; have HO137 := am (Kd.R_lower ho0 (below_size (bq))); replace HB := am (below_step (bq) hb); (try clear hb); (try clear hb2); (try clear hk); (try clear hi); (try clear ho0)))
 go_loopg [6, 7] k (fun kq v6 v7 w' => ∃ (x6_1 : Int) (x7_1 : Int), v6 = .int .i64 x6_1 ∧ v7 = .int .i64 x7_1 ∧ Aside0 (spec_validChain.l0 kq l0 t135 x6_1 x7_1 = some r) ∧ Aside0 (kq ≤ k) ∧ Aside0 (Kd.R (Kd.int .i64) 3 w' w.heap.size (fun _ => True) v136 t135) ∧ Aside0 (Below w.heap.size w w'))
 case atStart => exact ⟨(0), (1), (sq), (sq), H', ⟨Nat.le_refl _⟩, ⟨rq HO137.out⟩, ⟨bq⟩⟩
 case round =>
  clear H'
  try clear p2
  obtain ⟨x6_1, x7_1, rfl, rfl, HA, HK1, HO_5, HB⟩ := hrel
  cases gk with
  | zero => exact absurd HA.out (by simp [spec_validChain.l0])
  | succ k1 =>
   have H := HA.out
   clear HA
   simp only [spec_validChain.l0] at H
   by_cases c5 : x7_1 < (t135.length : Int)
   ·rw [if_pos c5] at H
    have c5b0 : decide (x7_1 < (t135.length : Int)) = true := decide_eq_true c5
    clear c5
    by_cases c6 : 0 ≤ x7_1
    ·rw [if_pos c6] at H
     have c6b0 : decide (0 ≤ x7_1) = true := decide_eq_true c6
     clear c6
     by_cases c7 : 0 ≤ (rd t135 x7_1)
     ·rw [if_pos c7] at H
      have c7b0 : decide (0 ≤ (rd t135 x7_1)) = true := decide_eq_true c7
      clear c7
      by_cases c8 : (rd t135 x7_1) < (l0.length : Int)
      ·rw [if_pos c8] at H
       have c8b0 : decide ((rd t135 x7_1) < (l0.length : Int)) = true := decide_eq_true c8
       clear c8
       have HC9 := am H
       clear H
       obtain ⟨Ao10, co10, eo10⟩ := Kd.R_slice HO_5.out
       subst eo10
       have p138 : 0 ≤ (x7_1 : Int) := of_decide_eq_true (uq)
       have q138 : x7_1 < (t135.length : Int) := of_decide_eq_true (uq)
       obtain ⟨ad138, e138, hx138_0⟩ := Kd.at_int (Kd.R_reads' HO_5.out).2.2 x7_1 p138 q138
       cases e138
       replace p138 := eq_true p138
       replace q138 := eq_true q138
       have p139 : 0 ≤ ((rd t135 x7_1) : Int) := of_decide_eq_true (uq)
       have q139 : (rd t135 x7_1) < (l0.length : Int) := of_decide_eq_true (uq)
       obtain ⟨ad139, e139, hx139_0, hx139_1, hx139_2, hx139_3⟩ := at_T59 HR0.out (rd t135 x7_1) p139 q139
       cases e139
       replace hx139_0 := cb HB.out hx139_0
       replace hx139_1 := cb HB.out hx139_1
       replace hx139_2 := cb HB.out hx139_2
       replace hx139_3 := cb HB.out hx139_3
       replace p139 := eq_true p139
       replace q139 := eq_true q139
       go_upto_if 27 with (fail)
       go_cut [6] (fun v6 wc => ∃ (kq : Nat) (x6_8 : Int), v6 = .int .i64 x6_8 ∧ Aside0 (spec_validChain.j1 kq l0 t135 x6_8 x7_1 ((rd_T59 l0 (rd t135 x7_1)).f1) = some r) ∧ Aside0 (kq ≤ k1) ∧ Aside0 (Kd.R (Kd.int .i64) 3 wc w.heap.size (fun _ => True) (.slice (some ad138) t135.length co10) t135) ∧ Aside0 (Below w.heap.size w wc))
       case first =>
        have H := HC9.out
        clear HC9
        by_cases c11 : ((rd_T59 l0 (rd t135 x7_1)).f1) = 8
        ·rw [if_pos c11] at H
         have c11b0 : (((rd_T59 l0 (rd t135 x7_1)).f1) == 8) = true := beq_iff_eq.mpr c11
         have c11b1 : (((rd_T59 l0 (rd t135 x7_1)).f1) != 8) = false := bne_eq_false_iff_eq.mpr c11
         clear c11
         (first | rw [c11b0] | (simp only [i64_w, i32_w]; rw [c11b0]) | skip)
         have H' := am H
         clear H
         go_wp2
         go_meet
         case rel => exact ⟨_, (wrap64 (x6_1 + 1)), (sq), H', ⟨by have := HK1.out; first | omega | exact Nat.le_refl _⟩, ⟨rq HO_5.out⟩, ⟨bq⟩⟩
        ·rw [if_neg c11] at H
         have c11b0 : (((rd_T59 l0 (rd t135 x7_1)).f1) == 8) = false := beq_eq_false_iff_ne.mpr c11
         have c11b1 : (((rd_T59 l0 (rd t135 x7_1)).f1) != 8) = true := bne_iff_ne.mpr c11
         (first | rw [c11b0] | (simp only [i64_w, i32_w]; rw [c11b0]) | skip)
         have H' := am H
         clear H
         go_wp2
         go_meet
         case rel => exact ⟨_, (x6_1), (sq), H', ⟨by have := HK1.out; first | omega | exact Nat.le_refl _⟩, ⟨rq HO_5.out⟩, ⟨bq⟩⟩
       case rest =>
        clear HC9
        try clear c1
        try clear p1
        try clear q1
        try clear hx1
        try clear p2
        try clear c5
        try clear c5b0
        try clear c6
        try clear c6b0
        try clear p6
        try clear c7
        try clear c7b0
        try clear c8
        try clear c8b0
        try clear c11
        try clear c11b0
        try clear c11b1
        try clear hx138_0
        try clear hx139_0
        try clear hx139_1
        try clear hx139_2
        try clear hx139_3
        try clear p138
        try clear p139
        try clear p2
        try clear q138
        try clear q139
        obtain ⟨kq, x6_8, rfl, HA, HJ8, HO_5, HB⟩ := hcut
        cases kq with
        | zero => exact absurd HA.out (by simp [spec_validChain.j1])
        | succ kj8 =>
         have H := HA.out
         clear HA
         simp only [spec_validChain.j1] at H
         have HC12 := am H
         clear H
         go_upto_region 9 with (fail)
         go_cut [69] (fun v69 wc => ∃ (kq : Nat) (x69_11 : Bool), v69 = .bool x69_11 ∧ Aside0 (spec_validChain.j2 kq l0 t135 x6_8 x7_1 x69_11 = some r) ∧ Aside0 (kq ≤ kj8) ∧ Aside0 (Kd.R (Kd.int .i64) 3 wc w.heap.size (fun _ => True) (.slice (some ad138) t135.length co10) t135) ∧ Aside0 (Below w.heap.size w wc))
         case first =>
          have H := HC12.out
          clear HC12
          by_cases c13 : x7_1 > 1
          ·rw [if_pos c13] at H
           have c13b0 : decide (1 < x7_1) = true := decide_eq_true c13
           clear c13
           (first | rw [c13b0] | (simp only [i64_w, i32_w]; rw [c13b0]) | skip)
           obtain ⟨ji14, hji14⟩ : ∃ j_ : Int, (wrap64 (x7_1 - 1)) = j_ := ⟨_, rfl⟩
           replace H : (if 0 ≤ (ji14) then (if (ji14) < (t135.length : Int) then (if 0 ≤ (rd t135 (ji14)) then (if (rd t135 (ji14)) < (l0.length : Int) then (if ((rd_T59 l0 (rd t135 x7_1)).f1) < ((rd_T59 l0 (rd t135 (ji14))).f1) then (spec_validChain.j2 kj8 l0 t135 x6_8 x7_1 true) else (if ((rd_T59 l0 (rd t135 x7_1)).f1) = ((rd_T59 l0 (rd t135 (ji14))).f1) then (if ((rd_T59 l0 (rd t135 x7_1)).f1) = 8 then (if ((rd_T59 l0 (rd t135 x7_1)).f1) = 9 then (spec_validChain.j2 kj8 l0 t135 x6_8 x7_1 (x6_8 == 0)) else (spec_validChain.j2 kj8 l0 t135 x6_8 x7_1 false)) else (spec_validChain.j2 kj8 l0 t135 x6_8 x7_1 true)) else (if ((rd_T59 l0 (rd t135 x7_1)).f1) = 9 then (spec_validChain.j2 kj8 l0 t135 x6_8 x7_1 (x6_8 == 0)) else (spec_validChain.j2 kj8 l0 t135 x6_8 x7_1 false)))) else (none)) else (none)) else (none)) else (none)) = some r := by first | (rw [hji14] at H; exact H) | (simp only [hji14] at H ⊢; exact H)
           have hji14w : (IntKind.i64.wrap (x7_1 - 1)) = ji14 := (i64_w _).trans hji14
           by_cases c15 : 0 ≤ (ji14)
           ·rw [if_pos c15] at H
            have c15b0 : decide (0 ≤ (ji14)) = true := decide_eq_true c15
            clear c15
            by_cases c16 : (ji14) < (t135.length : Int)
            ·rw [if_pos c16] at H
             have c16b0 : decide ((ji14) < (t135.length : Int)) = true := decide_eq_true c16
             clear c16
             by_cases c17 : 0 ≤ (rd t135 (ji14))
             ·rw [if_pos c17] at H
              have c17b0 : decide (0 ≤ (rd t135 (ji14))) = true := decide_eq_true c17
              clear c17
              by_cases c18 : (rd t135 (ji14)) < (l0.length : Int)
              ·rw [if_pos c18] at H
               have c18b0 : decide ((rd t135 (ji14)) < (l0.length : Int)) = true := decide_eq_true c18
               clear c18
               by_cases c19 : ((rd_T59 l0 (rd t135 x7_1)).f1) < ((rd_T59 l0 (rd t135 (ji14))).f1)
               ·rw [if_pos c19] at H
                have c19b0 : decide (((rd_T59 l0 (rd t135 x7_1)).f1) < ((rd_T59 l0 (rd t135 (ji14))).f1)) = true := decide_eq_true c19
                clear c19
                have H' := am H
                clear H
                have p140 : 0 ≤ ((ji14) : Int) := of_decide_eq_true (uq)
                have q140 : (ji14) < (t135.length : Int) := of_decide_eq_true (uq)
                obtain ⟨ad140, e140, hx140_0⟩ := Kd.at_int (Kd.R_reads' HO_5.out).2.2 (ji14) p140 q140
                obtain rfl : ad138 = ad140 := (by injection e140)
                replace p140 := eq_true p140
                replace q140 := eq_true q140
                have p141 : 0 ≤ ((rd t135 (ji14)) : Int) := of_decide_eq_true (uq)
                have q141 : (rd t135 (ji14)) < (l0.length : Int) := of_decide_eq_true (uq)
                obtain ⟨ad141, e141, hx141_0, hx141_1, hx141_2, hx141_3⟩ := at_T59 HR0.out (rd t135 (ji14)) p141 q141
                obtain rfl : ad139 = ad141 := (by injection e141)
                replace hx141_0 := cb HB.out hx141_0
                replace hx141_1 := cb HB.out hx141_1
                replace hx141_2 := cb HB.out hx141_2
                replace hx141_3 := cb HB.out hx141_3
                replace p141 := eq_true p141
                replace q141 := eq_true q141
                go_wp2
                go_meet
                case rel => exact ⟨_, (true), (sq), H', ⟨by have := HK1.out; have := HJ8.out; first | omega | exact Nat.le_refl _⟩, ⟨rq HO_5.out⟩, ⟨bq⟩⟩
               ·rw [if_neg c19] at H
                have c19b0 : decide (((rd_T59 l0 (rd t135 x7_1)).f1) < ((rd_T59 l0 (rd t135 (ji14))).f1)) = false := decide_eq_false c19
                clear c19
                by_cases c20 : ((rd_T59 l0 (rd t135 x7_1)).f1) = ((rd_T59 l0 (rd t135 (ji14))).f1)
                ·rw [if_pos c20] at H
                 have c20b0 : (((rd_T59 l0 (rd t135 x7_1)).f1) == ((rd_T59 l0 (rd t135 (ji14))).f1)) = true := beq_iff_eq.mpr c20
                 have c20b1 : (((rd_T59 l0 (rd t135 x7_1)).f1) != ((rd_T59 l0 (rd t135 (ji14))).f1)) = false := bne_eq_false_iff_eq.mpr c20
                 clear c20
                 by_cases c21 : ((rd_T59 l0 (rd t135 x7_1)).f1) = 8
                 ·rw [if_pos c21] at H
                  have c21b0 : (((rd_T59 l0 (rd t135 x7_1)).f1) == 8) = true := beq_iff_eq.mpr c21
                  have c21b1 : (((rd_T59 l0 (rd t135 x7_1)).f1) != 8) = false := bne_eq_false_iff_eq.mpr c21
                  clear c21
                  by_cases c22 : ((rd_T59 l0 (rd t135 x7_1)).f1) = 9
                  ·rw [if_pos c22] at H
                   have c22b0 : (((rd_T59 l0 (rd t135 x7_1)).f1) == 9) = true := beq_iff_eq.mpr c22
                   have c22b1 : (((rd_T59 l0 (rd t135 x7_1)).f1) != 9) = false := bne_eq_false_iff_eq.mpr c22
                   clear c22
                   have H' := am H
                   clear H
                   have p140 : 0 ≤ ((ji14) : Int) := of_decide_eq_true (uq)
                   have q140 : (ji14) < (t135.length : Int) := of_decide_eq_true (uq)
                   obtain ⟨ad140, e140, hx140_0⟩ := Kd.at_int (Kd.R_reads' HO_5.out).2.2 (ji14) p140 q140
                   obtain rfl : ad138 = ad140 := (by injection e140)
                   replace p140 := eq_true p140
                   replace q140 := eq_true q140
                   have p141 : 0 ≤ ((rd t135 (ji14)) : Int) := of_decide_eq_true (uq)
                   have q141 : (rd t135 (ji14)) < (l0.length : Int) := of_decide_eq_true (uq)
                   obtain ⟨ad141, e141, hx141_0, hx141_1, hx141_2, hx141_3⟩ := at_T59 HR0.out (rd t135 (ji14)) p141 q141
                   obtain rfl : ad139 = ad141 := (by injection e141)
                   replace hx141_0 := cb HB.out hx141_0
                   replace hx141_1 := cb HB.out hx141_1
                   replace hx141_2 := cb HB.out hx141_2
                   replace hx141_3 := cb HB.out hx141_3
                   replace p141 := eq_true p141
                   replace q141 := eq_true q141
                   have p142 : 0 ≤ ((ji14) : Int) := of_decide_eq_true (uq)
                   have q142 : (ji14) < (t135.length : Int) := of_decide_eq_true (uq)
                   obtain ⟨ad142, e142, hx142_0⟩ := Kd.at_int (Kd.R_reads' HO_5.out).2.2 (ji14) p142 q142
                   obtain rfl : ad138 = ad142 := (by injection e142)
                   replace p142 := eq_true p142
                   replace q142 := eq_true q142
                   have p143 : 0 ≤ ((rd t135 (ji14)) : Int) := of_decide_eq_true (uq)
                   have q143 : (rd t135 (ji14)) < (l0.length : Int) := of_decide_eq_true (uq)
                   obtain ⟨ad143, e143, hx143_0, hx143_1, hx143_2, hx143_3⟩ := at_T59 HR0.out (rd t135 (ji14)) p143 q143
                   obtain rfl : ad139 = ad143 := (by injection e143)
                   replace hx143_0 := cb HB.out hx143_0
                   replace hx143_1 := cb HB.out hx143_1
                   replace hx143_2 := cb HB.out hx143_2
                   replace hx143_3 := cb HB.out hx143_3
                   replace p143 := eq_true p143
                   replace q143 := eq_true q143
                   go_wp2
                   go_meet
                   case rel => exact ⟨_, ((x6_8 == 0)), (sq), H', ⟨by have := HK1.out; have := HJ8.out; first | omega | exact Nat.le_refl _⟩, ⟨rq HO_5.out⟩, ⟨bq⟩⟩
                  ·rw [if_neg c22] at H
                   have c22b0 : (((rd_T59 l0 (rd t135 x7_1)).f1) == 9) = false := beq_eq_false_iff_ne.mpr c22
                   have c22b1 : (((rd_T59 l0 (rd t135 x7_1)).f1) != 9) = true := bne_iff_ne.mpr c22
                   have H' := am H
                   clear H
                   have p140 : 0 ≤ ((ji14) : Int) := of_decide_eq_true (uq)
                   have q140 : (ji14) < (t135.length : Int) := of_decide_eq_true (uq)
                   obtain ⟨ad140, e140, hx140_0⟩ := Kd.at_int (Kd.R_reads' HO_5.out).2.2 (ji14) p140 q140
                   obtain rfl : ad138 = ad140 := (by injection e140)
                   replace p140 := eq_true p140
                   replace q140 := eq_true q140
                   have p141 : 0 ≤ ((rd t135 (ji14)) : Int) := of_decide_eq_true (uq)
                   have q141 : (rd t135 (ji14)) < (l0.length : Int) := of_decide_eq_true (uq)
                   obtain ⟨ad141, e141, hx141_0, hx141_1, hx141_2, hx141_3⟩ := at_T59 HR0.out (rd t135 (ji14)) p141 q141
                   obtain rfl : ad139 = ad141 := (by injection e141)
                   replace hx141_0 := cb HB.out hx141_0
                   replace hx141_1 := cb HB.out hx141_1
                   replace hx141_2 := cb HB.out hx141_2
                   replace hx141_3 := cb HB.out hx141_3
                   replace p141 := eq_true p141
                   replace q141 := eq_true q141
                   have p142 : 0 ≤ ((ji14) : Int) := of_decide_eq_true (uq)
                   have q142 : (ji14) < (t135.length : Int) := of_decide_eq_true (uq)
                   obtain ⟨ad142, e142, hx142_0⟩ := Kd.at_int (Kd.R_reads' HO_5.out).2.2 (ji14) p142 q142
                   obtain rfl : ad138 = ad142 := (by injection e142)
                   replace p142 := eq_true p142
                   replace q142 := eq_true q142
                   have p143 : 0 ≤ ((rd t135 (ji14)) : Int) := of_decide_eq_true (uq)
                   have q143 : (rd t135 (ji14)) < (l0.length : Int) := of_decide_eq_true (uq)
                   obtain ⟨ad143, e143, hx143_0, hx143_1, hx143_2, hx143_3⟩ := at_T59 HR0.out (rd t135 (ji14)) p143 q143
                   obtain rfl : ad139 = ad143 := (by injection e143)
                   replace hx143_0 := cb HB.out hx143_0
                   replace hx143_1 := cb HB.out hx143_1
                   replace hx143_2 := cb HB.out hx143_2
                   replace hx143_3 := cb HB.out hx143_3
                   replace p143 := eq_true p143
                   replace q143 := eq_true q143
                   go_wp2
                   go_meet
                   case rel => exact ⟨_, (false), (sq), H', ⟨by have := HK1.out; have := HJ8.out; first | omega | exact Nat.le_refl _⟩, ⟨rq HO_5.out⟩, ⟨bq⟩⟩
                 ·rw [if_neg c21] at H
                  have c21b0 : (((rd_T59 l0 (rd t135 x7_1)).f1) == 8) = false := beq_eq_false_iff_ne.mpr c21
                  have c21b1 : (((rd_T59 l0 (rd t135 x7_1)).f1) != 8) = true := bne_iff_ne.mpr c21
                  have H' := am H
                  clear H
                  have p140 : 0 ≤ ((ji14) : Int) := of_decide_eq_true (uq)
                  have q140 : (ji14) < (t135.length : Int) := of_decide_eq_true (uq)
                  obtain ⟨ad140, e140, hx140_0⟩ := Kd.at_int (Kd.R_reads' HO_5.out).2.2 (ji14) p140 q140
                  obtain rfl : ad138 = ad140 := (by injection e140)
                  replace p140 := eq_true p140
                  replace q140 := eq_true q140
                  have p141 : 0 ≤ ((rd t135 (ji14)) : Int) := of_decide_eq_true (uq)
                  have q141 : (rd t135 (ji14)) < (l0.length : Int) := of_decide_eq_true (uq)
                  obtain ⟨ad141, e141, hx141_0, hx141_1, hx141_2, hx141_3⟩ := at_T59 HR0.out (rd t135 (ji14)) p141 q141
                  obtain rfl : ad139 = ad141 := (by injection e141)
                  replace hx141_0 := cb HB.out hx141_0
                  replace hx141_1 := cb HB.out hx141_1
                  replace hx141_2 := cb HB.out hx141_2
                  replace hx141_3 := cb HB.out hx141_3
                  replace p141 := eq_true p141
                  replace q141 := eq_true q141
                  have p142 : 0 ≤ ((ji14) : Int) := of_decide_eq_true (uq)
                  have q142 : (ji14) < (t135.length : Int) := of_decide_eq_true (uq)
                  obtain ⟨ad142, e142, hx142_0⟩ := Kd.at_int (Kd.R_reads' HO_5.out).2.2 (ji14) p142 q142
                  obtain rfl : ad138 = ad142 := (by injection e142)
                  replace p142 := eq_true p142
                  replace q142 := eq_true q142
                  have p143 : 0 ≤ ((rd t135 (ji14)) : Int) := of_decide_eq_true (uq)
                  have q143 : (rd t135 (ji14)) < (l0.length : Int) := of_decide_eq_true (uq)
                  obtain ⟨ad143, e143, hx143_0, hx143_1, hx143_2, hx143_3⟩ := at_T59 HR0.out (rd t135 (ji14)) p143 q143
                  obtain rfl : ad139 = ad143 := (by injection e143)
                  replace hx143_0 := cb HB.out hx143_0
                  replace hx143_1 := cb HB.out hx143_1
                  replace hx143_2 := cb HB.out hx143_2
                  replace hx143_3 := cb HB.out hx143_3
                  replace p143 := eq_true p143
                  replace q143 := eq_true q143
                  go_wp2
                  go_meet
                  case rel => exact ⟨_, (true), (sq), H', ⟨by have := HK1.out; have := HJ8.out; first | omega | exact Nat.le_refl _⟩, ⟨rq HO_5.out⟩, ⟨bq⟩⟩
                ·rw [if_neg c20] at H
                 have c20b0 : (((rd_T59 l0 (rd t135 x7_1)).f1) == ((rd_T59 l0 (rd t135 (ji14))).f1)) = false := beq_eq_false_iff_ne.mpr c20
                 have c20b1 : (((rd_T59 l0 (rd t135 x7_1)).f1) != ((rd_T59 l0 (rd t135 (ji14))).f1)) = true := bne_iff_ne.mpr c20
                 by_cases c23 : ((rd_T59 l0 (rd t135 x7_1)).f1) = 9
                 ·rw [if_pos c23] at H
                  have c23b0 : (((rd_T59 l0 (rd t135 x7_1)).f1) == 9) = true := beq_iff_eq.mpr c23
                  have c23b1 : (((rd_T59 l0 (rd t135 x7_1)).f1) != 9) = false := bne_eq_false_iff_eq.mpr c23
                  clear c23
                  have H' := am H
                  clear H
                  have p140 : 0 ≤ ((ji14) : Int) := of_decide_eq_true (uq)
                  have q140 : (ji14) < (t135.length : Int) := of_decide_eq_true (uq)
                  obtain ⟨ad140, e140, hx140_0⟩ := Kd.at_int (Kd.R_reads' HO_5.out).2.2 (ji14) p140 q140
                  obtain rfl : ad138 = ad140 := (by injection e140)
                  replace p140 := eq_true p140
                  replace q140 := eq_true q140
                  have p141 : 0 ≤ ((rd t135 (ji14)) : Int) := of_decide_eq_true (uq)
                  have q141 : (rd t135 (ji14)) < (l0.length : Int) := of_decide_eq_true (uq)
                  obtain ⟨ad141, e141, hx141_0, hx141_1, hx141_2, hx141_3⟩ := at_T59 HR0.out (rd t135 (ji14)) p141 q141
                  obtain rfl : ad139 = ad141 := (by injection e141)
                  replace hx141_0 := cb HB.out hx141_0
                  replace hx141_1 := cb HB.out hx141_1
                  replace hx141_2 := cb HB.out hx141_2
                  replace hx141_3 := cb HB.out hx141_3
                  replace p141 := eq_true p141
                  replace q141 := eq_true q141
                  have p142 : 0 ≤ ((ji14) : Int) := of_decide_eq_true (uq)
                  have q142 : (ji14) < (t135.length : Int) := of_decide_eq_true (uq)
                  obtain ⟨ad142, e142, hx142_0⟩ := Kd.at_int (Kd.R_reads' HO_5.out).2.2 (ji14) p142 q142
                  obtain rfl : ad138 = ad142 := (by injection e142)
                  replace p142 := eq_true p142
                  replace q142 := eq_true q142
                  have p143 : 0 ≤ ((rd t135 (ji14)) : Int) := of_decide_eq_true (uq)
                  have q143 : (rd t135 (ji14)) < (l0.length : Int) := of_decide_eq_true (uq)
                  obtain ⟨ad143, e143, hx143_0, hx143_1, hx143_2, hx143_3⟩ := at_T59 HR0.out (rd t135 (ji14)) p143 q143
                  obtain rfl : ad139 = ad143 := (by injection e143)
                  replace hx143_0 := cb HB.out hx143_0
                  replace hx143_1 := cb HB.out hx143_1
                  replace hx143_2 := cb HB.out hx143_2
                  replace hx143_3 := cb HB.out hx143_3
                  replace p143 := eq_true p143
                  replace q143 := eq_true q143
                  go_wp2
                  go_meet
                  case rel => exact ⟨_, ((x6_8 == 0)), (sq), H', ⟨by have := HK1.out; have := HJ8.out; first | omega | exact Nat.le_refl _⟩, ⟨rq HO_5.out⟩, ⟨bq⟩⟩
                 ·rw [if_neg c23] at H
                  have c23b0 : (((rd_T59 l0 (rd t135 x7_1)).f1) == 9) = false := beq_eq_false_iff_ne.mpr c23
                  have c23b1 : (((rd_T59 l0 (rd t135 x7_1)).f1) != 9) = true := bne_iff_ne.mpr c23
                  have H' := am H
                  clear H
                  have p140 : 0 ≤ ((ji14) : Int) := of_decide_eq_true (uq)
                  have q140 : (ji14) < (t135.length : Int) := of_decide_eq_true (uq)
                  obtain ⟨ad140, e140, hx140_0⟩ := Kd.at_int (Kd.R_reads' HO_5.out).2.2 (ji14) p140 q140
                  obtain rfl : ad138 = ad140 := (by injection e140)
                  replace p140 := eq_true p140
                  replace q140 := eq_true q140
                  have p141 : 0 ≤ ((rd t135 (ji14)) : Int) := of_decide_eq_true (uq)
                  have q141 : (rd t135 (ji14)) < (l0.length : Int) := of_decide_eq_true (uq)
                  obtain ⟨ad141, e141, hx141_0, hx141_1, hx141_2, hx141_3⟩ := at_T59 HR0.out (rd t135 (ji14)) p141 q141
                  obtain rfl : ad139 = ad141 := (by injection e141)
                  replace hx141_0 := cb HB.out hx141_0
                  replace hx141_1 := cb HB.out hx141_1
                  replace hx141_2 := cb HB.out hx141_2
                  replace hx141_3 := cb HB.out hx141_3
                  replace p141 := eq_true p141
                  replace q141 := eq_true q141
                  have p142 : 0 ≤ ((ji14) : Int) := of_decide_eq_true (uq)
                  have q142 : (ji14) < (t135.length : Int) := of_decide_eq_true (uq)
                  obtain ⟨ad142, e142, hx142_0⟩ := Kd.at_int (Kd.R_reads' HO_5.out).2.2 (ji14) p142 q142
                  obtain rfl : ad138 = ad142 := (by injection e142)
                  replace p142 := eq_true p142
                  replace q142 := eq_true q142
                  have p143 : 0 ≤ ((rd t135 (ji14)) : Int) := of_decide_eq_true (uq)
                  have q143 : (rd t135 (ji14)) < (l0.length : Int) := of_decide_eq_true (uq)
                  obtain ⟨ad143, e143, hx143_0, hx143_1, hx143_2, hx143_3⟩ := at_T59 HR0.out (rd t135 (ji14)) p143 q143
                  obtain rfl : ad139 = ad143 := (by injection e143)
                  replace hx143_0 := cb HB.out hx143_0
                  replace hx143_1 := cb HB.out hx143_1
                  replace hx143_2 := cb HB.out hx143_2
                  replace hx143_3 := cb HB.out hx143_3
                  replace p143 := eq_true p143
                  replace q143 := eq_true q143
                  go_wp2
                  go_meet
                  case rel => exact ⟨_, (false), (sq), H', ⟨by have := HK1.out; have := HJ8.out; first | omega | exact Nat.le_refl _⟩, ⟨rq HO_5.out⟩, ⟨bq⟩⟩
              ·rw [if_neg c18] at H
               exact absurd H (by simp)
             ·rw [if_neg c17] at H
              exact absurd H (by simp)
            ·rw [if_neg c16] at H
             exact absurd H (by simp)
           ·rw [if_neg c15] at H
            exact absurd H (by simp)
          ·rw [if_neg c13] at H
           have c13b0 : decide (1 < x7_1) = false := decide_eq_false c13
           clear c13
           (first | rw [c13b0] | (simp only [i64_w, i32_w]; rw [c13b0]) | skip)
           by_cases c24 : ((rd_T59 l0 (rd t135 x7_1)).f1) = 9
           ·rw [if_pos c24] at H
            have c24b0 : (((rd_T59 l0 (rd t135 x7_1)).f1) == 9) = true := beq_iff_eq.mpr c24
            have c24b1 : (((rd_T59 l0 (rd t135 x7_1)).f1) != 9) = false := bne_eq_false_iff_eq.mpr c24
            clear c24
            have H' := am H
            clear H
            go_wp2
            go_meet
            case rel => exact ⟨_, ((x6_8 == 0)), (sq), H', ⟨by have := HK1.out; have := HJ8.out; first | omega | exact Nat.le_refl _⟩, ⟨rq HO_5.out⟩, ⟨bq⟩⟩
           ·rw [if_neg c24] at H
            have c24b0 : (((rd_T59 l0 (rd t135 x7_1)).f1) == 9) = false := beq_eq_false_iff_ne.mpr c24
            have c24b1 : (((rd_T59 l0 (rd t135 x7_1)).f1) != 9) = true := bne_iff_ne.mpr c24
            have H' := am H
            clear H
            go_wp2
            go_meet
            case rel => exact ⟨_, (false), (sq), H', ⟨by have := HK1.out; have := HJ8.out; first | omega | exact Nat.le_refl _⟩, ⟨rq HO_5.out⟩, ⟨bq⟩⟩
         case rest =>
          clear HC12
          try clear c1
          try clear p1
          try clear q1
          try clear hx1
          try clear c2
          try clear p2
          try clear c5
          try clear c5b0
          try clear c6
          try clear c6b0
          try clear p6
          try clear c7
          try clear c7b0
          try clear c8
          try clear c8b0
          try clear c11
          try clear c11b0
          try clear c11b1
          try clear c13
          try clear c13b0
          try clear p13
          try clear q13
          try clear hx13
          try clear p14
          try clear q14
          try clear hx14
          try clear c15
          try clear c15b0
          try clear c16
          try clear c16b0
          try clear c17
          try clear c17b0
          try clear c18
          try clear c18b0
          try clear c19
          try clear c19b0
          try clear c20
          try clear c20b0
          try clear c20b1
          try clear c21
          try clear c21b0
          try clear c21b1
          try clear c22
          try clear c22b0
          try clear c22b1
          try clear c23
          try clear c23b0
          try clear c23b1
          try clear c24
          try clear c24b0
          try clear c24b1
          try clear hx138_0
          try clear hx139_0
          try clear hx139_1
          try clear hx139_2
          try clear hx139_3
          try clear hx140_0
          try clear hx141_0
          try clear hx141_1
          try clear hx141_2
          try clear hx141_3
          try clear hx142_0
          try clear hx143_0
          try clear hx143_1
          try clear hx143_2
          try clear hx143_3
          try clear p1
          try clear p138
          try clear p139
          try clear p140
          try clear p141
          try clear p142
          try clear p143
          try clear p2
          try clear p6
          try clear q1
          try clear q138
          try clear q139
          try clear q140
          try clear q141
          try clear q142
          try clear q143
          obtain ⟨kq, x69_11, rfl, HA, HJ11, HO_5, HB⟩ := hcut
          cases kq with
          | zero => exact absurd HA.out (by simp [spec_validChain.j2])
          | succ kj11 =>
           have H := HA.out
           clear HA
           simp only [spec_validChain.j2] at H
           by_cases c25 : x69_11 = true
           ·subst c25
            have H1 : (some false) = some r := by rw [if_pos rfl] at H; exact H
            clear H
            have H := H1
            clear H1
            obtain rfl := Option.some.inj H
            go_wp2
            go_ret
            exact ⟨Y0, bq⟩
           ·replace c25 := Bool.eq_false_iff.mpr c25
            subst c25
            have H1 : (spec_validChain.l0 kj11 l0 t135 x6_8 (wrap64 (x7_1 + 1))) = some r := by rw [if_neg (show ¬ (false = true) by decide)] at H; exact H
            clear H
            have H := H1
            clear H1
            have H' := am H
            clear H
            go_wp2
            go_roundg kj11
            case measure => have := HK1.out; have := HJ8.out; have := HJ11.out; omega
            case rel => exact ⟨(x6_8), (wrap64 (x7_1 + 1)), (sq), (sq), H', ⟨by have := HK1.out; have := HJ8.out; have := HJ11.out; omega⟩, ⟨rq HO_5.out⟩, ⟨bq⟩⟩
      ·rw [if_neg c8] at H
       exact absurd H (by simp)
     ·rw [if_neg c7] at H
      exact absurd H (by simp)
    ·rw [if_neg c6] at H
     exact absurd H (by simp)
   ·rw [if_neg c5] at H
    have c5b0 : decide (x7_1 < (t135.length : Int)) = false := decide_eq_false c5
    clear c5
    by_cases c26 : (t135.length : Int) > 1
    ·rw [if_pos c26] at H
     have c26b0 : decide (1 < (t135.length : Int)) = true := decide_eq_true c26
     have c26b1 : decide (1 < t135.length) = true := decide_eq_true (by omega)
     clear c26
     obtain rfl := Option.some.inj H
     obtain ⟨Ao27, co27, eo27⟩ := Kd.R_slice HO_5.out
     subst eo27
     go_wp2
     go_ret
     exact ⟨Y0, bq⟩
    ·rw [if_neg c26] at H
     have c26b0 : decide (1 < (t135.length : Int)) = false := decide_eq_false c26
     have c26b1 : decide (1 < t135.length) = false := decide_eq_false (by omega)
     clear c26
     obtain rfl := Option.some.inj H
     obtain ⟨Ao28, co28, eo28⟩ := Kd.R_slice HO_5.out
     subst eo28
     go_wp2
     go_ret
     exact ⟨Y0, bq⟩
def spec_inLoop.l0 : Nat → List (S59) → Int → Int → Option (Bool)
 | 0, _, _, _ => none
 | k + 1, x0, x5, x6 => if x6 ≥ 0 then (if 0 ≤ x6 then (if x6 < (x0.length : Int) then (if ((rd_T59 x0 x6).f0) < x5 then (if ((rd_T59 x0 x6).f1) = 12 then (some true) else (spec_inLoop.l0 k x0 ((rd_T59 x0 x6).f0) (wrap64 (x6 - 1)))) else (spec_inLoop.l0 k x0 x5 (wrap64 (x6 - 1)))) else (none)) else (none)) else (some false)
def spec_inLoop.f (k : Nat) (l0 : List (S59)) (a1 : Int) : Option (Bool) := if 0 ≤ a1 then (if a1 < (l0.length : Int) then (spec_inLoop.l0 k l0 ((rd_T59 l0 a1).f0) (wrap64 (a1 - 1))) else (none)) else (none)
set_option maxHeartbeats 8000000 in
set_option maxRecDepth 100000 in
theorem spec_inLoop.calls (k : Nat) (A0 : Option Addr) (c0 : Nat) (l0 : List (S59)) (a1 : Int) (r : Bool) (w : World) (hr0 : Kd.C k59 w A0 l0.length l0) (hc0 : l0.length ≤ c0) (h : spec_inLoop.f k l0 a1 = some r) :
  Calls Try.prog 89 #[.slice A0 l0.length c0, .int .i64 a1] w fun e w' => e = .returned (.bool r) ∧ Drawn0 w w' := by
 have HR0 := am hr0
 have HC0 := am hc0
 clear hr0 hc0
 have H : (if 0 ≤ a1 then (if a1 < (l0.length : Int) then (spec_inLoop.l0 k l0 ((rd_T59 l0 a1).f0) (wrap64 (a1 - 1))) else (none)) else (none)) = some r := h
 clear h
 by_cases c3 : 0 ≤ a1
 ·rw [if_pos c3] at H
  have c3b0 : decide (0 ≤ a1) = true := decide_eq_true c3
  clear c3
  by_cases c4 : a1 < (l0.length : Int)
  ·rw [if_pos c4] at H
   have c4b0 : decide (a1 < (l0.length : Int)) = true := decide_eq_true c4
   clear c4
   have H' := am H
   clear H
   have p144 : 0 ≤ (a1 : Int) := of_decide_eq_true (uq)
   have q144 : a1 < (l0.length : Int) := of_decide_eq_true (uq)
   obtain ⟨ad144, e144, hx144_0, hx144_1, hx144_2, hx144_3⟩ := at_T59 HR0.out a1 p144 q144
   cases e144
   replace p144 := eq_true p144
   replace q144 := eq_true q144
   go_enter Try.func89, Try.ntmps89
   go_wp2
   go_loopg [5, 6] k (fun kq v5 v6 w' => ∃ (x5_1 : Int) (x6_1 : Int), v5 = .int .i64 x5_1 ∧ v6 = .int .i64 x6_1 ∧ Aside0 (spec_inLoop.l0 kq l0 x5_1 x6_1 = some r) ∧ Aside0 (kq ≤ k) ∧ Drawn0 w w')
   case atStart => exact ⟨((rd_T59 l0 a1).f0), (wrap64 (a1 - 1)), (sq), (sq), H', ⟨Nat.le_refl _⟩, Y8⟩
   case round =>
    clear H'
    try clear p1
    try clear q1
    try clear hx1
    try clear p2
    try clear c3
    try clear c3b0
    try clear c4
    try clear c4b0
    try clear hx144_0
    try clear hx144_1
    try clear hx144_2
    try clear hx144_3
    try clear p144
    try clear q144
    obtain ⟨x5_1, x6_1, rfl, rfl, HA, HK1, ⟨m1, rfl⟩⟩ := hrel
    cases gk with
    | zero => exact absurd HA.out (by simp [spec_inLoop.l0])
    | succ k1 =>
     have H := HA.out
     clear HA
     simp only [spec_inLoop.l0] at H
     by_cases c5 : x6_1 ≥ 0
     ·rw [if_pos c5] at H
      have c5b0 : decide (0 ≤ x6_1) = true := decide_eq_true c5
      clear c5
      by_cases c6 : 0 ≤ x6_1
      ·rw [if_pos c6] at H
       have c6b0 : decide (0 ≤ x6_1) = true := decide_eq_true c6
       clear c6
       by_cases c7 : x6_1 < (l0.length : Int)
       ·rw [if_pos c7] at H
        have c7b0 : decide (x6_1 < (l0.length : Int)) = true := decide_eq_true c7
        clear c7
        by_cases c8 : ((rd_T59 l0 x6_1).f0) < x5_1
        ·rw [if_pos c8] at H
         have c8b0 : decide (((rd_T59 l0 x6_1).f0) < x5_1) = true := decide_eq_true c8
         clear c8
         by_cases c9 : ((rd_T59 l0 x6_1).f1) = 12
         ·rw [if_pos c9] at H
          have c9b0 : (((rd_T59 l0 x6_1).f1) == 12) = true := beq_iff_eq.mpr c9
          have c9b1 : (((rd_T59 l0 x6_1).f1) != 12) = false := bne_eq_false_iff_eq.mpr c9
          clear c9
          obtain rfl := Option.some.inj H
          have p145 : 0 ≤ (x6_1 : Int) := of_decide_eq_true (uq)
          have q145 : x6_1 < (l0.length : Int) := of_decide_eq_true (uq)
          obtain ⟨ad145, e145, hx145_0, hx145_1, hx145_2, hx145_3⟩ := at_T59 HR0.out x6_1 p145 q145
          obtain rfl : ad144 = ad145 := (by injection e145)
          replace p145 := eq_true p145
          replace q145 := eq_true q145
          have p146 : 0 ≤ (x6_1 : Int) := of_decide_eq_true (uq)
          have q146 : x6_1 < (l0.length : Int) := of_decide_eq_true (uq)
          obtain ⟨ad146, e146, hx146_0, hx146_1, hx146_2, hx146_3⟩ := at_T59 HR0.out x6_1 p146 q146
          obtain rfl : ad144 = ad146 := (by injection e146)
          replace p146 := eq_true p146
          replace q146 := eq_true q146
          have p147 : 0 ≤ (x6_1 : Int) := of_decide_eq_true (uq)
          have q147 : x6_1 < (l0.length : Int) := of_decide_eq_true (uq)
          obtain ⟨ad147, e147, hx147_0, hx147_1, hx147_2, hx147_3⟩ := at_T59 HR0.out x6_1 p147 q147
          obtain rfl : ad144 = ad147 := (by injection e147)
          replace p147 := eq_true p147
          replace q147 := eq_true q147
          go_wp2
          go_ret
          exact ⟨sq, Y8⟩
         ·rw [if_neg c9] at H
          have c9b0 : (((rd_T59 l0 x6_1).f1) == 12) = false := beq_eq_false_iff_ne.mpr c9
          have c9b1 : (((rd_T59 l0 x6_1).f1) != 12) = true := bne_iff_ne.mpr c9
          have H' := am H
          clear H
          have p145 : 0 ≤ (x6_1 : Int) := of_decide_eq_true (uq)
          have q145 : x6_1 < (l0.length : Int) := of_decide_eq_true (uq)
          obtain ⟨ad145, e145, hx145_0, hx145_1, hx145_2, hx145_3⟩ := at_T59 HR0.out x6_1 p145 q145
          obtain rfl : ad144 = ad145 := (by injection e145)
          replace p145 := eq_true p145
          replace q145 := eq_true q145
          have p146 : 0 ≤ (x6_1 : Int) := of_decide_eq_true (uq)
          have q146 : x6_1 < (l0.length : Int) := of_decide_eq_true (uq)
          obtain ⟨ad146, e146, hx146_0, hx146_1, hx146_2, hx146_3⟩ := at_T59 HR0.out x6_1 p146 q146
          obtain rfl : ad144 = ad146 := (by injection e146)
          replace p146 := eq_true p146
          replace q146 := eq_true q146
          have p147 : 0 ≤ (x6_1 : Int) := of_decide_eq_true (uq)
          have q147 : x6_1 < (l0.length : Int) := of_decide_eq_true (uq)
          obtain ⟨ad147, e147, hx147_0, hx147_1, hx147_2, hx147_3⟩ := at_T59 HR0.out x6_1 p147 q147
          obtain rfl : ad144 = ad147 := (by injection e147)
          replace p147 := eq_true p147
          replace q147 := eq_true q147
          go_wp2
          go_roundg k1
          case measure => have := HK1.out; omega
          case rel => exact ⟨((rd_T59 l0 x6_1).f0), (wrap64 (x6_1 - 1)), (sq), (sq), H', ⟨by have := HK1.out; omega⟩, Y8⟩
        ·rw [if_neg c8] at H
         have c8b0 : decide (((rd_T59 l0 x6_1).f0) < x5_1) = false := decide_eq_false c8
         clear c8
         have H' := am H
         clear H
         have p145 : 0 ≤ (x6_1 : Int) := of_decide_eq_true (uq)
         have q145 : x6_1 < (l0.length : Int) := of_decide_eq_true (uq)
         obtain ⟨ad145, e145, hx145_0, hx145_1, hx145_2, hx145_3⟩ := at_T59 HR0.out x6_1 p145 q145
         obtain rfl : ad144 = ad145 := (by injection e145)
         replace p145 := eq_true p145
         replace q145 := eq_true q145
         go_wp2
         go_roundg k1
         case measure => have := HK1.out; omega
         case rel => exact ⟨(x5_1), (wrap64 (x6_1 - 1)), (sq), (sq), H', ⟨by have := HK1.out; omega⟩, Y8⟩
       ·rw [if_neg c7] at H
        exact absurd H (by simp)
      ·rw [if_neg c6] at H
       exact absurd H (by simp)
     ·rw [if_neg c5] at H
      have c5b0 : decide (0 ≤ x6_1) = false := decide_eq_false c5
      clear c5
      obtain rfl := Option.some.inj H
      go_wp2
      go_ret
      exact ⟨sq, Y8⟩
  ·rw [if_neg c4] at H
   exact absurd H (by simp)
 ·rw [if_neg c3] at H
  exact absurd H (by simp)
def spec_headOf.l0 : Nat → List (S59) → Int → Int → Option (Int)
 | 0, _, _, _ => none
 | k + 1, x0, x1, x5 => if x5 ≥ 0 then (if 0 ≤ x5 then (if x5 < (x0.length : Int) then (if 0 ≤ x1 then (if x1 < (x0.length : Int) then (if ((rd_T59 x0 x5).f0) < ((rd_T59 x0 x1).f0) then (some (-1)) else (if ((rd_T59 x0 x5).f0) = ((rd_T59 x0 x1).f0) then (some x5) else (spec_headOf.l0 k x0 x1 (wrap64 (x5 - 1))))) else (none)) else (none)) else (none)) else (none)) else (some (-1))
def spec_headOf.f (k : Nat) (l0 : List (S59)) (a1 : Int) : Option (Int) := spec_headOf.l0 k l0 a1 (wrap64 (a1 - 1))
set_option maxHeartbeats 8000000 in
set_option maxRecDepth 100000 in
theorem spec_headOf.calls (k : Nat) (A0 : Option Addr) (c0 : Nat) (l0 : List (S59)) (a1 : Int) (r : Int) (w : World) (hr0 : Kd.C k59 w A0 l0.length l0) (hc0 : l0.length ≤ c0) (h : spec_headOf.f k l0 a1 = some r) :
  Calls Try.prog 91 #[.slice A0 l0.length c0, .int .i64 a1] w fun e w' => e = .returned (.int .i64 r) ∧ Drawn0 w w' := by
 have HR0 := am hr0
 have HC0 := am hc0
 clear hr0 hc0
 have H : (spec_headOf.l0 k l0 a1 (wrap64 (a1 - 1))) = some r := h
 clear h
 have H' := am H
 clear H
 go_enter Try.func91, Try.ntmps91
 go_wp2
 repeat (go_quiet (fail); try go_wp2)
 go_loopg [5] k (fun kq v5 w' => ∃ (x5_1 : Int), v5 = .int .i64 x5_1 ∧ Aside0 (spec_headOf.l0 kq l0 a1 x5_1 = some r) ∧ Aside0 (kq ≤ k) ∧ Drawn0 w w')
 case atStart => exact ⟨(wrap64 (a1 - 1)), (sq), H', ⟨Nat.le_refl _⟩, Y8⟩
 case round =>
  clear H'
  try clear p2
  obtain ⟨x5_1, rfl, HA, HK1, ⟨m1, rfl⟩⟩ := hrel
  cases gk with
  | zero => exact absurd HA.out (by simp [spec_headOf.l0])
  | succ k1 =>
   have H := HA.out
   clear HA
   simp only [spec_headOf.l0] at H
   by_cases c3 : x5_1 ≥ 0
   ·rw [if_pos c3] at H
    have c3b0 : decide (0 ≤ x5_1) = true := decide_eq_true c3
    clear c3
    by_cases c4 : 0 ≤ x5_1
    ·rw [if_pos c4] at H
     have c4b0 : decide (0 ≤ x5_1) = true := decide_eq_true c4
     clear c4
     by_cases c5 : x5_1 < (l0.length : Int)
     ·rw [if_pos c5] at H
      have c5b0 : decide (x5_1 < (l0.length : Int)) = true := decide_eq_true c5
      clear c5
      by_cases c6 : 0 ≤ a1
      ·rw [if_pos c6] at H
       have c6b0 : decide (0 ≤ a1) = true := decide_eq_true c6
       clear c6
       by_cases c7 : a1 < (l0.length : Int)
       ·rw [if_pos c7] at H
        have c7b0 : decide (a1 < (l0.length : Int)) = true := decide_eq_true c7
        clear c7
        by_cases c8 : ((rd_T59 l0 x5_1).f0) < ((rd_T59 l0 a1).f0)
        ·rw [if_pos c8] at H
         have c8b0 : decide (((rd_T59 l0 x5_1).f0) < ((rd_T59 l0 a1).f0)) = true := decide_eq_true c8
         clear c8
         obtain rfl := Option.some.inj H
         have p148 : 0 ≤ (x5_1 : Int) := of_decide_eq_true (uq)
         have q148 : x5_1 < (l0.length : Int) := of_decide_eq_true (uq)
         obtain ⟨ad148, e148, hx148_0, hx148_1, hx148_2, hx148_3⟩ := at_T59 HR0.out x5_1 p148 q148
         cases e148
         replace p148 := eq_true p148
         replace q148 := eq_true q148
         have p149 : 0 ≤ (a1 : Int) := of_decide_eq_true (uq)
         have q149 : a1 < (l0.length : Int) := of_decide_eq_true (uq)
         obtain ⟨ad149, e149, hx149_0, hx149_1, hx149_2, hx149_3⟩ := at_T59 HR0.out a1 p149 q149
         obtain rfl : ad148 = ad149 := (by injection e149)
         replace p149 := eq_true p149
         replace q149 := eq_true q149
         go_wp2
         repeat (go_quiet (fail); try go_wp2)
         go_ret
         exact ⟨sq, Y8⟩
        ·rw [if_neg c8] at H
         have c8b0 : decide (((rd_T59 l0 x5_1).f0) < ((rd_T59 l0 a1).f0)) = false := decide_eq_false c8
         clear c8
         by_cases c9 : ((rd_T59 l0 x5_1).f0) = ((rd_T59 l0 a1).f0)
         ·rw [if_pos c9] at H
          have c9b0 : (((rd_T59 l0 x5_1).f0) == ((rd_T59 l0 a1).f0)) = true := beq_iff_eq.mpr c9
          have c9b1 : (((rd_T59 l0 x5_1).f0) != ((rd_T59 l0 a1).f0)) = false := bne_eq_false_iff_eq.mpr c9
          clear c9
          obtain rfl := Option.some.inj H
          have p148 : 0 ≤ (x5_1 : Int) := of_decide_eq_true (uq)
          have q148 : x5_1 < (l0.length : Int) := of_decide_eq_true (uq)
          obtain ⟨ad148, e148, hx148_0, hx148_1, hx148_2, hx148_3⟩ := at_T59 HR0.out x5_1 p148 q148
          cases e148
          replace p148 := eq_true p148
          replace q148 := eq_true q148
          have p149 : 0 ≤ (a1 : Int) := of_decide_eq_true (uq)
          have q149 : a1 < (l0.length : Int) := of_decide_eq_true (uq)
          obtain ⟨ad149, e149, hx149_0, hx149_1, hx149_2, hx149_3⟩ := at_T59 HR0.out a1 p149 q149
          obtain rfl : ad148 = ad149 := (by injection e149)
          replace p149 := eq_true p149
          replace q149 := eq_true q149
          have p150 : 0 ≤ (x5_1 : Int) := of_decide_eq_true (uq)
          have q150 : x5_1 < (l0.length : Int) := of_decide_eq_true (uq)
          obtain ⟨ad150, e150, hx150_0, hx150_1, hx150_2, hx150_3⟩ := at_T59 HR0.out x5_1 p150 q150
          obtain rfl : ad148 = ad150 := (by injection e150)
          replace p150 := eq_true p150
          replace q150 := eq_true q150
          have p151 : 0 ≤ (a1 : Int) := of_decide_eq_true (uq)
          have q151 : a1 < (l0.length : Int) := of_decide_eq_true (uq)
          obtain ⟨ad151, e151, hx151_0, hx151_1, hx151_2, hx151_3⟩ := at_T59 HR0.out a1 p151 q151
          obtain rfl : ad148 = ad151 := (by injection e151)
          replace p151 := eq_true p151
          replace q151 := eq_true q151
          go_wp2
          repeat (go_quiet (fail); try go_wp2)
          go_ret
          exact ⟨sq, Y8⟩
         ·rw [if_neg c9] at H
          have c9b0 : (((rd_T59 l0 x5_1).f0) == ((rd_T59 l0 a1).f0)) = false := beq_eq_false_iff_ne.mpr c9
          have c9b1 : (((rd_T59 l0 x5_1).f0) != ((rd_T59 l0 a1).f0)) = true := bne_iff_ne.mpr c9
          have H' := am H
          clear H
          have p148 : 0 ≤ (x5_1 : Int) := of_decide_eq_true (uq)
          have q148 : x5_1 < (l0.length : Int) := of_decide_eq_true (uq)
          obtain ⟨ad148, e148, hx148_0, hx148_1, hx148_2, hx148_3⟩ := at_T59 HR0.out x5_1 p148 q148
          cases e148
          replace p148 := eq_true p148
          replace q148 := eq_true q148
          have p149 : 0 ≤ (a1 : Int) := of_decide_eq_true (uq)
          have q149 : a1 < (l0.length : Int) := of_decide_eq_true (uq)
          obtain ⟨ad149, e149, hx149_0, hx149_1, hx149_2, hx149_3⟩ := at_T59 HR0.out a1 p149 q149
          obtain rfl : ad148 = ad149 := (by injection e149)
          replace p149 := eq_true p149
          replace q149 := eq_true q149
          have p150 : 0 ≤ (x5_1 : Int) := of_decide_eq_true (uq)
          have q150 : x5_1 < (l0.length : Int) := of_decide_eq_true (uq)
          obtain ⟨ad150, e150, hx150_0, hx150_1, hx150_2, hx150_3⟩ := at_T59 HR0.out x5_1 p150 q150
          obtain rfl : ad148 = ad150 := (by injection e150)
          replace p150 := eq_true p150
          replace q150 := eq_true q150
          have p151 : 0 ≤ (a1 : Int) := of_decide_eq_true (uq)
          have q151 : a1 < (l0.length : Int) := of_decide_eq_true (uq)
          obtain ⟨ad151, e151, hx151_0, hx151_1, hx151_2, hx151_3⟩ := at_T59 HR0.out a1 p151 q151
          obtain rfl : ad148 = ad151 := (by injection e151)
          replace p151 := eq_true p151
          replace q151 := eq_true q151
          go_wp2
          repeat (go_quiet (fail); try go_wp2)
          go_roundg k1
          case measure => have := HK1.out; omega
          case rel => exact ⟨(wrap64 (x5_1 - 1)), (sq), H', ⟨by have := HK1.out; omega⟩, Y8⟩
       ·rw [if_neg c7] at H
        exact absurd H (by simp)
      ·rw [if_neg c6] at H
       exact absurd H (by simp)
     ·rw [if_neg c5] at H
      exact absurd H (by simp)
    ·rw [if_neg c4] at H
     exact absurd H (by simp)
   ·rw [if_neg c3] at H
    have c3b0 : decide (0 ≤ x5_1) = false := decide_eq_false c3
    clear c3
    obtain rfl := Option.some.inj H
    go_wp2
    repeat (go_quiet (fail); try go_wp2)
    go_ret
    exact ⟨sq, Y8⟩
def spec_validLine.inB (a lo hi : Int) : Bool := decide (lo ≤ a) && decide (a ≤ hi)
theorem spec_inRange_eq (a lo hi : Int) : spec_inRange.f a lo hi = some (spec_validLine.inB a lo hi) := by
 unfold spec_inRange.f spec_validLine.inB
 by_cases h : lo ≤ a
 ·rw [if_pos h]; simp [h]
 ·rw [if_neg h]; simp [h]
theorem spec_opens_eq (a : Int) : spec_opens.f a = some (spec_validLine.inB a 7 12) := by
 unfold spec_opens.f
 rw [spec_inRange_eq]; rfl
theorem spec_follows_eq (a : Int) : spec_follows.f a = some (spec_validLine.inB a 8 10) := by
 unfold spec_follows.f
 rw [spec_inRange_eq]; rfl
def spec_validLine.off (p : List S59) (i : Int) (x : S59) : Bool :=
 if (if i = 0 then decide (x.f0 ≠ 0) else if (wrap64 ((rd_T59 p (i - 1)).f0 + 1)) < x.f0 then true else (spec_validLine.inB (rd_T59 p (i - 1)).f1 7 12 != (x.f0 == wrap64 ((rd_T59 p (i - 1)).f0 + 1)))) then true
 else decide (i + 1 = (p.length : Int)) && spec_validLine.inB x.f1 7 12
def spec_validLine.f (k : Nat) (l0_0 : List S98) (l1 : List S59) (a2 : Int) : Option Bool :=
 if 0 ≤ a2 then if a2 < (l1.length : Int) then
  (spec_validNumbers.f k l0_0 (rd_T59 l1 a2).f0 (rd_T59 l1 a2).f1 (rd_T59 l1 a2).f2 (rd_T59 l1 a2).f3).bind fun v =>
  if v = false then some false else if spec_validLine.inB (rd_T59 l1 a2).f0 0 5 = false then some false else
  if spec_validLine.off l1 a2 (rd_T59 l1 a2) then some false else
  (if (rd_T59 l1 a2).f1 = 7 then spec_validChain.f k l1 a2 else some true).bind fun c1 => if c1 = false then some false else
  (if (rd_T59 l1 a2).f1 = 5 ∨ (rd_T59 l1 a2).f1 = 6 then spec_inLoop.f k l1 a2 else some true).bind fun c2 => if c2 = false then some false else
  if spec_validLine.inB (rd_T59 l1 a2).f1 8 10 = false then some true else
  (spec_headOf.f k l1 a2).bind fun h => if 0 ≤ h then if h < (l1.length : Int) then some ((rd_T59 l1 h).f1 == 7 || spec_validLine.inB (rd_T59 l1 h).f1 8 10) else none else some false
 else none else none
def VX (W : World) (BX : Nat) (x : S59) : Prop := W.heap[BX]? = some (.cells #[.int .i64 x.f0, .int .i64 x.f1, .int .i64 x.f2, .int .i64 x.f3] 59 (0, 0))
theorem VX.below {W W' : World} {BX : Nat} {x : S59} (h : VX W BX x) (hb : Below W.heap.size W W') : VX W' BX x := (hb.block _ (blk_lt h)).trans h
theorem VX.cells {W : World} {BX : Nat} {x : S59} (h : VX W BX x) : W.cell? ⟨BX, 0, none⟩ = some (.int .i64 x.f0) ∧ W.cell? ⟨BX, 1, none⟩ = some (.int .i64 x.f1) ∧ W.cell? ⟨BX, 2, none⟩ = some (.int .i64 x.f2) ∧ W.cell? ⟨BX, 3, none⟩ = some (.int .i64 x.f3) :=
 ⟨(blk_cell h 0).trans rfl, (blk_cell h 1).trans rfl, (blk_cell h 2).trans rfl, (blk_cell h 3).trans rfl⟩
set_option maxHeartbeats 8000000 in
set_option maxRecDepth 100000 in
theorem spec_validLine.calls (k : Nat) (A0_0 : Option Addr) (c0_0 : Nat) (l0_0 : List S98) (A1 : Option Addr) (c1 : Nat) (l1 : List S59) (a2 : Int) (r : Bool) (w : World) (hr0_0 : Kd.C k98 w A0_0 l0_0.length l0_0) (hc0_0 : l0_0.length ≤ c0_0) (hr1 : Kd.C k59 w A1 l1.length l1) (hc1 : l1.length ≤ c1) (h : spec_validLine.f k l0_0 l1 a2 = some r) :
  Calls Try.prog 63 #[.agg #[.slice A0_0 l0_0.length c0_0], .slice A1 l1.length c1, .int .i64 a2] w fun e w' => e = .returned (.bool r) ∧ Below w.heap.size w w' := by
 have hu32 := Try.underlying32
 have hu59 := Try.underlying59
 have hm : l1.length ≤ 9223372036854775807 := Kd.C_max hr1
 unfold spec_validLine.f at h
 by_cases h0 : 0 ≤ a2
 ·rw [if_pos h0] at h
  by_cases h1 : a2 < (l1.length : Int)
  ·rw [if_pos h1] at h
   obtain ⟨v, hv, h⟩ := Option.bind_eq_some_iff.mp h
   have HN := am (fun W (hb : Below w.heap.size w W) => spec_validNumbers.calls k A0_0 c0_0 l0_0 _ _ _ _ v W (Kd.C_below hr0_0 hb) hc0_0 hv)
   clear hv
   obtain ⟨ad, rfl, hx0, hx1, hx2, hx3⟩ := at_T59 hr1 a2 h0 h1
   have HR1 := am hr1
   clear hr0_0 hr1
   generalize hgx : rd_T59 l1 a2 = x at h HN hx0 hx1 hx2 hx3
   clear hgx
   have X1 := am (show VX ((w.alloc (.cells #[.slice A0_0 l0_0.length c0_0] 32)).alloc (.cells #[.int .i64 x.f0, .int .i64 x.f1, .int .i64 x.f2, .int .i64 x.f3] 59)) (w.heap.size + 1) x by have := heap_alloc_new (w.alloc (.cells #[.slice A0_0 l0_0.length c0_0] 32)) (.cells #[.int .i64 x.f0, .int .i64 x.f1, .int .i64 x.f2, .int .i64 x.f3] 59); simpa [VX] using this)
   have HB1 := am (((Below.refl w.heap.size w).alloc (Nat.le_refl _) (.cells #[.slice A0_0 l0_0.length c0_0] 32)).alloc (by simp) (.cells #[.int .i64 x.f0, .int .i64 x.f1, .int .i64 x.f2, .int .i64 x.f3] 59))
   have hbt := (Below.refl w.heap.size w).alloc (Nat.le_refl _) (.cells #[.slice A0_0 l0_0.length c0_0] 32)
   replace hx0 := pw_cell_below hbt hx0
   replace hx1 := pw_cell_below hbt hx1
   replace hx2 := pw_cell_below hbt hx2
   replace hx3 := pw_cell_below hbt hx3
   clear hbt
   have p0 := eq_true h0
   have p1 := eq_true h1
   cases v with
   | false =>
    obtain rfl : false = r := by simpa using h
    clear h
    go_enter Try.func63, Try.ntmps63
    go_wp2_with (first | (go_at_call 86; refine (HN.out _ HB1.out).mono ?_; rintro e w2 ⟨rfl, hb2⟩; have X2 := am (VX.below X1.out hb2); have HB2 := am (below_then HB1.out HB1.out.size hb2); clear hb2; obtain ⟨e0, e1, e2, e3⟩ := VX.cells X2.out))
    go_ret
    exact ⟨rfl, HB2.out⟩
   | true =>
    simp only [Bool.true_eq_false, if_false] at h
    cases h5 : spec_validLine.inB x.f0 0 5 with
    | false =>
     have H5 := am h5
     rw [h5, if_pos rfl] at h
     obtain rfl : false = r := by simpa using h
     clear h h5
     go_enter Try.func63, Try.ntmps63
     go_wp2_with (first | (go_at_call 86; refine (HN.out _ HB1.out).mono ?_; rintro e w2 ⟨rfl, hb2⟩; have X2 := am (VX.below X1.out hb2); have HB2 := am (below_then HB1.out HB1.out.size hb2); clear hb2; obtain ⟨e0, e1, e2, e3⟩ := VX.cells X2.out) | (go_at_call 60; refine (spec_inRange.calls _ _ _ _ _ (spec_inRange_eq _ _ _)).mono ?_; rintro e w3 ⟨rfl, hd3⟩; have hb3 := hd3.below; clear hd3; have X3 := am (VX.below X2.out hb3); have HB3 := am (below_then HB2.out HB2.out.size hb3); clear hb3 e0 e1 e2 e3; obtain ⟨e0, e1, e2, e3⟩ := VX.cells X3.out; rw [H5.out]))
     go_ret
     exact ⟨rfl, HB3.out⟩
    | true =>
     have H5 := am h5
     rw [h5] at h
     simp only [Bool.true_eq_false, if_false] at h
     clear h5
     have HH := am h
     clear h
     go_enter Try.func63, Try.ntmps63
     go_upto_region 4 with (first | (go_at_call 86; refine (HN.out _ HB1.out).mono ?_; rintro e w2 ⟨rfl, hb2⟩; have X2 := am (VX.below X1.out hb2); have HB2 := am (below_then HB1.out HB1.out.size hb2); clear hb2; obtain ⟨e0, e1, e2, e3⟩ := VX.cells X2.out) | (go_at_call 60; refine (spec_inRange.calls _ _ _ _ _ (spec_inRange_eq _ _ _)).mono ?_; rintro e w3 ⟨rfl, hd3⟩; have hb3 := hd3.below; clear hd3; have X3 := am (VX.below X2.out hb3); have HB3 := am (below_then HB2.out HB2.out.size hb3); clear hb3 e0 e1 e2 e3; obtain ⟨e0, e1, e2, e3⟩ := VX.cells X3.out; rw [H5.out]))
     go_cut [77] (fun v77 wc => v77 = .bool (spec_validLine.off l1 a2 x) ∧ Aside0 (VX wc (w.heap.size + 1) x) ∧ Aside0 (Below w.heap.size w wc))
     case first =>
      clear HH
      have HO := am (fun (a : Int) (b : Bool) (hb : spec_validLine.inB a 7 12 = b) W => (spec_opens.calls a b W (by rw [spec_opens_eq, hb])).mono fun e w' h => (⟨h.1, h.2.out⟩ : e = .returned (.bool b) ∧ ∃ m, w' = W.drewN m))
      have hw2 : IntKind.i64.wrap (a2 + 1) = a2 + 1 := IntWalk.i64_in _ (by omega)
      by_cases z0 : a2 = 0
      ·have b0 : (a2 == 0) = true := beq_iff_eq.2 z0
       have b0' : decide (0 < a2) = false := decide_eq_false (by omega)
       by_cases zx : x.f0 = 0
       ·have b1 : (x.f0 != 0) = false := by simpa using zx
        have HE := am (by unfold spec_validLine.off; rw [if_pos z0]; simp [zx] : spec_validLine.off l1 a2 x = (decide (a2 + 1 = (l1.length : Int)) && spec_validLine.inB x.f1 7 12))
        clear z0
        clear zx
        by_cases zl : a2 + 1 = (l1.length : Int)
        ·have b3 : (a2 + 1 == (l1.length : Int)) = true := by rw [beq_iff_eq]; omega
         cases hx : spec_validLine.inB x.f1 7 12 with
         | true =>
          have HX := am hx
          have HF := am (by rw [HE.out, hx, decide_eq_true zl]; rfl : spec_validLine.off l1 a2 x = true)
          clear zl hx HE
          go_big_quiet ((go_at_call 87; exact Calls.quiet_of (HO.out x.f1 _ HX.out _)))
          go_wp2
          go_meet
          case rel => exact ⟨by rw [HF.out], X3, ⟨pw_below_drewN HB3.out _⟩⟩
         | false =>
          have HX := am hx
          have HF := am (by rw [HE.out, hx]; simp : spec_validLine.off l1 a2 x = false)
          clear zl hx HE
          go_big_quiet ((go_at_call 87; exact Calls.quiet_of (HO.out x.f1 _ HX.out _)))
          go_wp2
          go_meet
          case rel => exact ⟨by rw [HF.out], X3, ⟨pw_below_drewN HB3.out _⟩⟩
        ·have b3 : (a2 + 1 == (l1.length : Int)) = false := by rw [beq_eq_false_iff_ne]; omega
         have HF := am (by rw [HE.out, decide_eq_false zl]; rfl : spec_validLine.off l1 a2 x = false)
         clear zl HE
         go_big_quiet (fail)
         go_wp2
         go_meet
         case rel => exact ⟨by rw [HF.out], X3, ⟨pw_below_drewN HB3.out _⟩⟩
       ·have b1 : (x.f0 != 0) = true := by simpa using zx
        have HF := am (by unfold spec_validLine.off; rw [if_pos z0]; simp [zx] : spec_validLine.off l1 a2 x = true)
        clear zx z0
        go_big_quiet (fail)
        go_wp2
        go_meet
        case rel => exact ⟨by rw [HF.out], X3, ⟨pw_below_drewN HB3.out _⟩⟩
      ·have b0 : (a2 == 0) = false := beq_eq_false_iff_ne.2 z0
       have b0' : decide (0 < a2) = true := decide_eq_true (by omega)
       have q0 : 0 ≤ a2 - 1 := by omega
       have q1 : a2 - 1 < (l1.length : Int) := by omega
       obtain ⟨j, hj⟩ : ∃ j, a2 - 1 = j := ⟨_, rfl⟩
       rw [hj] at q0 q1
       obtain ⟨ad', he, y0, y1, y2, y3⟩ := at_T59 HR1.out j q0 q1
       cases he
       replace y0 := pw_cell_below HB3.out y0
       replace y1 := pw_cell_below HB3.out y1
       clear y2 y3
       replace q0 := eq_true q0
       replace q1 := eq_true q1
       have HD := am (by unfold spec_validLine.off; rw [if_neg z0] : spec_validLine.off l1 a2 x = if (if (wrap64 ((rd_T59 l1 (a2 - 1)).f0 + 1)) < x.f0 then true else (spec_validLine.inB (rd_T59 l1 (a2 - 1)).f1 7 12 != (x.f0 == wrap64 ((rd_T59 l1 (a2 - 1)).f0 + 1)))) then true else decide (a2 + 1 = (l1.length : Int)) && spec_validLine.inB x.f1 7 12)
       clear z0
       rw [hj] at HD
       generalize rd_T59 l1 j = y at HD y0 y1
       generalize hz : wrap64 (y.f0 + 1) = z at HD
       have HZ := am hz
       by_cases zt : z < x.f0
       ·have b4 : decide (z < x.f0) = true := decide_eq_true zt
        have HF := am (by rw [HD.out]; simp [zt] : spec_validLine.off l1 a2 x = true)
        clear zt HD
        go_big_quiet (fail)
        go_wp2
        go_meet
        case rel => exact ⟨by rw [HF.out], X3, ⟨pw_below_drewN HB3.out _⟩⟩
       ·have b4 : decide (z < x.f0) = false := decide_eq_false zt
        cases hy : spec_validLine.inB y.f1 7 12 with
        | true =>
         have HY := am hy
         by_cases ze : x.f0 = z
         ·have b5 : (x.f0 == z) = true := beq_iff_eq.2 ze
          have HE := am (by rw [HD.out, hy, b5]; simp [zt] : spec_validLine.off l1 a2 x = (decide (a2 + 1 = (l1.length : Int)) && spec_validLine.inB x.f1 7 12))
          clear zt HD hy ze
          by_cases zl : a2 + 1 = (l1.length : Int)
          ·have b3 : (a2 + 1 == (l1.length : Int)) = true := by rw [beq_iff_eq]; omega
           cases hx : spec_validLine.inB x.f1 7 12 with
           | true =>
            have HX := am hx
            have HF := am (by rw [HE.out, hx, decide_eq_true zl]; rfl : spec_validLine.off l1 a2 x = true)
            clear zl hx HE
            go_big_quiet (first | (go_at_call 87; exact Calls.quiet_of (HO.out y.f1 _ HY.out _)) | (go_at_call 87; exact Calls.quiet_of (HO.out x.f1 _ HX.out _)))
            go_wp2
            go_meet
            case rel => exact ⟨by rw [HF.out], X3, ⟨pw_below_drewN HB3.out _⟩⟩
           | false =>
            have HX := am hx
            have HF := am (by rw [HE.out, hx]; simp : spec_validLine.off l1 a2 x = false)
            clear zl hx HE
            go_big_quiet (first | (go_at_call 87; exact Calls.quiet_of (HO.out y.f1 _ HY.out _)) | (go_at_call 87; exact Calls.quiet_of (HO.out x.f1 _ HX.out _)))
            go_wp2
            go_meet
            case rel => exact ⟨by rw [HF.out], X3, ⟨pw_below_drewN HB3.out _⟩⟩
          ·have b3 : (a2 + 1 == (l1.length : Int)) = false := by rw [beq_eq_false_iff_ne]; omega
           have HF := am (by rw [HE.out, decide_eq_false zl]; rfl : spec_validLine.off l1 a2 x = false)
           clear zl HE
           go_big_quiet ((go_at_call 87; exact Calls.quiet_of (HO.out y.f1 _ HY.out _)))
           go_wp2
           go_meet
           case rel => exact ⟨by rw [HF.out], X3, ⟨pw_below_drewN HB3.out _⟩⟩
         ·have b5 : (x.f0 == z) = false := beq_eq_false_iff_ne.2 ze
          have HF := am (by rw [HD.out, hy, b5]; simp : spec_validLine.off l1 a2 x = true)
          clear zt HD hy ze
          go_big_quiet ((go_at_call 87; exact Calls.quiet_of (HO.out y.f1 _ HY.out _)))
          go_wp2
          go_meet
          case rel => exact ⟨by rw [HF.out], X3, ⟨pw_below_drewN HB3.out _⟩⟩
        | false =>
         have HY := am hy
         by_cases ze : x.f0 = z
         ·have b5 : (x.f0 == z) = true := beq_iff_eq.2 ze
          have HF := am (by rw [HD.out, hy, b5]; simp : spec_validLine.off l1 a2 x = true)
          clear zt HD hy ze
          go_big_quiet ((go_at_call 87; exact Calls.quiet_of (HO.out y.f1 _ HY.out _)))
          go_wp2
          go_meet
          case rel => exact ⟨by rw [HF.out], X3, ⟨pw_below_drewN HB3.out _⟩⟩
         ·have b5 : (x.f0 == z) = false := beq_eq_false_iff_ne.2 ze
          have HE := am (by rw [HD.out, hy, b5]; simp [zt] : spec_validLine.off l1 a2 x = (decide (a2 + 1 = (l1.length : Int)) && spec_validLine.inB x.f1 7 12))
          clear zt HD hy ze
          by_cases zl : a2 + 1 = (l1.length : Int)
          ·have b3 : (a2 + 1 == (l1.length : Int)) = true := by rw [beq_iff_eq]; omega
           cases hx : spec_validLine.inB x.f1 7 12 with
           | true =>
            have HX := am hx
            have HF := am (by rw [HE.out, hx, decide_eq_true zl]; rfl : spec_validLine.off l1 a2 x = true)
            clear zl hx HE
            go_big_quiet (first | (go_at_call 87; exact Calls.quiet_of (HO.out y.f1 _ HY.out _)) | (go_at_call 87; exact Calls.quiet_of (HO.out x.f1 _ HX.out _)))
            go_wp2
            go_meet
            case rel => exact ⟨by rw [HF.out], X3, ⟨pw_below_drewN HB3.out _⟩⟩
           | false =>
            have HX := am hx
            have HF := am (by rw [HE.out, hx]; simp : spec_validLine.off l1 a2 x = false)
            clear zl hx HE
            go_big_quiet (first | (go_at_call 87; exact Calls.quiet_of (HO.out y.f1 _ HY.out _)) | (go_at_call 87; exact Calls.quiet_of (HO.out x.f1 _ HX.out _)))
            go_wp2
            go_meet
            case rel => exact ⟨by rw [HF.out], X3, ⟨pw_below_drewN HB3.out _⟩⟩
          ·have b3 : (a2 + 1 == (l1.length : Int)) = false := by rw [beq_eq_false_iff_ne]; omega
           have HF := am (by rw [HE.out, decide_eq_false zl]; rfl : spec_validLine.off l1 a2 x = false)
           clear zl HE
           go_big_quiet ((go_at_call 87; exact Calls.quiet_of (HO.out y.f1 _ HY.out _)))
           go_wp2
           go_meet
           case rel => exact ⟨by rw [HF.out], X3, ⟨pw_below_drewN HB3.out _⟩⟩
     case rest =>
      obtain ⟨rfl, X4, HB4⟩ := hcut
      clear X1 HB1
      have h := HH.out
      clear HH
      obtain ⟨e0, e1, e2, e3⟩ := VX.cells X4.out
      have tok : True := trivial
      have HO := am (fun (a : Int) (b : Bool) (hb : spec_validLine.inB a 8 10 = b) W => spec_follows.calls a b W (by rw [spec_follows_eq, hb]))
      cases ho : spec_validLine.off l1 a2 x with
      | true =>
       rw [ho, if_pos rfl] at h
       obtain rfl : false = r := by simpa using h
       clear h ho
       go_wp2
       go_ret
       exact ⟨rfl, HB4.out⟩
      | false =>
       rw [ho] at h
       simp only [Bool.false_eq_true, if_false] at h
       clear ho
       obtain ⟨c, hc, h⟩ := Option.bind_eq_some_iff.mp h
       by_cases z7 : x.f1 = 7
       ·rw [if_pos z7] at hc
        have HC := am (fun W (hb : Below w.heap.size w W) => spec_validChain.calls k _ c1 l1 a2 c W (Kd.C_below HR1.out hb) hc1 hc)
        have b7 : (x.f1 == 7) = true := beq_iff_eq.2 z7
        have b5 : (x.f1 == 5) = false := beq_eq_false_iff_ne.2 (by omega)
        have b6 : (x.f1 == 6) = false := beq_eq_false_iff_ne.2 (by omega)
        cases c with
        | false =>
         obtain rfl : false = r := by simpa using h
         clear h hc z7
         go_wp2_with (first | (go_at_call 88; refine (HC.out _ HB4.out).mono ?_; rintro e w5 ⟨rfl, hb5⟩; have X5 := am (VX.below X4.out hb5); have HB5 := am (below_then HB4.out HB4.out.size hb5); clear hb5 e0 e1 e2 e3; obtain ⟨e0, e1, e2, e3⟩ := VX.cells X5.out))
         go_ret
         exact ⟨rfl, HB5.out⟩
        | true =>
         have hx : spec_validLine.inB x.f1 8 10 = false := by unfold spec_validLine.inB; rw [z7]; rfl
         have HX := am hx
         obtain rfl : true = r := by simpa [z7, show spec_validLine.inB 7 8 10 = false from rfl] using h
         clear h hc z7 hx
         go_wp2_with (first | (go_at_call 88; refine (HC.out _ HB4.out).mono ?_; rintro e w5 ⟨rfl, hb5⟩; have X5 := am (VX.below X4.out hb5); have HB5 := am (below_then HB4.out HB4.out.size hb5); clear hb5 e0 e1 e2 e3; obtain ⟨e0, e1, e2, e3⟩ := VX.cells X5.out) | (go_at_call 90; have tk := tok; clear tok; refine (HO.out x.f1 _ HX.out _).mono ?_; rintro e w6 ⟨rfl, hd6⟩; have hb6 := hd6.below; clear hd6; have X6 := am (VX.below X5.out hb6); have HB6 := am (below_then HB5.out HB5.out.size hb6); clear hb6 e0 e1 e2 e3; obtain ⟨e0, e1, e2, e3⟩ := VX.cells X6.out))
         go_ret
         exact ⟨rfl, HB6.out⟩
       ·rw [if_neg z7] at hc
        obtain rfl : true = c := by simpa using hc
        clear hc
        have b7 : (x.f1 == 7) = false := beq_eq_false_iff_ne.2 z7
        simp only [Bool.true_eq_false, if_false] at h
        obtain ⟨c, hc, h⟩ := Option.bind_eq_some_iff.mp h
        by_cases z56 : x.f1 = 5 ∨ x.f1 = 6
        ·rw [if_pos z56] at hc
         have HC := am (fun W (hb : Below w.heap.size w W) => spec_inLoop.calls k _ c1 l1 a2 c W (Kd.C_below HR1.out hb) hc1 hc)
         have hx : spec_validLine.inB x.f1 8 10 = false := by rcases z56 with z | z <;> (unfold spec_validLine.inB; rw [z]; rfl)
         have HX := am hx
         cases c with
         | false =>
          obtain rfl : false = r := by simpa using h
          clear h hc hx
          rcases z56 with z | z
          ·have b5 : (x.f1 == 5) = true := beq_iff_eq.2 z
           clear z z7
           go_wp2_with (first | (go_at_call 89; refine (HC.out _ HB4.out).mono ?_; rintro e w5 ⟨rfl, hd5⟩; have hb5 := hd5.below; clear hd5; have X5 := am (VX.below X4.out hb5); have HB5 := am (below_then HB4.out HB4.out.size hb5); clear hb5 e0 e1 e2 e3; obtain ⟨e0, e1, e2, e3⟩ := VX.cells X5.out))
           go_ret
           exact ⟨rfl, HB5.out⟩
          ·have b5 : (x.f1 == 5) = false := beq_eq_false_iff_ne.2 (by omega)
           have b6 : (x.f1 == 6) = true := beq_iff_eq.2 z
           clear z z7
           go_wp2_with (first | (go_at_call 89; refine (HC.out _ HB4.out).mono ?_; rintro e w5 ⟨rfl, hd5⟩; have hb5 := hd5.below; clear hd5; have X5 := am (VX.below X4.out hb5); have HB5 := am (below_then HB4.out HB4.out.size hb5); clear hb5 e0 e1 e2 e3; obtain ⟨e0, e1, e2, e3⟩ := VX.cells X5.out))
           go_ret
           exact ⟨rfl, HB5.out⟩
         | true =>
          obtain rfl : true = r := by simpa [hx] using h
          clear h hc hx
          rcases z56 with z | z
          ·have b5 : (x.f1 == 5) = true := beq_iff_eq.2 z
           clear z z7
           go_wp2_with (first | (go_at_call 89; refine (HC.out _ HB4.out).mono ?_; rintro e w5 ⟨rfl, hd5⟩; have hb5 := hd5.below; clear hd5; have X5 := am (VX.below X4.out hb5); have HB5 := am (below_then HB4.out HB4.out.size hb5); clear hb5 e0 e1 e2 e3; obtain ⟨e0, e1, e2, e3⟩ := VX.cells X5.out) | (go_at_call 90; have tk := tok; clear tok; refine (HO.out x.f1 _ HX.out _).mono ?_; rintro e w6 ⟨rfl, hd6⟩; have hb6 := hd6.below; clear hd6; have X6 := am (VX.below X5.out hb6); have HB6 := am (below_then HB5.out HB5.out.size hb6); clear hb6 e0 e1 e2 e3; obtain ⟨e0, e1, e2, e3⟩ := VX.cells X6.out))
           go_ret
           exact ⟨rfl, HB6.out⟩
          ·have b5 : (x.f1 == 5) = false := beq_eq_false_iff_ne.2 (by omega)
           have b6 : (x.f1 == 6) = true := beq_iff_eq.2 z
           clear z z7
           go_wp2_with (first | (go_at_call 89; refine (HC.out _ HB4.out).mono ?_; rintro e w5 ⟨rfl, hd5⟩; have hb5 := hd5.below; clear hd5; have X5 := am (VX.below X4.out hb5); have HB5 := am (below_then HB4.out HB4.out.size hb5); clear hb5 e0 e1 e2 e3; obtain ⟨e0, e1, e2, e3⟩ := VX.cells X5.out) | (go_at_call 90; have tk := tok; clear tok; refine (HO.out x.f1 _ HX.out _).mono ?_; rintro e w6 ⟨rfl, hd6⟩; have hb6 := hd6.below; clear hd6; have X6 := am (VX.below X5.out hb6); have HB6 := am (below_then HB5.out HB5.out.size hb6); clear hb6 e0 e1 e2 e3; obtain ⟨e0, e1, e2, e3⟩ := VX.cells X6.out))
           go_ret
           exact ⟨rfl, HB6.out⟩
        ·rw [if_neg z56] at hc
         obtain rfl : true = c := by simpa using hc
         clear hc
         have b5 : (x.f1 == 5) = false := beq_eq_false_iff_ne.2 (fun z => z56 (.inl z))
         have b6 : (x.f1 == 6) = false := beq_eq_false_iff_ne.2 (fun z => z56 (.inr z))
         simp only [Bool.true_eq_false, if_false] at h
         clear z7 z56
         cases hx : spec_validLine.inB x.f1 8 10 with
         | false =>
          have HX := am hx
          rw [hx, if_pos rfl] at h
          obtain rfl : true = r := by simpa using h
          clear h hx
          go_wp2_with (first | (go_at_call 90; have tk := tok; clear tok; refine (HO.out x.f1 _ HX.out _).mono ?_; rintro e w6 ⟨rfl, hd6⟩; have hb6 := hd6.below; clear hd6; have X6 := am (VX.below X4.out hb6); have HB6 := am (below_then HB4.out HB4.out.size hb6); clear hb6 e0 e1 e2 e3; obtain ⟨e0, e1, e2, e3⟩ := VX.cells X6.out))
          go_ret
          exact ⟨rfl, HB6.out⟩
         | true =>
          have HX := am hx
          rw [hx] at h
          simp only [Bool.true_eq_false, if_false] at h
          clear hx
          obtain ⟨q, hq, h⟩ := Option.bind_eq_some_iff.mp h
          have HQ := am (fun W (hb : Below w.heap.size w W) => spec_headOf.calls k _ c1 l1 a2 q W (Kd.C_below HR1.out hb) hc1 hq)
          clear hq
          by_cases q0 : 0 ≤ q
          ·rw [if_pos q0] at h
           have q0b := decide_eq_true q0
           by_cases q1 : q < (l1.length : Int)
           ·rw [if_pos q1] at h
            obtain ⟨ad', he, y0, y1, y2, y3⟩ := at_T59 HR1.out q q0 q1
            cases he
            generalize rd_T59 l1 q = y at h y0 y1
            have HK := am y1
            clear y0 y1 y2 y3
            have q0 := eq_true q0
            have q1 := eq_true q1
            by_cases zy : y.f1 = 7
            ·have by7 : (y.f1 == 7) = true := beq_iff_eq.2 zy
             obtain rfl : true = r := by simpa [zy] using h
             clear h zy
             go_wp2_with (first | (go_at_call 90; have tk := tok; clear tok; refine (HO.out x.f1 _ HX.out _).mono ?_; rintro e w6 ⟨rfl, hd6⟩; have hb6 := hd6.below; clear hd6; have X6 := am (VX.below X4.out hb6); have HB6 := am (below_then HB4.out HB4.out.size hb6); clear hb6 e0 e1 e2 e3; obtain ⟨e0, e1, e2, e3⟩ := VX.cells X6.out) | (go_at_call 91; refine (HQ.out _ HB6.out).mono ?_; rintro e w7 ⟨rfl, hd7⟩; have hb7 := hd7.below; clear hd7; have X7 := am (VX.below X6.out hb7); have HB7 := am (below_then HB6.out HB6.out.size hb7); clear hb7 e0 e1 e2 e3; obtain ⟨e0, e1, e2, e3⟩ := VX.cells X7.out; have y1 := pw_cell_below HB7.out HK.out))
             go_ret
             exact ⟨rfl, HB7.out⟩
            ·have by7 : (y.f1 == 7) = false := beq_eq_false_iff_ne.2 zy
             cases hy : spec_validLine.inB y.f1 8 10 with
             | true =>
              have HY := am hy
              obtain rfl : true = r := by rw [hy, by7] at h; simpa using h
              clear h hy zy
              go_wp2_with (first | (go_at_call 90; have tk := tok; clear tok; refine (HO.out x.f1 _ HX.out _).mono ?_; rintro e w6 ⟨rfl, hd6⟩; have hb6 := hd6.below; clear hd6; have X6 := am (VX.below X4.out hb6); have HB6 := am (below_then HB4.out HB4.out.size hb6); clear hb6 e0 e1 e2 e3; obtain ⟨e0, e1, e2, e3⟩ := VX.cells X6.out) | (go_at_call 91; refine (HQ.out _ HB6.out).mono ?_; rintro e w7 ⟨rfl, hd7⟩; have hb7 := hd7.below; clear hd7; have X7 := am (VX.below X6.out hb7); have HB7 := am (below_then HB6.out HB6.out.size hb7); clear hb7 e0 e1 e2 e3; obtain ⟨e0, e1, e2, e3⟩ := VX.cells X7.out; have y1 := pw_cell_below HB7.out HK.out) | (go_at_call 90; refine (HO.out y.f1 _ HY.out _).mono ?_; rintro e w8 ⟨rfl, hd8⟩; have hb8 := hd8.below; clear hd8; have X8 := am (VX.below X7.out hb8); have HB8 := am (below_then HB7.out HB7.out.size hb8); clear hb8 e0 e1 e2 e3; obtain ⟨e0, e1, e2, e3⟩ := VX.cells X8.out))
              go_ret
              exact ⟨rfl, HB8.out⟩
             | false =>
              have HY := am hy
              obtain rfl : false = r := by rw [hy, by7] at h; simpa using h
              clear h hy zy
              go_wp2_with (first | (go_at_call 90; have tk := tok; clear tok; refine (HO.out x.f1 _ HX.out _).mono ?_; rintro e w6 ⟨rfl, hd6⟩; have hb6 := hd6.below; clear hd6; have X6 := am (VX.below X4.out hb6); have HB6 := am (below_then HB4.out HB4.out.size hb6); clear hb6 e0 e1 e2 e3; obtain ⟨e0, e1, e2, e3⟩ := VX.cells X6.out) | (go_at_call 91; refine (HQ.out _ HB6.out).mono ?_; rintro e w7 ⟨rfl, hd7⟩; have hb7 := hd7.below; clear hd7; have X7 := am (VX.below X6.out hb7); have HB7 := am (below_then HB6.out HB6.out.size hb7); clear hb7 e0 e1 e2 e3; obtain ⟨e0, e1, e2, e3⟩ := VX.cells X7.out; have y1 := pw_cell_below HB7.out HK.out) | (go_at_call 90; refine (HO.out y.f1 _ HY.out _).mono ?_; rintro e w8 ⟨rfl, hd8⟩; have hb8 := hd8.below; clear hd8; have X8 := am (VX.below X7.out hb8); have HB8 := am (below_then HB7.out HB7.out.size hb8); clear hb8 e0 e1 e2 e3; obtain ⟨e0, e1, e2, e3⟩ := VX.cells X8.out))
              go_ret
              exact ⟨rfl, HB8.out⟩
           ·rw [if_neg q1] at h
            cases h
          ·rw [if_neg q0] at h
           have q0b := decide_eq_false q0
           obtain rfl : false = r := by simpa using h
           clear h q0
           go_wp2_with (first | (go_at_call 90; have tk := tok; clear tok; refine (HO.out x.f1 _ HX.out _).mono ?_; rintro e w6 ⟨rfl, hd6⟩; have hb6 := hd6.below; clear hd6; have X6 := am (VX.below X4.out hb6); have HB6 := am (below_then HB4.out HB4.out.size hb6); clear hb6 e0 e1 e2 e3; obtain ⟨e0, e1, e2, e3⟩ := VX.cells X6.out) | (go_at_call 91; refine (HQ.out _ HB6.out).mono ?_; rintro e w7 ⟨rfl, hd7⟩; have hb7 := hd7.below; clear hd7; have X7 := am (VX.below X6.out hb7); have HB7 := am (below_then HB6.out HB6.out.size hb7); clear hb7 e0 e1 e2 e3; obtain ⟨e0, e1, e2, e3⟩ := VX.cells X7.out))
           go_ret
           exact ⟨rfl, HB7.out⟩
  ·rw [if_neg h1] at h
   cases h
 ·rw [if_neg h0] at h
  cases h
def spec_validName.l0 : Nat → ByteArray → Int → Option (Bool)
 | 0, _, _ => none
 | k + 1, x0, x3 => if x3 < (x0.size : Int) then (if 0 ≤ x3 then (if (bt x0 x3) < 97 then (some false) else (if (bt x0 x3) > 122 then (some false) else (spec_validName.l0 k x0 (wrap64 (x3 + 1))))) else (none)) else ((spec_inRange.f (x0.size : Int) 1 6).bind fun t152 => (some t152))
def spec_validName.f (k : Nat) (a0 : ByteArray) : Option (Bool) := spec_validName.l0 k a0 0
set_option maxHeartbeats 8000000 in
set_option maxRecDepth 100000 in
theorem spec_validName.calls (k : Nat) (a0 : ByteArray) (r : Bool) (w : World) (h : spec_validName.f k a0 = some r) :
  Calls Try.prog 92 #[.string a0] w fun e w' => e = .returned (.bool r) ∧ Drawn0 w w' := by
 have H : (spec_validName.l0 k a0 0) = some r := h
 clear h
 have H' := am H
 clear H
 go_enter Try.func92, Try.ntmps92
 go_wp2
 go_loopg [3] k (fun kq v3 w' => ∃ (x3_1 : Int), v3 = .int .i64 x3_1 ∧ Aside0 (spec_validName.l0 kq a0 x3_1 = some r) ∧ Aside0 (kq ≤ k) ∧ Drawn0 w w')
 case atStart => exact ⟨(0), (sq), H', ⟨Nat.le_refl _⟩, Y8⟩
 case round =>
  clear H'
  obtain ⟨x3_1, rfl, HA, HK1, ⟨m1, rfl⟩⟩ := hrel
  cases gk with
  | zero => exact absurd HA.out (by simp [spec_validName.l0])
  | succ k1 =>
   have H := HA.out
   clear HA
   simp only [spec_validName.l0] at H
   by_cases c2 : x3_1 < (a0.size : Int)
   ·rw [if_pos c2] at H
    have c2b0 : decide (x3_1 < (a0.size : Int)) = true := decide_eq_true c2
    clear c2
    by_cases c3 : 0 ≤ x3_1
    ·rw [if_pos c3] at H
     have c3b0 : decide (0 ≤ x3_1) = true := decide_eq_true c3
     clear c3
     by_cases c5 : (bt a0 x3_1) < 97
     ·rw [if_pos c5] at H
      have c5b0 : decide ((bt a0 x3_1) < 97) = true := decide_eq_true c5
      clear c5
      obtain rfl := Option.some.inj H
      have p4 : 0 ≤ (x3_1 : Int) := of_decide_eq_true (uq)
      have q4 : x3_1 < (a0.size : Int) := of_decide_eq_true (uq)
      have hx4 := bt_at a0 x3_1
      replace p4 := eq_true p4
      replace q4 := eq_true q4
      go_wp2
      go_ret
      exact ⟨sq, Y8⟩
     ·rw [if_neg c5] at H
      have c5b0 : decide ((bt a0 x3_1) < 97) = false := decide_eq_false c5
      clear c5
      by_cases c7 : (bt a0 x3_1) > 122
      ·rw [if_pos c7] at H
       have c7b0 : decide (122 < (bt a0 x3_1)) = true := decide_eq_true c7
       clear c7
       obtain rfl := Option.some.inj H
       have p4 : 0 ≤ (x3_1 : Int) := of_decide_eq_true (uq)
       have q4 : x3_1 < (a0.size : Int) := of_decide_eq_true (uq)
       have hx4 := bt_at a0 x3_1
       replace p4 := eq_true p4
       replace q4 := eq_true q4
       have p6 : 0 ≤ (x3_1 : Int) := of_decide_eq_true (uq)
       have q6 : x3_1 < (a0.size : Int) := of_decide_eq_true (uq)
       have hx6 := bt_at a0 x3_1
       replace p6 := eq_true p6
       replace q6 := eq_true q6
       go_wp2
       go_ret
       exact ⟨sq, Y8⟩
      ·rw [if_neg c7] at H
       have c7b0 : decide (122 < (bt a0 x3_1)) = false := decide_eq_false c7
       clear c7
       have H' := am H
       clear H
       have p4 : 0 ≤ (x3_1 : Int) := of_decide_eq_true (uq)
       have q4 : x3_1 < (a0.size : Int) := of_decide_eq_true (uq)
       have hx4 := bt_at a0 x3_1
       replace p4 := eq_true p4
       replace q4 := eq_true q4
       have p6 : 0 ≤ (x3_1 : Int) := of_decide_eq_true (uq)
       have q6 : x3_1 < (a0.size : Int) := of_decide_eq_true (uq)
       have hx6 := bt_at a0 x3_1
       replace p6 := eq_true p6
       replace q6 := eq_true q6
       go_wp2
       go_roundg k1
       case measure => have := HK1.out; omega
       case rel => exact ⟨(wrap64 (x3_1 + 1)), (sq), H', ⟨by have := HK1.out; omega⟩, Y8⟩
    ·rw [if_neg c3] at H
     exact absurd H (by simp)
   ·rw [if_neg c2] at H
    have c2b0 : decide (x3_1 < (a0.size : Int)) = false := decide_eq_false c2
    clear c2
    replace H := Option.bind_eq_some_iff.mp H
    obtain ⟨t152, A80, H⟩ := H
    replace H : (some t152) = some r := H
    have A8 := am A80
    clear A80
    obtain rfl := Option.some.inj H
    go_wp2_with (first | ((with_reducible refine gate_callee (f := 60) rfl ?_); refine gL (some 22) Try.func60 #[.int .i64 (a0.size : Int), .int .i64 1, .int .i64 6] ?_; (with_reducible refine (spec_inRange.calls (a0.size : Int) 1 6 t152 _ A8.out).mono ?_); rintro e w' ⟨rfl, ⟨nd, rfl⟩⟩; refine ⟨_, rfl, ?_⟩))
    go_ret
    exact ⟨sq, Y8⟩
def spec_classNamed.l0 : Nat → List (S98) → ByteArray → Int → Option (Int)
 | 0, _, _, _ => none
 | k + 1, x0, x1, x5 => if x5 < (x0.length : Int) then (if 0 ≤ x5 then (if ((rd_T98 x0 x5).f0).toList = x1.toList then (some x5) else (spec_classNamed.l0 k x0 x1 (wrap64 (x5 + 1)))) else (none)) else (some (-1))
def spec_classNamed.f (k : Nat) (l0 : List (S98)) (a1 : ByteArray) : Option (Int) := spec_classNamed.l0 k l0 a1 0
set_option maxHeartbeats 8000000 in
set_option maxRecDepth 100000 in
theorem spec_classNamed.calls (k : Nat) (A0 : Option Addr) (c0 : Nat) (l0 : List (S98)) (a1 : ByteArray) (r : Int) (w : World) (hr0 : Kd.C k98 w A0 l0.length l0) (hc0 : l0.length ≤ c0) (h : spec_classNamed.f k l0 a1 = some r) :
  Calls Try.prog 93 #[.slice A0 l0.length c0, .string a1] w fun e w' => e = .returned (.int .i64 r) ∧ Drawn0 w w' := by
 have HR0 := am hr0
 have HC0 := am hc0
 clear hr0 hc0
 have H : (spec_classNamed.l0 k l0 a1 0) = some r := h
 clear h
 have H' := am H
 clear H
 go_enter Try.func93, Try.ntmps93
 go_wp2
 go_loopg [5] k (fun kq v5 w' => ∃ (x5_1 : Int), v5 = .int .i64 x5_1 ∧ Aside0 (spec_classNamed.l0 kq l0 a1 x5_1 = some r) ∧ Aside0 (kq ≤ k) ∧ Drawn0 w w')
 case atStart => exact ⟨(0), (sq), H', ⟨Nat.le_refl _⟩, Y8⟩
 case round =>
  clear H'
  try clear p2
  obtain ⟨x5_1, rfl, HA, HK1, ⟨m1, rfl⟩⟩ := hrel
  cases gk with
  | zero => exact absurd HA.out (by simp [spec_classNamed.l0])
  | succ k1 =>
   have H := HA.out
   clear HA
   simp only [spec_classNamed.l0] at H
   by_cases c3 : x5_1 < (l0.length : Int)
   ·rw [if_pos c3] at H
    have c3b0 : decide (x5_1 < (l0.length : Int)) = true := decide_eq_true c3
    clear c3
    by_cases c4 : 0 ≤ x5_1
    ·rw [if_pos c4] at H
     have c4b0 : decide (0 ≤ x5_1) = true := decide_eq_true c4
     clear c4
     by_cases c5 : ((rd_T98 l0 x5_1).f0).toList = a1.toList
     ·rw [if_pos c5] at H
      have c5b0 : (((rd_T98 l0 x5_1).f0).toList == a1.toList) = true := beq_iff_eq.mpr c5
      have c5b1 : (((rd_T98 l0 x5_1).f0).toList != a1.toList) = false := bne_eq_false_iff_eq.mpr c5
      clear c5
      obtain rfl := Option.some.inj H
      have p153 : 0 ≤ (x5_1 : Int) := of_decide_eq_true (uq)
      have q153 : x5_1 < (l0.length : Int) := of_decide_eq_true (uq)
      obtain ⟨ad153, e153, hx153_0, hx153_1⟩ := at_T98 HR0.out x5_1 p153 q153
      cases e153
      replace p153 := eq_true p153
      replace q153 := eq_true q153
      go_wp2
      go_ret
      exact ⟨sq, Y8⟩
     ·rw [if_neg c5] at H
      have c5b0 : (((rd_T98 l0 x5_1).f0).toList == a1.toList) = false := beq_eq_false_iff_ne.mpr c5
      have c5b1 : (((rd_T98 l0 x5_1).f0).toList != a1.toList) = true := bne_iff_ne.mpr c5
      have H' := am H
      clear H
      have p153 : 0 ≤ (x5_1 : Int) := of_decide_eq_true (uq)
      have q153 : x5_1 < (l0.length : Int) := of_decide_eq_true (uq)
      obtain ⟨ad153, e153, hx153_0, hx153_1⟩ := at_T98 HR0.out x5_1 p153 q153
      cases e153
      replace p153 := eq_true p153
      replace q153 := eq_true q153
      go_wp2
      go_roundg k1
      case measure => have := HK1.out; omega
      case rel => exact ⟨(wrap64 (x5_1 + 1)), (sq), H', ⟨by have := HK1.out; omega⟩, Y8⟩
    ·rw [if_neg c4] at H
     exact absurd H (by simp)
   ·rw [if_neg c3] at H
    have c3b0 : decide (x5_1 < (l0.length : Int)) = false := decide_eq_false c3
    clear c3
    obtain rfl := Option.some.inj H
    go_wp2
    go_ret
    exact ⟨sq, Y8⟩
mutual
def spec_validTree.l0 : Nat → Int → List (S98) → Option (Bool)
 | 0, _, _ => none
 | k + 1, x3, x155000 => if x3 < (x155000.length : Int) then (if 0 ≤ x3 then ((spec_validName.f k ((rd_T98 x155000 x3).f0)).bind fun t158 => (if t158 = true then (if x3 ≤ (x155000.length : Int) then ((spec_classNamed.f k (x155000.take (x3 : Int).toNat) ((rd_T98 x155000 x3).f0)).bind fun t163 => (if t163 ≥ 0 then (spec_validTree.j1 k x3 true x155000) else (if x3 = 0 then (if ((rd_T98 x155000 x3).f1) = (-1) then (if x3 > 0 then ((spec_inRange.f ((rd_T98 x155000 x3).f1) 0 (wrap64 (x3 - 1))).bind fun t164 => (spec_validTree.j1 k x3 (!t164) x155000)) else (spec_validTree.j1 k x3 false x155000)) else (spec_validTree.j1 k x3 true x155000)) else (if x3 > 0 then ((spec_inRange.f ((rd_T98 x155000 x3).f1) 0 (wrap64 (x3 - 1))).bind fun t165 => (spec_validTree.j1 k x3 (!t165) x155000)) else (spec_validTree.j1 k x3 false x155000))))) else (none)) else (spec_validTree.j1 k x3 true x155000))) else (none)) else ((spec_inRange.f (x155000.length : Int) 1 8).bind fun t155 => (some t155))
def spec_validTree.j1 : Nat → Int → Bool → List (S98) → Option (Bool)
 | 0, _, _, _ => none
 | k + 1, x3, x51, x155000 => if x51 = true then (some false) else (spec_validTree.l0 k (wrap64 (x3 + 1)) x155000)
end
def spec_validTree.f (k : Nat) (l0_0 : List (S98)) : Option (Bool) := spec_validTree.l0 k 0 l0_0
set_option maxHeartbeats 8000000 in
set_option maxRecDepth 100000 in
theorem spec_validTree.calls (k : Nat) (A0_0 : Option Addr) (c0_0 : Nat) (l0_0 : List (S98)) (r : Bool) (w : World) (hr0_0 : Kd.C k98 w A0_0 l0_0.length l0_0) (hc0_0 : l0_0.length ≤ c0_0) (h : spec_validTree.f k l0_0 = some r) :
  Calls Try.prog 64 #[.agg #[.slice A0_0 l0_0.length c0_0]] w fun e w' => e = .returned (.bool r) ∧ Below w.heap.size w w' := by
 have hu32 := Try.underlying32
 have hu98 := Try.underlying98
 have HR0_0 := am hr0_0
 have HC0_0 := am hc0_0
 clear hr0_0 hc0_0
 have HB := am (Below.refl w.heap.size w)
 have H : (spec_validTree.l0 k 0 l0_0) = some r := h
 clear h
 have H' := am H
 clear H
 go_enter Try.func64, Try.ntmps64
 go_wp2_with (first | ((with_reducible refine gate_dst (N := 1) rfl ?_); refine bE (N := 1) (cs := #[.slice A0_0 l0_0.length c0_0]) (t := 32) ?_; intro gb154 hg w2 hbox hb; have BK154 := am (hbox); have GW154 := am ((Y11 : w.heap.size ≤ gb154)); have GE154 := am ((Y11 : w.heap.size ≤ gb154)); replace HB := am (below_step (bq) hb); clear hb hbox hg))
 go_loopg [3] k (fun kq v3 w' => ∃ (x3_1 : Int), v3 = .int .i64 x3_1 ∧ Aside0 (spec_validTree.l0 kq x3_1 l0_0 = some r) ∧ Aside0 (kq ≤ k) ∧ Aside0 (w'.heap[gb154]? = some (.cells #[(.slice A0_0 l0_0.length c0_0)] 32 (0, 0))) ∧ Aside0 (Below w.heap.size w w'))
 case atStart => exact ⟨(0), (sq), H', ⟨Nat.le_refl _⟩, ⟨kq BK154.out⟩, ⟨Y37⟩⟩
 case round =>
  clear H'
  try clear c1
  try clear p2
  obtain ⟨x3_1, rfl, HA, HK1, BK154, HB⟩ := hrel
  cases gk with
  | zero => exact absurd HA.out (by simp [spec_validTree.l0])
  | succ k1 =>
   have H := HA.out
   clear HA
   simp only [spec_validTree.l0] at H
   by_cases c3 : x3_1 < (l0_0.length : Int)
   ·rw [if_pos c3] at H
    have c3b0 : decide (x3_1 < (l0_0.length : Int)) = true := decide_eq_true c3
    clear c3
    by_cases c4 : 0 ≤ x3_1
    ·rw [if_pos c4] at H
     have c4b0 : decide (0 ≤ x3_1) = true := decide_eq_true c4
     clear c4
     have HC5 := am H
     clear H
     have hcz6_0 := bc0 BK154.out
     have hfz6_0 := blk_frozen BK154.out 0
     have p156 : 0 ≤ (x3_1 : Int) := of_decide_eq_true (uq)
     have q156 : x3_1 < (l0_0.length : Int) := of_decide_eq_true (uq)
     obtain ⟨ad156, e156, hx156_0, hx156_1⟩ := at_T98 HR0_0.out x3_1 p156 q156
     cases e156
     replace hx156_0 := cb HB.out hx156_0
     replace hx156_1 := cb HB.out hx156_1
     replace p156 := eq_true p156
     replace q156 := eq_true q156
     go_upto_region 5 with (first | ((with_reducible refine gate_dst (N := 4) rfl ?_); refine bE (N := 4) (cs := #[.string (⟨#[]⟩ : ByteArray), .int .i64 0]) (t := 98) ?_; intro gb157 hg w7 hbox hb; have BK157 := am (hbox); have GW157 := am ((Y107 : w.heap.size ≤ gb157)); have GE157 := am ((Y107 : w.heap.size ≤ gb157)); have NB154_157 := am ((by rw [hg]; exact Nat.ne_of_lt (blk_lt (g := gb154) (o := .cells #[.slice (some ad156) l0_0.length c0_0] 32 (0, 0)) (kq BK154.out)) : gb154 ≠ gb157)); have NB157_154 := am ((by rw [hg]; exact Nat.ne_of_gt (blk_lt (g := gb154) (o := .cells #[.slice (some ad156) l0_0.length c0_0] 32 (0, 0)) (kq BK154.out)) : gb157 ≠ gb154)); replace BK154 := am (blk_below (g := gb154) (o := .cells #[.slice (some ad156) l0_0.length c0_0] 32 (0, 0)) (kq BK154.out) hb); replace HB := am (below_step (Y37) hb); clear hb hbox hg; have hnb8 := NB157_154.out; have hnc8 := NB154_157.out; have hcz9_0 := bc0 BK157.out; have hcz9_1 := bc1 BK157.out; have hfz9_0 := blk_frozen BK157.out 0; have hfz9_1 := blk_frozen BK157.out 1))
     (try simp only [Act.put, List.setIfInBounds_toArray, List.set_cons_zero, List.set_cons_succ])
     go_cut [51] (fun v51 wc => ∃ (kq : Nat) (x51_4 : Bool), v51 = .bool x51_4 ∧ Aside0 (spec_validTree.j1 kq x3_1 x51_4 l0_0 = some r) ∧ Aside0 (kq ≤ k1) ∧ Aside0 (wc.heap[gb154]? = some (.cells #[(.slice (some ad156) l0_0.length c0_0)] 32 (0, 0))) ∧ Aside0 (wc.heap[gb157]? = some (.cells #[.string ((rd_T98 l0_0 x3_1).f0), .int .i64 ((rd_T98 l0_0 x3_1).f1)] 98 (0, 0))) ∧ Aside0 (Below w.heap.size w wc))
     case first =>
      have n0_ : Aside0 (((w7.setCell ⟨gb157, 0, none⟩ (.string ((rd_T98 l0_0 x3_1).f0))).setCell ⟨gb157, 1, none⟩ (.int .i64 ((rd_T98 l0_0 x3_1).f1))).heap[gb154]? = some (.cells #[.slice (some ad156) l0_0.length c0_0] 32 (0, 0))) := ⟨by (with_reducible repeat (first | refine blk_drewN ?_ _ | refine blk_drew ?_ | refine blk_alloc ?_ _)); refine blk_far ?_ NB154_157.out _; (with_reducible repeat (first | refine blk_drewN ?_ _ | refine blk_drew ?_ | refine blk_alloc ?_ _)); refine blk_far ?_ NB154_157.out _; (with_reducible repeat (first | refine blk_drewN ?_ _ | refine blk_drew ?_ | refine blk_alloc ?_ _)); exact BK154.out⟩
      have n1_ : Aside0 (((w7.setCell ⟨gb157, 0, none⟩ (.string ((rd_T98 l0_0 x3_1).f0))).setCell ⟨gb157, 1, none⟩ (.int .i64 ((rd_T98 l0_0 x3_1).f1))).heap[gb157]? = some (.cells #[.string ((rd_T98 l0_0 x3_1).f0), .int .i64 ((rd_T98 l0_0 x3_1).f1)] 98 (0, 0))) := ⟨by (with_reducible repeat (first | refine blk_drewN ?_ _ | refine blk_drew ?_ | refine blk_alloc ?_ _)); refine blk_put (cs := #[.string ((rd_T98 l0_0 x3_1).f0), .int .i64 0]) ?_ 1 _ rfl; (with_reducible repeat (first | refine blk_drewN ?_ _ | refine blk_drew ?_ | refine blk_alloc ?_ _)); refine blk_put (cs := #[.string (⟨#[]⟩ : ByteArray), .int .i64 0]) ?_ 0 _ rfl; (with_reducible repeat (first | refine blk_drewN ?_ _ | refine blk_drew ?_ | refine blk_alloc ?_ _)); exact BK157.out⟩
      have n2_ : Aside0 (Below w.heap.size w ((w7.setCell ⟨gb157, 0, none⟩ (.string ((rd_T98 l0_0 x3_1).f0))).setCell ⟨gb157, 1, none⟩ (.int .i64 ((rd_T98 l0_0 x3_1).f1)))) := ⟨Y99⟩
      clear BK154 BK157 HB hcz9_0 hcz9_1 hfz9_0 hfz9_1
      generalize ((w7.setCell ⟨gb157, 0, none⟩ (.string ((rd_T98 l0_0 x3_1).f0))).setCell ⟨gb157, 1, none⟩ (.int .i64 ((rd_T98 l0_0 x3_1).f1))) = w16 at n0_ n1_ n2_ ⊢
      have BK154 := n0_
      have BK157 := n1_
      have HB := n2_
      clear n0_ n1_ n2_
      have HRW := am (Kd.C_below HR0_0.out HB.out)
      have e0 : w16.cell? ⟨gb157, 0, none⟩ = some (.string ((rd_T98 l0_0 x3_1).f0)) := (blk_cell BK157.out 0).trans rfl
      have e1 : w16.cell? ⟨gb157, 1, none⟩ = some (.int .i64 ((rd_T98 l0_0 x3_1).f1)) := (blk_cell BK157.out 1).trans rfl
      have e2 : w16.cell? ⟨gb154, 0, none⟩ = some (.slice (some ad156) l0_0.length c0_0) := (blk_cell BK154.out 0).trans rfl
      have H := HC5.out
      clear HC5
      obtain ⟨v, hv, H⟩ := Option.bind_eq_some_iff.mp H
      have HN := am (fun W => (spec_validName.calls k1 _ v W hv).mono fun e w' h => (⟨h.1, h.2.out⟩ : e = .returned (.bool v) ∧ ∃ m, w' = W.drewN m))
      clear hv hx156_0 hx156_1
      generalize hgx : rd_T98 l0_0 x3_1 = x at H e0 e1 HN BK157
      have HGX := am hgx
      clear hgx
      cases v with
      | false =>
       have H' := am (show spec_validTree.j1 k1 x3_1 true l0_0 = some r from H)
       clear H
       go_big_quiet ((go_at_call 92; exact Calls.quiet_of (HN.out _)))
       go_wp2
       go_meet
       case rel => exact ⟨_, _, rfl, H', ⟨by have := HK1.out; omega⟩, ⟨blk_drewN BK154.out _⟩, ⟨by rw [HGX.out]; exact blk_drewN BK157.out _⟩, ⟨pw_below_drewN HB.out _⟩⟩
      | true =>
       replace H : (if x3_1 ≤ (l0_0.length : Int) then ((spec_classNamed.f k1 (l0_0.take (x3_1 : Int).toNat) x.f0).bind fun t163 => (if t163 ≥ 0 then (spec_validTree.j1 k1 x3_1 true l0_0) else (if x3_1 = 0 then (if x.f1 = (-1) then (if x3_1 > 0 then ((spec_inRange.f x.f1 0 (wrap64 (x3_1 - 1))).bind fun t164 => (spec_validTree.j1 k1 x3_1 (!t164) l0_0)) else (spec_validTree.j1 k1 x3_1 false l0_0)) else (spec_validTree.j1 k1 x3_1 true l0_0)) else (if x3_1 > 0 then ((spec_inRange.f x.f1 0 (wrap64 (x3_1 - 1))).bind fun t165 => (spec_validTree.j1 k1 x3_1 (!t165) l0_0)) else (spec_validTree.j1 k1 x3_1 false l0_0))))) else (none)) = some r := H
       have hle : x3_1 ≤ (l0_0.length : Int) := by have := of_decide_eq_true c3b0; omega
       have h0 : 0 ≤ x3_1 := of_decide_eq_true c4b0
       rw [if_pos hle] at H
       obtain ⟨c, hc, H⟩ := Option.bind_eq_some_iff.mp H
       obtain ⟨i0, hi0, _, _, _⟩ := info_parts info98
       have hcut := cut_to (P := Try.prog) 30 98 .i64 Try.underlying30 hi0 (some ad156) l0_0.length c0_0 x3_1 h0 hle HC0_0.out
       have hr18 := Kd.C_take (m := (x3_1 : Int).toNat) HRW.out (by omega)
       obtain ⟨y, hy⟩ : ∃ y : List S98, y = l0_0.take (x3_1 : Int).toNat := ⟨_, rfl⟩
       have hyl : y.length = (x3_1 : Int).toNat := by rw [hy, List.length_take]; omega
       have hyc : y.length ≤ c0_0 := by have := HC0_0.out; omega
       rw [← hy] at hr18
       rw [← hyl] at hcut
       rw [← hy] at hc
       have HCN := am (fun m => (spec_classNamed.calls k1 _ _ y x.f0 c (w16.drewN m) (Kd.C_drewN hr18 m) hyc hc).mono fun e w' h => (⟨h.1, h.2.out⟩ : e = .returned (.int .i64 c) ∧ ∃ m', w' = (w16.drewN m).drewN m'))
       clear hr18 hc hy hyl hyc
       have b0 := eq_true h0
       have b1 := eq_true hle
       by_cases hc0 : c ≥ 0
       ·rw [if_pos hc0] at H
        have b2 : decide (0 ≤ c) = true := decide_eq_true hc0
        have H' := am H
        clear H hc0 h0 hle
        go_big_quiet (first | (go_at_call 92; exact Calls.quiet_of (HN.out _)) | (go_at_call 93; exact Calls.quiet_of (HCN.out _)))
        go_wp2
        go_meet
        case rel => exact ⟨_, _, rfl, H', ⟨by have := HK1.out; omega⟩, ⟨blk_drewN BK154.out _⟩, ⟨by rw [HGX.out]; exact blk_drewN BK157.out _⟩, ⟨pw_below_drewN HB.out _⟩⟩
       ·rw [if_neg hc0] at H
        have b2 : decide (0 ≤ c) = false := decide_eq_false hc0
        clear hc0
        by_cases hz : x3_1 = 0
        ·rw [if_pos hz] at H
         have b3 : (x3_1 == 0) = true := beq_iff_eq.2 hz
         have b4 : decide (0 < x3_1) = false := decide_eq_false (by omega)
         by_cases hf : x.f1 = -1
         ·rw [if_pos hf, if_neg (by omega)] at H
          have b5 : (x.f1 != -1) = false := by simpa using hf
          have H' := am H
          clear H hf h0 hle hz
          go_big_quiet (first | (go_at_call 92; exact Calls.quiet_of (HN.out _)) | (go_at_call 93; exact Calls.quiet_of (HCN.out _)))
          go_wp2
          go_meet
          case rel => exact ⟨_, _, rfl, H', ⟨by have := HK1.out; omega⟩, ⟨blk_drewN BK154.out _⟩, ⟨by rw [HGX.out]; exact blk_drewN BK157.out _⟩, ⟨pw_below_drewN HB.out _⟩⟩
         ·rw [if_neg hf] at H
          have b5 : (x.f1 != -1) = true := by simpa using hf
          have H' := am H
          clear H hf h0 hle hz
          go_big_quiet (first | (go_at_call 92; exact Calls.quiet_of (HN.out _)) | (go_at_call 93; exact Calls.quiet_of (HCN.out _)))
          go_wp2
          go_meet
          case rel => exact ⟨_, _, rfl, H', ⟨by have := HK1.out; omega⟩, ⟨blk_drewN BK154.out _⟩, ⟨by rw [HGX.out]; exact blk_drewN BK157.out _⟩, ⟨pw_below_drewN HB.out _⟩⟩
        ·rw [if_neg hz, if_pos (by omega)] at H
         have b3 : (x3_1 == 0) = false := beq_eq_false_iff_ne.2 hz
         have b4 : decide (0 < x3_1) = true := decide_eq_true (by omega)
         obtain ⟨t, ht, H⟩ := Option.bind_eq_some_iff.mp H
         have H' := am H
         have HI := am (fun W => (spec_inRange.calls _ _ _ t W ht).mono fun e w' h => (⟨h.1, h.2.out⟩ : e = .returned (.bool t) ∧ ∃ m, w' = W.drewN m))
         clear H ht h0 hle hz
         go_big_quiet (first | (go_at_call 92; exact Calls.quiet_of (HN.out _)) | (go_at_call 93; exact Calls.quiet_of (HCN.out _)) | (go_at_call 60; exact Calls.quiet_of (HI.out _)))
         go_wp2
         go_meet
         case rel => exact ⟨_, _, rfl, H', ⟨by have := HK1.out; omega⟩, ⟨blk_drewN BK154.out _⟩, ⟨by rw [HGX.out]; exact blk_drewN BK157.out _⟩, ⟨pw_below_drewN HB.out _⟩⟩
     case rest =>
      clear HC5
      try clear c1
      try clear c2
      try clear p2
      try clear c3
      try clear q3
      try clear p6
      try clear c11
      try clear c12
      try clear c13
      try clear c21
      try clear c32
      try clear c32b0
      try clear q39
      try clear q39
      obtain ⟨kq, x51_4, rfl, HA, HJ4, BK154, BK157, HB⟩ := hcut
      cases kq with
      | zero => exact absurd HA.out (by simp [spec_validTree.j1])
      | succ kj4 =>
       have H := HA.out
       clear HA
       simp only [spec_validTree.j1] at H
       by_cases c42 : x51_4 = true
       ·subst c42
        have H1 : (some false) = some r := by rw [if_pos rfl] at H; exact H
        clear H
        have H := H1
        clear H1
        obtain rfl := Option.some.inj H
        go_wp2
        go_ret
        exact ⟨Y0, Y99⟩
       ·replace c42 := Bool.eq_false_iff.mpr c42
        subst c42
        have H1 : (spec_validTree.l0 kj4 (wrap64 (x3_1 + 1)) l0_0) = some r := by rw [if_neg (show ¬ (false = true) by decide)] at H; exact H
        clear H
        have H := H1
        clear H1
        have H' := am H
        clear H
        go_wp2
        go_roundg kj4
        case measure => have := HK1.out; have := HJ4.out; omega
        case rel => exact ⟨(wrap64 (x3_1 + 1)), (sq), H', ⟨by have := HK1.out; have := HJ4.out; omega⟩, ⟨kq BK154.out⟩, ⟨Y99⟩⟩
    ·rw [if_neg c4] at H
     exact absurd H (by simp)
   ·rw [if_neg c3] at H
    have c3b0 : decide (x3_1 < (l0_0.length : Int)) = false := decide_eq_false c3
    clear c3
    replace H := Option.bind_eq_some_iff.mp H
    obtain ⟨t155, A430, H⟩ := H
    replace H : (some t155) = some r := H
    have A43 := am A430
    clear A430
    obtain rfl := Option.some.inj H
    have hcz44_0 := bc0 BK154.out
    have hfz44_0 := blk_frozen BK154.out 0
    go_wp2_with (first | ((with_reducible refine gate_callee (f := 60) rfl ?_); refine gL (some 55) Try.func60 #[.int .i64 (l0_0.length : Int), .int .i64 1, .int .i64 8] ?_; (with_reducible refine (spec_inRange.calls (l0_0.length : Int) 1 8 t155 _ A43.out).mono ?_); rintro e w' ⟨rfl, ⟨nd, rfl⟩⟩; refine ⟨_, rfl, ?_⟩))
    go_ret
    exact ⟨Y0, Y37⟩
def spec_validProgram.l0 : Nat → List (S59) → Int → List (S98) → Option (Bool)
 | 0, _, _, _ => none
 | k + 1, x1, x5, x155000 => if x5 < (x1.length : Int) then ((spec_validLine.f k x155000 x1 x5).bind fun t156 => (if t156 = true then (spec_validProgram.l0 k x1 (wrap64 (x5 + 1)) x155000) else (some false))) else ((spec_validTree.f k x155000).bind fun t155 => (if t155 = true then (some (decide ((x1.length : Int) ≤ 24))) else (some false)))
def spec_validProgram.f (k : Nat) (l0_0 : List (S98)) (l1 : List (S59)) : Option (Bool) := spec_validProgram.l0 k l1 0 l0_0
set_option maxHeartbeats 8000000 in
set_option maxRecDepth 100000 in
theorem spec_validProgram.calls (k : Nat) (A0_0 : Option Addr) (c0_0 : Nat) (l0_0 : List (S98)) (A1 : Option Addr) (c1 : Nat) (l1 : List (S59)) (r : Bool) (w : World) (hr0_0 : Kd.C k98 w A0_0 l0_0.length l0_0) (hc0_0 : l0_0.length ≤ c0_0) (hr1 : Kd.C k59 w A1 l1.length l1) (hc1 : l1.length ≤ c1) (h : spec_validProgram.f k l0_0 l1 = some r) :
  Calls Try.prog 29 #[.agg #[.slice A0_0 l0_0.length c0_0], .slice A1 l1.length c1] w fun e w' => e = .returned (.bool r) ∧ Below w.heap.size w w' := by
 have hu32 := Try.underlying32
 have HR0_0 := am hr0_0
 have HC0_0 := am hc0_0
 clear hr0_0 hc0_0
 have HR1 := am hr1
 have HC1 := am hc1
 clear hr1 hc1
 have HB := am (Below.refl w.heap.size w)
 have H : (spec_validProgram.l0 k l1 0 l0_0) = some r := h
 clear h
 have H' := am H
 clear H
 go_enter Try.func29, Try.ntmps29
 go_wp2_with (first | ((with_reducible refine gate_dst (N := 2) rfl ?_); (try (refine gate_guard (by rfl) ?_; dsimp only)); refine box_event ?hg (N := 2) ?hd (cs := #[.slice A0_0 l0_0.length c0_0]) (t := 32) ?hr ?_; (case hd => rfl); (case hg => rfl); (case hr => exact Y5); intro gb154 hg w3 hbox hb; have BK154 := am (hbox); have GW154 := am ((Y11 : w.heap.size ≤ gb154)); have GE154 := am ((Y11 : w.heap.size ≤ gb154)); replace HB := am (below_step (bq) hb); clear hb hbox hg))
 go_loopg [5] k (fun kq v5 w' => ∃ (x5_1 : Int), v5 = .int .i64 x5_1 ∧ Aside0 (spec_validProgram.l0 kq l1 x5_1 l0_0 = some r) ∧ Aside0 (kq ≤ k) ∧ Aside0 (w'.heap[gb154]? = some (.cells #[(.slice A0_0 l0_0.length c0_0)] 32 (0, 0))) ∧ Aside0 (Below w.heap.size w w'))
 case atStart => exact ⟨(0), (sq), H', ⟨Nat.le_refl _⟩, ⟨kq BK154.out⟩, ⟨Y37⟩⟩
 case round =>
  clear H'
  try clear c1
  try clear c2
  try clear p2
  obtain ⟨x5_1, rfl, HA, HK1, BK154, HB⟩ := hrel
  cases gk with
  | zero => exact absurd HA.out (by simp [spec_validProgram.l0])
  | succ k1 =>
   have H := HA.out
   clear HA
   simp only [spec_validProgram.l0] at H
   by_cases c4 : x5_1 < (l1.length : Int)
   ·rw [if_pos c4] at H
    have c4b0 : decide (x5_1 < (l1.length : Int)) = true := decide_eq_true c4
    clear c4
    replace H := Option.bind_eq_some_iff.mp H
    obtain ⟨t156, A50, H⟩ := H
    replace H : (if t156 = true then (spec_validProgram.l0 k1 l1 (wrap64 (x5_1 + 1)) l0_0) else (some false)) = some r := H
    have A5 := am A50
    clear A50
    by_cases c6 : t156 = true
    ·subst c6
     have H1 : (spec_validProgram.l0 k1 l1 (wrap64 (x5_1 + 1)) l0_0) = some r := by rw [if_pos rfl] at H; exact H
     clear H
     have H := H1
     clear H1
     have H' := am H
     clear H
     have hcz7_0 := bc0 BK154.out
     have hfz7_0 := blk_frozen BK154.out 0
     go_wp2_with (first | ((with_reducible refine gate_callee (f := 63) rfl ?_); refine gL (some 15) Try.func63 #[.agg #[.slice A0_0 l0_0.length c0_0], .slice A1 l1.length c1, .int .i64 x5_1] ?_; (with_reducible refine (spec_validLine.calls k1 _ _ l0_0 _ _ l1 x5_1 true _ ?side1 ?side2 ?side3 ?side4 A5.out).mono ?_); (case side1 => exact cq (Kd.C_below HR0_0.out HB.out)); (case side2 => exact HC0_0.out); (case side3 => exact cq (Kd.C_below HR1.out HB.out)); (case side4 => exact HC1.out); rintro e w8 ⟨rfl, hb⟩; refine ⟨_, rfl, ?_⟩; replace BK154 := am (blk_below (g := gb154) (o := .cells #[.slice A0_0 l0_0.length c0_0] 32 (0, 0)) (kq BK154.out) hb); replace HB := am (below_step (Y37) hb); (try clear hb); (try clear hb2); (try clear hk); (try clear hi)))
     go_roundg k1
     case measure => have := HK1.out; omega
     case rel => exact ⟨(wrap64 (x5_1 + 1)), (sq), H', ⟨by have := HK1.out; omega⟩, ⟨kq BK154.out⟩, ⟨Y37⟩⟩
    ·replace c6 := Bool.eq_false_iff.mpr c6
     subst c6
     have H1 : (some false) = some r := by rw [if_neg (show ¬ (false = true) by decide)] at H; exact H
     clear H
     have H := H1
     clear H1
     obtain rfl := Option.some.inj H
     have hcz9_0 := bc0 BK154.out
     have hfz9_0 := blk_frozen BK154.out 0
     go_wp2_with (first | ((with_reducible refine gate_callee (f := 63) rfl ?_); refine gL (some 15) Try.func63 #[.agg #[.slice A0_0 l0_0.length c0_0], .slice A1 l1.length c1, .int .i64 x5_1] ?_; (with_reducible refine (spec_validLine.calls k1 _ _ l0_0 _ _ l1 x5_1 false _ ?side1 ?side2 ?side3 ?side4 A5.out).mono ?_); (case side1 => exact cq (Kd.C_below HR0_0.out HB.out)); (case side2 => exact HC0_0.out); (case side3 => exact cq (Kd.C_below HR1.out HB.out)); (case side4 => exact HC1.out); rintro e w10 ⟨rfl, hb⟩; refine ⟨_, rfl, ?_⟩; replace BK154 := am (blk_below (g := gb154) (o := .cells #[.slice A0_0 l0_0.length c0_0] 32 (0, 0)) (kq BK154.out) hb); replace HB := am (below_step (Y37) hb); (try clear hb); (try clear hb2); (try clear hk); (try clear hi)))
     go_ret
     exact ⟨Y0, Y37⟩
   ·rw [if_neg c4] at H
    have c4b0 : decide (x5_1 < (l1.length : Int)) = false := decide_eq_false c4
    clear c4
    replace H := Option.bind_eq_some_iff.mp H
    obtain ⟨t155, A110, H⟩ := H
    replace H : (if t155 = true then (some (decide ((l1.length : Int) ≤ 24))) else (some false)) = some r := H
    have A11 := am A110
    clear A110
    by_cases c12 : t155 = true
    ·subst c12
     have H1 : (some (decide ((l1.length : Int) ≤ 24))) = some r := by rw [if_pos rfl] at H; exact H
     clear H
     have H := H1
     clear H1
     obtain rfl := Option.some.inj H
     have hcz13_0 := bc0 BK154.out
     have hfz13_0 := blk_frozen BK154.out 0
     go_wp2_with (first | ((with_reducible refine gate_callee (f := 64) rfl ?_); refine gL (some 18) Try.func64 #[.agg #[.slice A0_0 l0_0.length c0_0]] ?_; (with_reducible refine (spec_validTree.calls k1 _ _ l0_0 true _ ?side1 ?side2 A11.out).mono ?_); (case side1 => exact cq (Kd.C_below HR0_0.out HB.out)); (case side2 => exact HC0_0.out); rintro e w14 ⟨rfl, hb⟩; refine ⟨_, rfl, ?_⟩; replace BK154 := am (blk_below (g := gb154) (o := .cells #[.slice A0_0 l0_0.length c0_0] 32 (0, 0)) (kq BK154.out) hb); replace HB := am (below_step (Y37) hb); (try clear hb); (try clear hb2); (try clear hk); (try clear hi)))
     go_ret
     exact ⟨Y0, Y37⟩
    ·replace c12 := Bool.eq_false_iff.mpr c12
     subst c12
     have H1 : (some false) = some r := by rw [if_neg (show ¬ (false = true) by decide)] at H; exact H
     clear H
     have H := H1
     clear H1
     obtain rfl := Option.some.inj H
     have hcz15_0 := bc0 BK154.out
     have hfz15_0 := blk_frozen BK154.out 0
     go_wp2_with (first | ((with_reducible refine gate_callee (f := 64) rfl ?_); refine gL (some 18) Try.func64 #[.agg #[.slice A0_0 l0_0.length c0_0]] ?_; (with_reducible refine (spec_validTree.calls k1 _ _ l0_0 false _ ?side1 ?side2 A11.out).mono ?_); (case side1 => exact cq (Kd.C_below HR0_0.out HB.out)); (case side2 => exact HC0_0.out); rintro e w16 ⟨rfl, hb⟩; refine ⟨_, rfl, ?_⟩; replace BK154 := am (blk_below (g := gb154) (o := .cells #[.slice A0_0 l0_0.length c0_0] 32 (0, 0)) (kq BK154.out) hb); replace HB := am (below_step (Y37) hb); (try clear hb); (try clear hb2); (try clear hk); (try clear hi)))
     go_ret
     exact ⟨Y0, Y37⟩
end Go.Proofs.Ytbcjbcjpoddkoaa.P
end
