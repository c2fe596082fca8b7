/- One part of the proofs on this program: functions of the program as plain functions, that the code comes to them, and facts on them. -/
import Derived.Test.YtbcjbcjpoddkoaaYAll1
import Derived.Test.YtbcjbcjpoddkoaaYAll2
import Derived.Test.YtbcjbcjpoddkoaaYAll4
import Derived.Test.YtbcjbcjpoddkoaaYAll5
import Derived.Test.YtbcjbcjpoddkoaaYWAuto
section
namespace Go.Proofs.Ytbcjbcjpoddkoaa.P
open Go.RowKit Go.Proofs.YtbcjbcjpoddkoaaW.PrintWords Go.Proofs.YtbcjbcjpoddkoaaW.PrintLast Go.Proofs.YtbcjbcjpoddkoaaW.PrintMore
attribute [local go_sem] max2_int min2_int max_two min_two max_three min_three max_four min_four isSome_cell_setCell
set_option linter.unusedVariables false
set_option linter.unusedSimpArgs false
def laws_heldRangeS.l0 : Nat → List (S48) → Int → Int → Option (Int)
 | 0, _, _, _ => none
 | k + 1, x0, x1, x5 => if x5 < (x0.length : Int) then (if 0 ≤ x5 then (if ((rd_T48 x0 x5).f0) = x1 then (if ((rd_T48 x0 x5).f1) = (wrap64 (x1 + 1)) then (if ((rd_T48 x0 x5).f2) = (wrap64 ((wrap64 (x1 + 1)) + 1)) then (if ((rd_T48 x0 x5).f3) = (wrap64 ((wrap64 ((wrap64 (x1 + 1)) + 1)) + 1)) then (laws_heldRangeS.l0 k x0 (wrap64 ((wrap64 ((wrap64 ((wrap64 (x1 + 1)) + 1)) + 1)) + 1)) (wrap64 (x5 + 1))) else (some (-1))) else (some (-1))) else (some (-1))) else (some (-1))) else (none)) else (some x1)
def laws_heldRangeS.f (k : Nat) (l0 : List (S48)) (a1 : Int) : Option (Int) := laws_heldRangeS.l0 k l0 a1 0
set_option maxHeartbeats 8000000 in
set_option maxRecDepth 100000 in
theorem laws_heldRangeS.calls (k : Nat) (A0 : Option Addr) (c0 : Nat) (l0 : List (S48)) (a1 : Int) (r : Int) (w : World) (hr0 : Kd.C k48 w A0 l0.length l0) (hc0 : l0.length ≤ c0) (h : laws_heldRangeS.f k l0 a1 = some r) :
  Calls Try.prog 19 #[.slice A0 l0.length c0, .int .i64 a1] w fun e w' => e = .returned (.int .i64 r) ∧ Drawn0 w w' := by
 have HR0 := am hr0
 have HC0 := am hc0
 clear hr0 hc0
 have H : (laws_heldRangeS.l0 k l0 a1 0) = some r := h
 clear h
 have H' := am H
 clear H
 go_enter Try.func19, Try.ntmps19
 go_wp2
 go_loopg [1, 5] k (fun kq v1 v5 w' => ∃ (x1_1 : Int) (x5_1 : Int), v1 = .int .i64 x1_1 ∧ v5 = .int .i64 x5_1 ∧ Aside0 (laws_heldRangeS.l0 kq l0 x1_1 x5_1 = some r) ∧ Aside0 (kq ≤ k) ∧ Drawn0 w w')
 case atStart => exact ⟨(a1), (0), (sq), (sq), H', ⟨Nat.le_refl _⟩, Y2⟩
 case round =>
  clear H'
  try clear c1
  try clear p2
  obtain ⟨x1_1, x5_1, rfl, rfl, HA, HK1, ⟨m1, rfl⟩⟩ := hrel
  cases gk with
  | zero => exact absurd HA.out (by simp [laws_heldRangeS.l0])
  | succ k1 =>
   have H := HA.out
   clear HA
   simp only [laws_heldRangeS.l0] at H
   by_cases c3 : x5_1 < (l0.length : Int)
   ·rw [if_pos c3] at H
    have c3b0 : decide (x5_1 < (l0.length : Int)) = true := decide_eq_true c3
    clear c3
    by_cases c4 : 0 ≤ x5_1
    ·rw [if_pos c4] at H
     have c4b0 : decide (0 ≤ x5_1) = true := decide_eq_true c4
     clear c4
     by_cases c5 : ((rd_T48 l0 x5_1).f0) = x1_1
     ·rw [if_pos c5] at H
      have c5b0 : (((rd_T48 l0 x5_1).f0) == x1_1) = true := beq_iff_eq.mpr c5
      have c5b1 : (((rd_T48 l0 x5_1).f0) != x1_1) = false := bne_eq_false_iff_eq.mpr c5
      clear c5
      by_cases c6 : ((rd_T48 l0 x5_1).f1) = (wrap64 (x1_1 + 1))
      ·rw [if_pos c6] at H
       have c6b0 : (((rd_T48 l0 x5_1).f1) == (wrap64 (x1_1 + 1))) = true := beq_iff_eq.mpr c6
       have c6b1 : (((rd_T48 l0 x5_1).f1) != (wrap64 (x1_1 + 1))) = false := bne_eq_false_iff_eq.mpr c6
       clear c6
       by_cases c7 : ((rd_T48 l0 x5_1).f2) = (wrap64 ((wrap64 (x1_1 + 1)) + 1))
       ·rw [if_pos c7] at H
        have c7b0 : (((rd_T48 l0 x5_1).f2) == (wrap64 ((wrap64 (x1_1 + 1)) + 1))) = true := beq_iff_eq.mpr c7
        have c7b1 : (((rd_T48 l0 x5_1).f2) != (wrap64 ((wrap64 (x1_1 + 1)) + 1))) = false := bne_eq_false_iff_eq.mpr c7
        clear c7
        by_cases c8 : ((rd_T48 l0 x5_1).f3) = (wrap64 ((wrap64 ((wrap64 (x1_1 + 1)) + 1)) + 1))
        ·rw [if_pos c8] at H
         have c8b0 : (((rd_T48 l0 x5_1).f3) == (wrap64 ((wrap64 ((wrap64 (x1_1 + 1)) + 1)) + 1))) = true := beq_iff_eq.mpr c8
         have c8b1 : (((rd_T48 l0 x5_1).f3) != (wrap64 ((wrap64 ((wrap64 (x1_1 + 1)) + 1)) + 1))) = false := bne_eq_false_iff_eq.mpr c8
         clear c8
         have H' := am H
         clear H
         have p310 : 0 ≤ (x5_1 : Int) := of_decide_eq_true (uq)
         have q310 : x5_1 < (l0.length : Int) := of_decide_eq_true (uq)
         obtain ⟨ad310, e310, hx310_0, hx310_1, hx310_2, hx310_3⟩ := at_T48 HR0.out x5_1 p310 q310
         cases e310
         replace p310 := eq_true p310
         replace q310 := eq_true q310
         have p311 : 0 ≤ (x5_1 : Int) := of_decide_eq_true (uq)
         have q311 : x5_1 < (l0.length : Int) := of_decide_eq_true (uq)
         obtain ⟨ad311, e311, hx311_0, hx311_1, hx311_2, hx311_3⟩ := at_T48 HR0.out x5_1 p311 q311
         obtain rfl : ad310 = ad311 := (by injection e311)
         replace p311 := eq_true p311
         replace q311 := eq_true q311
         have p312 : 0 ≤ (x5_1 : Int) := of_decide_eq_true (uq)
         have q312 : x5_1 < (l0.length : Int) := of_decide_eq_true (uq)
         obtain ⟨ad312, e312, hx312_0, hx312_1, hx312_2, hx312_3⟩ := at_T48 HR0.out x5_1 p312 q312
         obtain rfl : ad310 = ad312 := (by injection e312)
         replace p312 := eq_true p312
         replace q312 := eq_true q312
         have p313 : 0 ≤ (x5_1 : Int) := of_decide_eq_true (uq)
         have q313 : x5_1 < (l0.length : Int) := of_decide_eq_true (uq)
         obtain ⟨ad313, e313, hx313_0, hx313_1, hx313_2, hx313_3⟩ := at_T48 HR0.out x5_1 p313 q313
         obtain rfl : ad310 = ad313 := (by injection e313)
         replace p313 := eq_true p313
         replace q313 := eq_true q313
         go_wp2
         go_roundg k1
         case measure => have := HK1.out; omega
         case rel => exact ⟨(wrap64 ((wrap64 ((wrap64 ((wrap64 (x1_1 + 1)) + 1)) + 1)) + 1)), (wrap64 (x5_1 + 1)), (sq), (sq), H', ⟨by have := HK1.out; omega⟩, Y2⟩
        ·rw [if_neg c8] at H
         have c8b0 : (((rd_T48 l0 x5_1).f3) == (wrap64 ((wrap64 ((wrap64 (x1_1 + 1)) + 1)) + 1))) = false := beq_eq_false_iff_ne.mpr c8
         have c8b1 : (((rd_T48 l0 x5_1).f3) != (wrap64 ((wrap64 ((wrap64 (x1_1 + 1)) + 1)) + 1))) = true := bne_iff_ne.mpr c8
         obtain rfl := Option.some.inj H
         have p310 : 0 ≤ (x5_1 : Int) := of_decide_eq_true (uq)
         have q310 : x5_1 < (l0.length : Int) := of_decide_eq_true (uq)
         obtain ⟨ad310, e310, hx310_0, hx310_1, hx310_2, hx310_3⟩ := at_T48 HR0.out x5_1 p310 q310
         cases e310
         replace p310 := eq_true p310
         replace q310 := eq_true q310
         have p311 : 0 ≤ (x5_1 : Int) := of_decide_eq_true (uq)
         have q311 : x5_1 < (l0.length : Int) := of_decide_eq_true (uq)
         obtain ⟨ad311, e311, hx311_0, hx311_1, hx311_2, hx311_3⟩ := at_T48 HR0.out x5_1 p311 q311
         obtain rfl : ad310 = ad311 := (by injection e311)
         replace p311 := eq_true p311
         replace q311 := eq_true q311
         have p312 : 0 ≤ (x5_1 : Int) := of_decide_eq_true (uq)
         have q312 : x5_1 < (l0.length : Int) := of_decide_eq_true (uq)
         obtain ⟨ad312, e312, hx312_0, hx312_1, hx312_2, hx312_3⟩ := at_T48 HR0.out x5_1 p312 q312
         obtain rfl : ad310 = ad312 := (by injection e312)
         replace p312 := eq_true p312
         replace q312 := eq_true q312
         have p313 : 0 ≤ (x5_1 : Int) := of_decide_eq_true (uq)
         have q313 : x5_1 < (l0.length : Int) := of_decide_eq_true (uq)
         obtain ⟨ad313, e313, hx313_0, hx313_1, hx313_2, hx313_3⟩ := at_T48 HR0.out x5_1 p313 q313
         obtain rfl : ad310 = ad313 := (by injection e313)
         replace p313 := eq_true p313
         replace q313 := eq_true q313
         go_wp2
         go_ret
         exact ⟨sq, Y2⟩
       ·rw [if_neg c7] at H
        have c7b0 : (((rd_T48 l0 x5_1).f2) == (wrap64 ((wrap64 (x1_1 + 1)) + 1))) = false := beq_eq_false_iff_ne.mpr c7
        have c7b1 : (((rd_T48 l0 x5_1).f2) != (wrap64 ((wrap64 (x1_1 + 1)) + 1))) = true := bne_iff_ne.mpr c7
        obtain rfl := Option.some.inj H
        have p310 : 0 ≤ (x5_1 : Int) := of_decide_eq_true (uq)
        have q310 : x5_1 < (l0.length : Int) := of_decide_eq_true (uq)
        obtain ⟨ad310, e310, hx310_0, hx310_1, hx310_2, hx310_3⟩ := at_T48 HR0.out x5_1 p310 q310
        cases e310
        replace p310 := eq_true p310
        replace q310 := eq_true q310
        have p311 : 0 ≤ (x5_1 : Int) := of_decide_eq_true (uq)
        have q311 : x5_1 < (l0.length : Int) := of_decide_eq_true (uq)
        obtain ⟨ad311, e311, hx311_0, hx311_1, hx311_2, hx311_3⟩ := at_T48 HR0.out x5_1 p311 q311
        obtain rfl : ad310 = ad311 := (by injection e311)
        replace p311 := eq_true p311
        replace q311 := eq_true q311
        have p312 : 0 ≤ (x5_1 : Int) := of_decide_eq_true (uq)
        have q312 : x5_1 < (l0.length : Int) := of_decide_eq_true (uq)
        obtain ⟨ad312, e312, hx312_0, hx312_1, hx312_2, hx312_3⟩ := at_T48 HR0.out x5_1 p312 q312
        obtain rfl : ad310 = ad312 := (by injection e312)
        replace p312 := eq_true p312
        replace q312 := eq_true q312
        go_wp2
        go_ret
        exact ⟨sq, Y2⟩
      ·rw [if_neg c6] at H
       have c6b0 : (((rd_T48 l0 x5_1).f1) == (wrap64 (x1_1 + 1))) = false := beq_eq_false_iff_ne.mpr c6
       have c6b1 : (((rd_T48 l0 x5_1).f1) != (wrap64 (x1_1 + 1))) = true := bne_iff_ne.mpr c6
       obtain rfl := Option.some.inj H
       have p310 : 0 ≤ (x5_1 : Int) := of_decide_eq_true (uq)
       have q310 : x5_1 < (l0.length : Int) := of_decide_eq_true (uq)
       obtain ⟨ad310, e310, hx310_0, hx310_1, hx310_2, hx310_3⟩ := at_T48 HR0.out x5_1 p310 q310
       cases e310
       replace p310 := eq_true p310
       replace q310 := eq_true q310
       have p311 : 0 ≤ (x5_1 : Int) := of_decide_eq_true (uq)
       have q311 : x5_1 < (l0.length : Int) := of_decide_eq_true (uq)
       obtain ⟨ad311, e311, hx311_0, hx311_1, hx311_2, hx311_3⟩ := at_T48 HR0.out x5_1 p311 q311
       obtain rfl : ad310 = ad311 := (by injection e311)
       replace p311 := eq_true p311
       replace q311 := eq_true q311
       go_wp2
       go_ret
       exact ⟨sq, Y2⟩
     ·rw [if_neg c5] at H
      have c5b0 : (((rd_T48 l0 x5_1).f0) == x1_1) = false := beq_eq_false_iff_ne.mpr c5
      have c5b1 : (((rd_T48 l0 x5_1).f0) != x1_1) = true := bne_iff_ne.mpr c5
      obtain rfl := Option.some.inj H
      have p310 : 0 ≤ (x5_1 : Int) := of_decide_eq_true (uq)
      have q310 : x5_1 < (l0.length : Int) := of_decide_eq_true (uq)
      obtain ⟨ad310, e310, hx310_0, hx310_1, hx310_2, hx310_3⟩ := at_T48 HR0.out x5_1 p310 q310
      cases e310
      replace p310 := eq_true p310
      replace q310 := eq_true q310
      go_wp2
      go_ret
      exact ⟨sq, Y2⟩
    ·rw [if_neg c4] at H
     exact absurd H (by simp)
   ·rw [if_neg c3] at H
    have c3b0 : decide (x5_1 < (l0.length : Int)) = false := decide_eq_false c3
    clear c3
    obtain rfl := Option.some.inj H
    go_wp2
    go_ret
    exact ⟨sq, Y2⟩
def laws_FnExactTableOf.j0 : Nat → List (S61) → List (S48) → List (S48) → Bool → List (S97) → Option (Bool)
 | 0, _, _, _, _, _ => none
 | k + 1, x1, x6, x9, x63, x315000 => if x63 = true then (some false) else ((laws_markRangeS.f k x9 1).bind fun bt350 => ((laws_heldRangeS.f k bt350.2 1).bind fun t352 => (if t352 < 0 then (some false) else (if t352 = bt350.1 then ((laws_toTree.f k x315000).bind fun t353 => ((laws_toLineS.f k x1).bind fun t356 => ((impl_TableOf.f k t353 t356).bind fun t359 => ((laws_eqRangeS.f k t359 x6).bind fun t362 => (if t362 = true then ((laws_heldRangeS.f k bt350.2 1).bind fun t363 => (if t363 < 0 then (some false) else (if t363 = bt350.1 then (some true) else (some false)))) else (some false)))))) else (some false)))))
def laws_FnExactTableOf.f (k : Nat) (l0_0 : List (S97)) (l1 : List (S61)) : Option (Bool) := (laws_szTree.f k l0_0 1048576).bind fun t315 => (if t315 < 0 then (some true) else ((laws_szLineS.f l1 t315).bind fun t316 => (if t316 < 0 then (some true) else ((laws_toTree.f k l0_0).bind fun t317 => ((laws_toLineS.f k l1).bind fun t320 => ((spec_TableOf.f k t317 t320).bind fun t323 => ((laws_toTree.f k l0_0).bind fun t326 => ((laws_toLineS.f k l1).bind fun t330 => ((impl_TableOf.f k t326 t330).bind fun t333 => ((laws_eqRangeS.f k t333 t323).bind fun t336 => (if t336 = true then ((laws_toTree.f k l0_0).bind fun t337 => ((laws_eqTree.f k t326 t337).bind fun t340 => (if t340 = true then ((laws_toLineS.f k l1).bind fun t341 => ((laws_eqLineS.f k t330 t341).bind fun t344 => (if t344 = true then ((laws_markTree.f k t326 1).bind fun bt345 => ((laws_markLineS.f k t330 bt345.1).bind fun bt347 => (if bt347.1 < 0 then (laws_FnExactTableOf.j0 k l1 t323 t333 true l0_0) else ((laws_eqRangeS.f k t333 t323).bind fun t349 => (laws_FnExactTableOf.j0 k l1 t323 t333 (!t349) l0_0))))) else (some false)))) else (some false)))) else (some false))))))))))))
set_option maxHeartbeats 8000000 in
set_option maxRecDepth 100000 in
theorem laws_FnExactTableOf.calls (k : Nat) (A0_0 : Option Addr) (c0_0 : Nat) (l0_0 : List (S97)) (A1 : Option Addr) (c1 : Nat) (l1 : List (S61)) (r : Bool) (w : World) (hr0_0 : Kd.C k97 w A0_0 l0_0.length l0_0) (hc0_0 : l0_0.length ≤ c0_0) (hr1 : Kd.C k61 w A1 l1.length l1) (hc1 : l1.length ≤ c1) (hT : r = true) (h : laws_FnExactTableOf.f k l0_0 l1 = some r) :
  Calls Try.prog 3 #[.agg #[.slice A0_0 l0_0.length c0_0], .slice A1 l1.length c1] w fun e w' => e = .returned (.bool r) ∧ Below w.heap.size w w' := by
 have hu24 := Try.underlying24
 have hu32 := Try.underlying32
 have HR0_0 := am hr0_0
 have HC0_0 := am hc0_0
 clear hr0_0 hc0_0
 have HR1 := am hr1
 have HC1 := am hc1
 clear hr1 hc1
 have HB := am (Below.refl w.heap.size w)
 have H : ((laws_szTree.f k l0_0 1048576).bind fun t315 => (if t315 < 0 then (some true) else ((laws_szLineS.f l1 t315).bind fun t316 => (if t316 < 0 then (some true) else ((laws_toTree.f k l0_0).bind fun t317 => ((laws_toLineS.f k l1).bind fun t320 => ((spec_TableOf.f k t317 t320).bind fun t323 => ((laws_toTree.f k l0_0).bind fun t326 => ((laws_toLineS.f k l1).bind fun t330 => ((impl_TableOf.f k t326 t330).bind fun t333 => ((laws_eqRangeS.f k t333 t323).bind fun t336 => (if t336 = true then ((laws_toTree.f k l0_0).bind fun t337 => ((laws_eqTree.f k t326 t337).bind fun t340 => (if t340 = true then ((laws_toLineS.f k l1).bind fun t341 => ((laws_eqLineS.f k t330 t341).bind fun t344 => (if t344 = true then ((laws_markTree.f k t326 1).bind fun bt345 => ((laws_markLineS.f k t330 bt345.1).bind fun bt347 => (if bt347.1 < 0 then (laws_FnExactTableOf.j0 k l1 t323 t333 true l0_0) else ((laws_eqRangeS.f k t333 t323).bind fun t349 => (laws_FnExactTableOf.j0 k l1 t323 t333 (!t349) l0_0))))) else (some false)))) else (some false)))) else (some false))))))))))))) = some r := h
 clear h
 replace H := Option.bind_eq_some_iff.mp H
 obtain ⟨t315, A30, H⟩ := H
 replace H : (if t315 < 0 then (some true) else ((laws_szLineS.f l1 t315).bind fun t316 => (if t316 < 0 then (some true) else ((laws_toTree.f k l0_0).bind fun t317 => ((laws_toLineS.f k l1).bind fun t320 => ((spec_TableOf.f k t317 t320).bind fun t323 => ((laws_toTree.f k l0_0).bind fun t326 => ((laws_toLineS.f k l1).bind fun t330 => ((impl_TableOf.f k t326 t330).bind fun t333 => ((laws_eqRangeS.f k t333 t323).bind fun t336 => (if t336 = true then ((laws_toTree.f k l0_0).bind fun t337 => ((laws_eqTree.f k t326 t337).bind fun t340 => (if t340 = true then ((laws_toLineS.f k l1).bind fun t341 => ((laws_eqLineS.f k t330 t341).bind fun t344 => (if t344 = true then ((laws_markTree.f k t326 1).bind fun bt345 => ((laws_markLineS.f k t330 bt345.1).bind fun bt347 => (if bt347.1 < 0 then (laws_FnExactTableOf.j0 k l1 t323 t333 true l0_0) else ((laws_eqRangeS.f k t333 t323).bind fun t349 => (laws_FnExactTableOf.j0 k l1 t323 t333 (!t349) l0_0))))) else (some false)))) else (some false)))) else (some false)))))))))))) = some r := H
 have A3 := am A30
 clear A30
 by_cases c4 : t315 < 0
 ·rw [if_pos c4] at H
  have c4b0 : decide (t315 < 0) = true := decide_eq_true c4
  clear c4
  obtain rfl := Option.some.inj H
  go_enter Try.func3, Try.ntmps3
  go_wp2_with (first | ((with_reducible refine gate_dst (N := 2) rfl ?_); refine bE (N := 2) (cs := #[.slice A0_0 l0_0.length c0_0]) (t := 24) ?_; intro gb314 hg w5 hbox hb; have BK314 := am (hbox); have GW314 := am ((Y1 : w.heap.size ≤ gb314)); have GE314 := am ((Y1 : w.heap.size ≤ gb314)); replace HB := am (below_step (bq) hb); clear hb hbox hg; have hcz6_0 := bc0 BK314.out; have hfz6_0 := blk_frozen BK314.out 0) | ((with_reducible refine gate_callee (f := 7) rfl ?_); refine gL (some 16) Try.func7 #[.agg #[.slice A0_0 l0_0.length c0_0], .int .i64 1048576] ?_; (with_reducible refine (laws_szTree.calls k _ _ l0_0 1048576 t315 _ ?side1 ?side2 A3.out).mono ?_); (case side1 => exact cq (Kd.C_below HR0_0.out HB.out)); (case side2 => exact HC0_0.out); rintro e w7 ⟨rfl, hb⟩; refine ⟨_, rfl, ?_⟩; replace BK314 := am (blk_below (g := gb314) (o := .cells #[.slice A0_0 l0_0.length c0_0] 24 (0, 0)) (kq BK314.out) hb); replace HB := am (below_step (Y9) hb); (try clear hb); (try clear hb2); (try clear hk); (try clear hi)))
  go_ret
  exact ⟨Y0, Y9⟩
 ·rw [if_neg c4] at H
  have c4b0 : decide (t315 < 0) = false := decide_eq_false c4
  clear c4
  replace H := Option.bind_eq_some_iff.mp H
  obtain ⟨t316, A80, H⟩ := H
  replace H : (if t316 < 0 then (some true) else ((laws_toTree.f k l0_0).bind fun t317 => ((laws_toLineS.f k l1).bind fun t320 => ((spec_TableOf.f k t317 t320).bind fun t323 => ((laws_toTree.f k l0_0).bind fun t326 => ((laws_toLineS.f k l1).bind fun t330 => ((impl_TableOf.f k t326 t330).bind fun t333 => ((laws_eqRangeS.f k t333 t323).bind fun t336 => (if t336 = true then ((laws_toTree.f k l0_0).bind fun t337 => ((laws_eqTree.f k t326 t337).bind fun t340 => (if t340 = true then ((laws_toLineS.f k l1).bind fun t341 => ((laws_eqLineS.f k t330 t341).bind fun t344 => (if t344 = true then ((laws_markTree.f k t326 1).bind fun bt345 => ((laws_markLineS.f k t330 bt345.1).bind fun bt347 => (if bt347.1 < 0 then (laws_FnExactTableOf.j0 k l1 t323 t333 true l0_0) else ((laws_eqRangeS.f k t333 t323).bind fun t349 => (laws_FnExactTableOf.j0 k l1 t323 t333 (!t349) l0_0))))) else (some false)))) else (some false)))) else (some false)))))))))) = some r := H
  have A8 := am A80
  clear A80
  by_cases c9 : t316 < 0
  ·rw [if_pos c9] at H
   have c9b0 : decide (t316 < 0) = true := decide_eq_true c9
   clear c9
   obtain rfl := Option.some.inj H
   go_enter Try.func3, Try.ntmps3
   go_wp2_with (first | ((with_reducible refine gate_dst (N := 2) rfl ?_); refine bE (N := 2) (cs := #[.slice A0_0 l0_0.length c0_0]) (t := 24) ?_; intro gb314 hg w10 hbox hb; have BK314 := am (hbox); have GW314 := am ((Y1 : w.heap.size ≤ gb314)); have GE314 := am ((Y1 : w.heap.size ≤ gb314)); replace HB := am (below_step (bq) hb); clear hb hbox hg; have hcz11_0 := bc0 BK314.out; have hfz11_0 := blk_frozen BK314.out 0) | ((with_reducible refine gate_callee (f := 7) rfl ?_); refine gL (some 16) Try.func7 #[.agg #[.slice A0_0 l0_0.length c0_0], .int .i64 1048576] ?_; (with_reducible refine (laws_szTree.calls k _ _ l0_0 1048576 t315 _ ?side1 ?side2 A3.out).mono ?_); (case side1 => exact cq (Kd.C_below HR0_0.out HB.out)); (case side2 => exact HC0_0.out); rintro e w12 ⟨rfl, hb⟩; refine ⟨_, rfl, ?_⟩; replace BK314 := am (blk_below (g := gb314) (o := .cells #[.slice A0_0 l0_0.length c0_0] 24 (0, 0)) (kq BK314.out) hb); replace HB := am (below_step (Y9) hb); (try clear hb); (try clear hb2); (try clear hk); (try clear hi)) | ((with_reducible refine gate_callee (f := 8) rfl ?_); refine gL (some 21) Try.func8 #[.slice A1 l1.length c1, .int .i64 t315] ?_; (with_reducible refine (laws_szLineS.calls _ _ l1 t315 t316 _ ?side1 ?side2 A8.out).mono ?_); (case side1 => exact cq (Kd.C_below HR1.out HB.out)); (case side2 => exact HC1.out); rintro e w' ⟨rfl, ⟨nd, rfl⟩⟩; refine ⟨_, rfl, ?_⟩))
   go_ret
   exact ⟨Y0, Y9⟩
  ·rw [if_neg c9] at H
   have c9b0 : decide (t316 < 0) = false := decide_eq_false c9
   clear c9
   replace H := Option.bind_eq_some_iff.mp H
   obtain ⟨t317, A130, H⟩ := H
   replace H : ((laws_toLineS.f k l1).bind fun t320 => ((spec_TableOf.f k t317 t320).bind fun t323 => ((laws_toTree.f k l0_0).bind fun t326 => ((laws_toLineS.f k l1).bind fun t330 => ((impl_TableOf.f k t326 t330).bind fun t333 => ((laws_eqRangeS.f k t333 t323).bind fun t336 => (if t336 = true then ((laws_toTree.f k l0_0).bind fun t337 => ((laws_eqTree.f k t326 t337).bind fun t340 => (if t340 = true then ((laws_toLineS.f k l1).bind fun t341 => ((laws_eqLineS.f k t330 t341).bind fun t344 => (if t344 = true then ((laws_markTree.f k t326 1).bind fun bt345 => ((laws_markLineS.f k t330 bt345.1).bind fun bt347 => (if bt347.1 < 0 then (laws_FnExactTableOf.j0 k l1 t323 t333 true l0_0) else ((laws_eqRangeS.f k t333 t323).bind fun t349 => (laws_FnExactTableOf.j0 k l1 t323 t333 (!t349) l0_0))))) else (some false)))) else (some false)))) else (some false)))))))) = some r := H
   have A13 := am A130
   clear A130
   replace H := Option.bind_eq_some_iff.mp H
   obtain ⟨t320, A140, H⟩ := H
   replace H : ((spec_TableOf.f k t317 t320).bind fun t323 => ((laws_toTree.f k l0_0).bind fun t326 => ((laws_toLineS.f k l1).bind fun t330 => ((impl_TableOf.f k t326 t330).bind fun t333 => ((laws_eqRangeS.f k t333 t323).bind fun t336 => (if t336 = true then ((laws_toTree.f k l0_0).bind fun t337 => ((laws_eqTree.f k t326 t337).bind fun t340 => (if t340 = true then ((laws_toLineS.f k l1).bind fun t341 => ((laws_eqLineS.f k t330 t341).bind fun t344 => (if t344 = true then ((laws_markTree.f k t326 1).bind fun bt345 => ((laws_markLineS.f k t330 bt345.1).bind fun bt347 => (if bt347.1 < 0 then (laws_FnExactTableOf.j0 k l1 t323 t333 true l0_0) else ((laws_eqRangeS.f k t333 t323).bind fun t349 => (laws_FnExactTableOf.j0 k l1 t323 t333 (!t349) l0_0))))) else (some false)))) else (some false)))) else (some false))))))) = some r := H
   have A14 := am A140
   clear A140
   replace H := Option.bind_eq_some_iff.mp H
   obtain ⟨t323, A150, H⟩ := H
   replace H : ((laws_toTree.f k l0_0).bind fun t326 => ((laws_toLineS.f k l1).bind fun t330 => ((impl_TableOf.f k t326 t330).bind fun t333 => ((laws_eqRangeS.f k t333 t323).bind fun t336 => (if t336 = true then ((laws_toTree.f k l0_0).bind fun t337 => ((laws_eqTree.f k t326 t337).bind fun t340 => (if t340 = true then ((laws_toLineS.f k l1).bind fun t341 => ((laws_eqLineS.f k t330 t341).bind fun t344 => (if t344 = true then ((laws_markTree.f k t326 1).bind fun bt345 => ((laws_markLineS.f k t330 bt345.1).bind fun bt347 => (if bt347.1 < 0 then (laws_FnExactTableOf.j0 k l1 t323 t333 true l0_0) else ((laws_eqRangeS.f k t333 t323).bind fun t349 => (laws_FnExactTableOf.j0 k l1 t323 t333 (!t349) l0_0))))) else (some false)))) else (some false)))) else (some false)))))) = some r := H
   have A15 := am A150
   clear A150
   replace H := Option.bind_eq_some_iff.mp H
   obtain ⟨t326, A160, H⟩ := H
   replace H : ((laws_toLineS.f k l1).bind fun t330 => ((impl_TableOf.f k t326 t330).bind fun t333 => ((laws_eqRangeS.f k t333 t323).bind fun t336 => (if t336 = true then ((laws_toTree.f k l0_0).bind fun t337 => ((laws_eqTree.f k t326 t337).bind fun t340 => (if t340 = true then ((laws_toLineS.f k l1).bind fun t341 => ((laws_eqLineS.f k t330 t341).bind fun t344 => (if t344 = true then ((laws_markTree.f k t326 1).bind fun bt345 => ((laws_markLineS.f k t330 bt345.1).bind fun bt347 => (if bt347.1 < 0 then (laws_FnExactTableOf.j0 k l1 t323 t333 true l0_0) else ((laws_eqRangeS.f k t333 t323).bind fun t349 => (laws_FnExactTableOf.j0 k l1 t323 t333 (!t349) l0_0))))) else (some false)))) else (some false)))) else (some false))))) = some r := H
   have A16 := am A160
   clear A160
   replace H := Option.bind_eq_some_iff.mp H
   obtain ⟨t330, A170, H⟩ := H
   replace H : ((impl_TableOf.f k t326 t330).bind fun t333 => ((laws_eqRangeS.f k t333 t323).bind fun t336 => (if t336 = true then ((laws_toTree.f k l0_0).bind fun t337 => ((laws_eqTree.f k t326 t337).bind fun t340 => (if t340 = true then ((laws_toLineS.f k l1).bind fun t341 => ((laws_eqLineS.f k t330 t341).bind fun t344 => (if t344 = true then ((laws_markTree.f k t326 1).bind fun bt345 => ((laws_markLineS.f k t330 bt345.1).bind fun bt347 => (if bt347.1 < 0 then (laws_FnExactTableOf.j0 k l1 t323 t333 true l0_0) else ((laws_eqRangeS.f k t333 t323).bind fun t349 => (laws_FnExactTableOf.j0 k l1 t323 t333 (!t349) l0_0))))) else (some false)))) else (some false)))) else (some false)))) = some r := H
   have A17 := am A170
   clear A170
   replace H := Option.bind_eq_some_iff.mp H
   obtain ⟨t333, A180, H⟩ := H
   replace H : ((laws_eqRangeS.f k t333 t323).bind fun t336 => (if t336 = true then ((laws_toTree.f k l0_0).bind fun t337 => ((laws_eqTree.f k t326 t337).bind fun t340 => (if t340 = true then ((laws_toLineS.f k l1).bind fun t341 => ((laws_eqLineS.f k t330 t341).bind fun t344 => (if t344 = true then ((laws_markTree.f k t326 1).bind fun bt345 => ((laws_markLineS.f k t330 bt345.1).bind fun bt347 => (if bt347.1 < 0 then (laws_FnExactTableOf.j0 k l1 t323 t333 true l0_0) else ((laws_eqRangeS.f k t333 t323).bind fun t349 => (laws_FnExactTableOf.j0 k l1 t323 t333 (!t349) l0_0))))) else (some false)))) else (some false)))) else (some false))) = some r := H
   have A18 := am A180
   clear A180
   replace H := Option.bind_eq_some_iff.mp H
   obtain ⟨t336, A190, H⟩ := H
   replace H : (if t336 = true then ((laws_toTree.f k l0_0).bind fun t337 => ((laws_eqTree.f k t326 t337).bind fun t340 => (if t340 = true then ((laws_toLineS.f k l1).bind fun t341 => ((laws_eqLineS.f k t330 t341).bind fun t344 => (if t344 = true then ((laws_markTree.f k t326 1).bind fun bt345 => ((laws_markLineS.f k t330 bt345.1).bind fun bt347 => (if bt347.1 < 0 then (laws_FnExactTableOf.j0 k l1 t323 t333 true l0_0) else ((laws_eqRangeS.f k t333 t323).bind fun t349 => (laws_FnExactTableOf.j0 k l1 t323 t333 (!t349) l0_0))))) else (some false)))) else (some false)))) else (some false)) = some r := H
   have A19 := am A190
   clear A190
   by_cases c20 : t336 = true
   ·subst c20
    have H1 : ((laws_toTree.f k l0_0).bind fun t337 => ((laws_eqTree.f k t326 t337).bind fun t340 => (if t340 = true then ((laws_toLineS.f k l1).bind fun t341 => ((laws_eqLineS.f k t330 t341).bind fun t344 => (if t344 = true then ((laws_markTree.f k t326 1).bind fun bt345 => ((laws_markLineS.f k t330 bt345.1).bind fun bt347 => (if bt347.1 < 0 then (laws_FnExactTableOf.j0 k l1 t323 t333 true l0_0) else ((laws_eqRangeS.f k t333 t323).bind fun t349 => (laws_FnExactTableOf.j0 k l1 t323 t333 (!t349) l0_0))))) else (some false)))) else (some false)))) = some r := by rw [if_pos rfl] at H; exact H
    clear H
    have H := H1
    clear H1
    replace H := Option.bind_eq_some_iff.mp H
    obtain ⟨t337, A210, H⟩ := H
    replace H : ((laws_eqTree.f k t326 t337).bind fun t340 => (if t340 = true then ((laws_toLineS.f k l1).bind fun t341 => ((laws_eqLineS.f k t330 t341).bind fun t344 => (if t344 = true then ((laws_markTree.f k t326 1).bind fun bt345 => ((laws_markLineS.f k t330 bt345.1).bind fun bt347 => (if bt347.1 < 0 then (laws_FnExactTableOf.j0 k l1 t323 t333 true l0_0) else ((laws_eqRangeS.f k t333 t323).bind fun t349 => (laws_FnExactTableOf.j0 k l1 t323 t333 (!t349) l0_0))))) else (some false)))) else (some false))) = some r := H
    have A21 := am A210
    clear A210
    replace H := Option.bind_eq_some_iff.mp H
    obtain ⟨t340, A220, H⟩ := H
    replace H : (if t340 = true then ((laws_toLineS.f k l1).bind fun t341 => ((laws_eqLineS.f k t330 t341).bind fun t344 => (if t344 = true then ((laws_markTree.f k t326 1).bind fun bt345 => ((laws_markLineS.f k t330 bt345.1).bind fun bt347 => (if bt347.1 < 0 then (laws_FnExactTableOf.j0 k l1 t323 t333 true l0_0) else ((laws_eqRangeS.f k t333 t323).bind fun t349 => (laws_FnExactTableOf.j0 k l1 t323 t333 (!t349) l0_0))))) else (some false)))) else (some false)) = some r := H
    have A22 := am A220
    clear A220
    by_cases c23 : t340 = true
    ·subst c23
     have H1 : ((laws_toLineS.f k l1).bind fun t341 => ((laws_eqLineS.f k t330 t341).bind fun t344 => (if t344 = true then ((laws_markTree.f k t326 1).bind fun bt345 => ((laws_markLineS.f k t330 bt345.1).bind fun bt347 => (if bt347.1 < 0 then (laws_FnExactTableOf.j0 k l1 t323 t333 true l0_0) else ((laws_eqRangeS.f k t333 t323).bind fun t349 => (laws_FnExactTableOf.j0 k l1 t323 t333 (!t349) l0_0))))) else (some false)))) = some r := by rw [if_pos rfl] at H; exact H
     clear H
     have H := H1
     clear H1
     replace H := Option.bind_eq_some_iff.mp H
     obtain ⟨t341, A240, H⟩ := H
     replace H : ((laws_eqLineS.f k t330 t341).bind fun t344 => (if t344 = true then ((laws_markTree.f k t326 1).bind fun bt345 => ((laws_markLineS.f k t330 bt345.1).bind fun bt347 => (if bt347.1 < 0 then (laws_FnExactTableOf.j0 k l1 t323 t333 true l0_0) else ((laws_eqRangeS.f k t333 t323).bind fun t349 => (laws_FnExactTableOf.j0 k l1 t323 t333 (!t349) l0_0))))) else (some false))) = some r := H
     have A24 := am A240
     clear A240
     replace H := Option.bind_eq_some_iff.mp H
     obtain ⟨t344, A250, H⟩ := H
     replace H : (if t344 = true then ((laws_markTree.f k t326 1).bind fun bt345 => ((laws_markLineS.f k t330 bt345.1).bind fun bt347 => (if bt347.1 < 0 then (laws_FnExactTableOf.j0 k l1 t323 t333 true l0_0) else ((laws_eqRangeS.f k t333 t323).bind fun t349 => (laws_FnExactTableOf.j0 k l1 t323 t333 (!t349) l0_0))))) else (some false)) = some r := H
     have A25 := am A250
     clear A250
     by_cases c26 : t344 = true
     ·subst c26
      have H1 : ((laws_markTree.f k t326 1).bind fun bt345 => ((laws_markLineS.f k t330 bt345.1).bind fun bt347 => (if bt347.1 < 0 then (laws_FnExactTableOf.j0 k l1 t323 t333 true l0_0) else ((laws_eqRangeS.f k t333 t323).bind fun t349 => (laws_FnExactTableOf.j0 k l1 t323 t333 (!t349) l0_0))))) = some r := by rw [if_pos rfl] at H; exact H
      clear H
      have H := H1
      clear H1
      replace H := Option.bind_eq_some_iff.mp H
      obtain ⟨⟨t345, t346⟩, A270, H⟩ := H
      replace H : ((laws_markLineS.f k t330 t345).bind fun bt347 => (if bt347.1 < 0 then (laws_FnExactTableOf.j0 k l1 t323 t333 true l0_0) else ((laws_eqRangeS.f k t333 t323).bind fun t349 => (laws_FnExactTableOf.j0 k l1 t323 t333 (!t349) l0_0)))) = some r := H
      have A27 := am A270
      clear A270
      replace H := Option.bind_eq_some_iff.mp H
      obtain ⟨⟨t347, t348⟩, A280, H⟩ := H
      replace H : (if t347 < 0 then (laws_FnExactTableOf.j0 k l1 t323 t333 true l0_0) else ((laws_eqRangeS.f k t333 t323).bind fun t349 => (laws_FnExactTableOf.j0 k l1 t323 t333 (!t349) l0_0))) = some r := H
      have A28 := am A280
      clear A280
      have HC29 := am H
      clear H
      go_enter Try.func3, Try.ntmps3
      try go_wp2_with (first | ((with_reducible refine gate_dst (N := 2) rfl ?_); refine bE (N := 2) (cs := #[.slice A0_0 l0_0.length c0_0]) (t := 24) ?_; intro gb314 hg w30 hbox hb; have BK314 := am (hbox); have GW314 := am ((Y1 : w.heap.size ≤ gb314)); have GE314 := am ((Y1 : w.heap.size ≤ gb314)); replace HB := am (below_step (bq) hb); clear hb hbox hg; have hcz31_0 := bc0 BK314.out; have hfz31_0 := blk_frozen BK314.out 0) | ((with_reducible refine gate_callee (f := 7) rfl ?_); refine gL (some 16) Try.func7 #[.agg #[.slice A0_0 l0_0.length c0_0], .int .i64 1048576] ?_; (with_reducible refine (laws_szTree.calls k _ _ l0_0 1048576 t315 _ ?side1 ?side2 A3.out).mono ?_); (case side1 => exact cq (Kd.C_below HR0_0.out HB.out)); (case side2 => exact HC0_0.out); rintro e w32 ⟨rfl, hb⟩; refine ⟨_, rfl, ?_⟩; replace BK314 := am (blk_below (g := gb314) (o := .cells #[.slice A0_0 l0_0.length c0_0] 24 (0, 0)) (kq BK314.out) hb); replace HB := am (below_step (Y9) hb); (try clear hb); (try clear hb2); (try clear hk); (try clear hi)) | ((with_reducible refine gate_callee (f := 8) rfl ?_); refine gL (some 21) Try.func8 #[.slice A1 l1.length c1, .int .i64 t315] ?_; (with_reducible refine (laws_szLineS.calls _ _ l1 t315 t316 _ ?side1 ?side2 A8.out).mono ?_); (case side1 => exact cq (Kd.C_below HR1.out HB.out)); (case side2 => exact HC1.out); rintro e w' ⟨rfl, ⟨nd, rfl⟩⟩; refine ⟨_, rfl, ?_⟩; (try (rw [drewN_self w32]; generalize hq_ : World.drewN w32 _ = w32; have n0_ : Aside0 (w32.heap[gb314]? = some (.cells #[.slice A0_0 l0_0.length c0_0] 24 (0, 0))) := ⟨by rw [← hq_]; exact (kq BK314.out)⟩; have n1_ : Aside0 (Below w.heap.size w w32) := ⟨by rw [← hq_]; exact (Y9)⟩; clear BK314 HB hq_; have BK314 := n0_; have HB := n1_; clear n0_ n1_)); have hcz33_0 := bc0 BK314.out; have hfz33_0 := blk_frozen BK314.out 0) | ((with_reducible refine gate_callee (f := 10) rfl ?_); refine gL (some 25) Try.func10 #[.agg #[.slice A0_0 l0_0.length c0_0]] ?_; (with_reducible refine (laws_toTree.calls k _ _ l0_0 t317 _ ?side1 ?side2 A13.out).mono ?_); (case side1 => exact cq (Kd.C_below HR0_0.out HB.out)); (case side2 => exact HC0_0.out); rintro e w34 ⟨v318, rfl, ho0, hb⟩; refine ⟨_, rfl, ?_⟩; have HO319 := am (Kd.R_lower ho0 (below_size (Y9))); replace BK314 := am (blk_below (g := gb314) (o := .cells #[.slice A0_0 l0_0.length c0_0] 24 (0, 0)) (kq BK314.out) hb); replace HB := am (below_step (Y9) hb); (try clear hb); (try clear hb2); (try clear hk); (try clear hi); (try clear ho0)) | ((with_reducible refine gate_callee (f := 11) rfl ?_); refine gL (some 27) Try.func11 #[.slice A1 l1.length c1] ?_; (with_reducible refine (laws_toLineS.calls k _ _ l1 t320 _ ?side1 ?side2 A14.out).mono ?_); (case side1 => exact cq (Kd.C_below HR1.out HB.out)); (case side2 => exact HC1.out); rintro e w35 ⟨v321, rfl, ho0, hb⟩; refine ⟨_, rfl, ?_⟩; have HO322 := am (Kd.R_lower ho0 (below_size (Y9))); replace HO319 := am (Kd.R_below (rq HO319.out) hb); replace BK314 := am (blk_below (g := gb314) (o := .cells #[.slice A0_0 l0_0.length c0_0] 24 (0, 0)) (kq BK314.out) hb); replace HB := am (below_step (Y9) hb); (try clear hb); (try clear hb2); (try clear hk); (try clear hi); (try clear ho0); obtain ⟨Ao36, co36, eo36⟩ := Kd.R_slice HO319.out; subst eo36; obtain ⟨Ao37, co37, eo37⟩ := Kd.R_slice HO322.out; subst eo37) | ((with_reducible refine gate_callee (f := 9) rfl ?_); refine gL (some 28) Try.func9 #[.agg #[.slice Ao36 t317.length co36], .slice Ao37 t320.length co37] ?_; (with_reducible refine (spec_TableOf.calls k _ _ t317 _ _ t320 t323 _ ?side1 ?side2 ?side3 ?side4 A15.out).mono ?_); (case side1 => exact cq (Kd.R_reads' HO319.out).2.2); (case side2 => exact (Kd.R_reads' HO319.out).2.1); (case side3 => exact cq (Kd.R_reads' HO322.out).2.2); (case side4 => exact (Kd.R_reads' HO322.out).2.1); rintro e w38 ⟨v324, rfl, ho0, hb⟩; refine ⟨_, rfl, ?_⟩; have HO325 := am (Kd.R_lower ho0 (below_size (Y9))); replace HO319 := am (Kd.R_below (rq HO319.out) hb); replace HO322 := am (Kd.R_below (rq HO322.out) hb); replace BK314 := am (blk_below (g := gb314) (o := .cells #[.slice A0_0 l0_0.length c0_0] 24 (0, 0)) (kq BK314.out) hb); replace HB := am (below_step (Y9) hb); (try clear hb); (try clear hb2); (try clear hk); (try clear hi); (try clear ho0); have hcz39_0 := bc0 BK314.out; have hfz39_0 := blk_frozen BK314.out 0) | ((with_reducible refine gate_callee (f := 10) rfl ?_); refine gL (some 30) Try.func10 #[.agg #[.slice A0_0 l0_0.length c0_0]] ?_; (with_reducible refine (laws_toTree.calls k _ _ l0_0 t326 _ ?side1 ?side2 A16.out).mono ?_); (case side1 => exact cq (Kd.C_below HR0_0.out HB.out)); (case side2 => exact HC0_0.out); rintro e w40 ⟨v327, rfl, ho0, hb⟩; refine ⟨_, rfl, ?_⟩; have HO328 := am (Kd.R_lower (Kd.R_new' ho0 (Kd.R_lt (rq HO319.out))) (below_size (Y9))); replace HO319 := am (Kd.R_elder' (rq HO319.out) (Kd.R_base ho0) hb); replace HO322 := am (Kd.R_below (rq HO322.out) hb); replace HO325 := am (Kd.R_below (rq HO325.out) hb); replace BK314 := am (blk_below (g := gb314) (o := .cells #[.slice A0_0 l0_0.length c0_0] 24 (0, 0)) (kq BK314.out) hb); replace HB := am (below_step (Y9) hb); (try clear hb); (try clear hb2); (try clear hk); (try clear hi); (try clear ho0)) | ((with_reducible refine gate_dst (N := 7) rfl ?_); refine bE (N := 7) (cs := #[.slice none 0 0]) (t := 32) ?_; intro gb329 hg w41 hbox hb; have BK329 := am (hbox); have GW329 := am ((Y53 : w.heap.size ≤ gb329)); have GE329 := am ((Y53 : w.heap.size ≤ gb329)); have NB314_329 := am ((by rw [hg]; exact Nat.ne_of_lt (blk_lt (g := gb314) (o := .cells #[.slice A0_0 l0_0.length c0_0] 24 (0, 0)) (kq BK314.out)) : gb314 ≠ gb329)); have NB329_314 := am ((by rw [hg]; exact Nat.ne_of_gt (blk_lt (g := gb314) (o := .cells #[.slice A0_0 l0_0.length c0_0] 24 (0, 0)) (kq BK314.out)) : gb329 ≠ gb314)); replace HO319 := am (Kd.R_below (rq HO319.out) hb); replace HO322 := am (Kd.R_below (rq HO322.out) hb); replace HO325 := am (Kd.R_below (rq HO325.out) hb); replace HO328 := am (Kd.R_below (rq HO328.out) hb); replace BK314 := am (blk_below (g := gb314) (o := .cells #[.slice A0_0 l0_0.length c0_0] 24 (0, 0)) (kq BK314.out) hb); replace HB := am (below_step (Y9) hb); clear hb hbox hg; obtain ⟨Ao42, co42, eo42⟩ := Kd.R_slice HO328.out; subst eo42; have hnb43 := NB329_314.out; have hnc43 := NB314_329.out; have hcz44_0 := bc0 BK329.out; have hfz44_0 := blk_frozen BK329.out 0) | ((with_reducible refine gate_callee (f := 11) rfl ?_); refine gL (some 32) Try.func11 #[.slice A1 l1.length c1] ?_; (with_reducible refine (laws_toLineS.calls k _ _ l1 t330 _ ?side1 ?side2 A17.out).mono ?_); (case side1 => exact Kd.C_below HR1.out (Y3)); (case side2 => exact HC1.out); rintro e w45 ⟨v331, rfl, ho0, hb⟩; refine ⟨_, rfl, ?_⟩; have HO332 := am (Kd.R_lower (Kd.R_new' ho0 (Kd.R_lt (Y54))) (below_size (Y3))); replace HO319 := am (Kd.R_below (by (with_reducible repeat (first | apply Kd.R_alloc | apply Kd.R_drewN | apply Kd.R_drew)); exact (Kd.R_mono (Kd.R_far (p := ⟨gb329, 0, none⟩) (Kd.R_types HO319.out BK329.out (by decide)) (fun _ hk => hk.2) (.slice Ao42 t326.length co42)) (fun _ h_ => h_.1))) hb); replace HO322 := am (Kd.R_elder' (Y54) (Kd.R_base ho0) hb); replace HO325 := am (Kd.R_below (by (with_reducible repeat (first | apply Kd.R_alloc | apply Kd.R_drewN | apply Kd.R_drew)); exact (Kd.R_mono (Kd.R_far (p := ⟨gb329, 0, none⟩) (Kd.R_types HO325.out BK329.out (by decide)) (fun _ hk => hk.2) (.slice Ao42 t326.length co42)) (fun _ h_ => h_.1))) hb); replace HO328 := am (Kd.R_below (by (with_reducible repeat (first | apply Kd.R_alloc | apply Kd.R_drewN | apply Kd.R_drew)); exact (Kd.R_mono (Kd.R_far (p := ⟨gb329, 0, none⟩) (Kd.R_types HO328.out BK329.out (by decide)) (fun _ hk => hk.2) (.slice Ao42 t326.length co42)) (fun _ h_ => h_.1))) hb); replace BK314 := am (blk_below (g := gb314) (o := .cells #[.slice A0_0 l0_0.length c0_0] 24 (0, 0)) (by (with_reducible repeat (first | refine blk_drewN ?_ _ | refine blk_drew ?_ | refine blk_alloc ?_ _)); refine blk_far ?_ NB314_329.out _; (with_reducible repeat (first | refine blk_drewN ?_ _ | refine blk_drew ?_ | refine blk_alloc ?_ _)); exact BK314.out) hb); replace BK329 := am (blk_below (g := gb329) (o := .cells #[.slice Ao42 t326.length co42] 32 (0, 0)) (by (with_reducible repeat (first | refine blk_drewN ?_ _ | refine blk_drew ?_ | refine blk_alloc ?_ _)); refine blk_put (cs := #[.slice none 0 0]) ?_ 0 _ rfl; (with_reducible repeat (first | refine blk_drewN ?_ _ | refine blk_drew ?_ | refine blk_alloc ?_ _)); exact BK329.out) hb); replace HB := am (below_step (Y3) hb); (try clear hb); (try clear hb2); (try clear hk); (try clear hi); (try clear ho0); have hcz46_0 := bc0 BK329.out; have hfz46_0 := blk_frozen BK329.out 0; obtain ⟨Ao47, co47, eo47⟩ := Kd.R_slice HO332.out; subst eo47) | ((with_reducible refine gate_callee (f := 12) rfl ?_); refine gL (some 35) Try.func12 #[.agg #[.slice Ao42 t326.length co42], .slice Ao47 t330.length co47] ?_; (with_reducible refine (impl_TableOf.calls k _ _ t326 _ _ t330 t333 _ ?side1 ?side2 ?side3 ?side4 A18.out).mono ?_); (case side1 => exact cq (Kd.R_reads' HO328.out).2.2); (case side2 => exact (Kd.R_reads' HO328.out).2.1); (case side3 => exact cq (Kd.R_reads' HO332.out).2.2); (case side4 => exact (Kd.R_reads' HO332.out).2.1); rintro e w48 ⟨v334, rfl, ho0, hb⟩; refine ⟨_, rfl, ?_⟩; have HO335 := am (Kd.R_lower (Kd.R_new' ho0 (Kd.R_lt (rq HO325.out))) (below_size (Y3))); replace HO319 := am (Kd.R_below (rq HO319.out) hb); replace HO322 := am (Kd.R_below (rq HO322.out) hb); replace HO325 := am (Kd.R_elder' (rq HO325.out) (Kd.R_base ho0) hb); replace HO328 := am (Kd.R_below (rq HO328.out) hb); replace HO332 := am (Kd.R_below (rq HO332.out) hb); replace BK314 := am (blk_below (g := gb314) (o := .cells #[.slice A0_0 l0_0.length c0_0] 24 (0, 0)) (kq BK314.out) hb); replace BK329 := am (blk_below (g := gb329) (o := .cells #[.slice Ao42 t326.length co42] 32 (0, 0)) (kq BK329.out) hb); replace HB := am (below_step (Y3) hb); (try clear hb); (try clear hb2); (try clear hk); (try clear hi); (try clear ho0); obtain ⟨Ao49, co49, eo49⟩ := Kd.R_slice HO335.out; subst eo49; obtain ⟨Ao50, co50, eo50⟩ := Kd.R_slice HO325.out; subst eo50) | ((with_reducible refine gate_callee (f := 13) rfl ?_); refine gL (some 38) Try.func13 #[.slice Ao49 t333.length co49, .slice Ao50 t323.length co50] ?_; (with_reducible refine (laws_eqRangeS.calls k _ _ t333 _ _ t323 true _ ?side1 ?side2 ?side3 ?side4 A19.out).mono ?_); (case side1 => exact cq (Kd.R_reads' HO335.out).2.2); (case side2 => exact (Kd.R_reads' HO335.out).2.1); (case side3 => exact cq (Kd.R_reads' HO325.out).2.2); (case side4 => exact (Kd.R_reads' HO325.out).2.1); rintro e w51 ⟨rfl, hb⟩; refine ⟨_, rfl, ?_⟩; replace HO319 := am (Kd.R_below (rq HO319.out) hb); replace HO322 := am (Kd.R_below (rq HO322.out) hb); replace HO325 := am (Kd.R_below (rq HO325.out) hb); replace HO328 := am (Kd.R_below (rq HO328.out) hb); replace HO332 := am (Kd.R_below (rq HO332.out) hb); replace HO335 := am (Kd.R_below (rq HO335.out) hb); replace BK314 := am (blk_below (g := gb314) (o := .cells #[.slice A0_0 l0_0.length c0_0] 24 (0, 0)) (kq BK314.out) hb); replace BK329 := am (blk_below (g := gb329) (o := .cells #[.slice Ao42 t326.length co42] 32 (0, 0)) (kq BK329.out) hb); replace HB := am (below_step (Y3) hb); (try clear hb); (try clear hb2); (try clear hk); (try clear hi)))
      replace HO319 := am (Kd.R_drew HO319.out)
      replace HO322 := am (Kd.R_drew HO322.out)
      replace HO325 := am (Kd.R_drew HO325.out)
      replace HO328 := am (Kd.R_drew HO328.out)
      replace HO332 := am (Kd.R_drew HO332.out)
      replace HO335 := am (Kd.R_drew HO335.out)
      replace BK314 := am (blk_drew BK314.out)
      replace BK329 := am (blk_drew BK329.out)
      replace HB := am (below_drew1 HB.out)
      refine start_ (n := 5) (S := fun w' => w'.cell? ⟨gb329, 0, none⟩ = some (.slice Ao42 t326.length co42) ∧ w'.cell? ⟨gb314, 0, none⟩ = some (.slice A0_0 l0_0.length c0_0)) (ds := []) #[false, false, false, false, false] (by kernel_rfl) rfl rfl ⟨(blk_cell BK329.out 0).trans rfl, (blk_cell BK314.out 0).trans rfl⟩ (fun hHeld => ?_)
      generalize w51.drew = w52 at HO319 HO322 HO325 HO328 HO332 HO335 BK314 BK329 HB hHeld ⊢
      refine take_ (i := 0) (N := some 40) (v := ?_) (a' := ?_) #[true, false, false, false, false] rfl rfl (by kernel_rfl) (fun _ _ _ h => h) (Or.inl ⟨by rfl, ?_⟩) hHeld ?_ ?_
      rotate_left
      ·rintro w' ⟨s0, s1⟩
       go_simp
       with_reducible rfl
      rotate_left
      ·exact sa
      refine take_ (i := 1) (N := some 41) (v := ?_) (a' := ?_) #[true, true, false, false, false] rfl rfl (by kernel_rfl) (fun _ _ _ h => h) (Or.inl ⟨by rfl, ?_⟩) hHeld ?_ ?_
      rotate_left
      ·rintro w' ⟨s0, s1⟩
       go_simp
       with_reducible rfl
      rotate_left
      ·exact sa
      refine one_ (i := 2) (N := some 42) #[true, true, true, false, false] rfl rfl (by kernel_rfl) (by decide) (fun K hK => ?_)
      refine goes_ Try.func10 (by kernel_rfl) rfl #[.agg #[.slice A0_0 l0_0.length c0_0]] (by rfl) rfl rfl (aq) ?_
      with_reducible refine (laws_toTree.calls k _ _ l0_0 t337 _ ?side1 ?side2 A21.out).mono ?_
      (case side1 => exact cq (Kd.C_below HR0_0.out HB.out))
      (case side2 => exact HC0_0.out)
      rintro e w53 ⟨v338, rfl, ho0, hb⟩
      refine ⟨_, rfl, ?_⟩
      have HO339 := am (Kd.R_lower (Kd.R_new' (Kd.R_new' ho0 (Kd.R_lt (rq HO319.out))) (Kd.R_lt (rq HO328.out))) (below_size (Y3)))
      replace HO319 := am (Kd.R_elder' (rq HO319.out) (Kd.R_base ho0) hb)
      replace HO322 := am (Kd.R_below (rq HO322.out) hb)
      replace HO325 := am (Kd.R_below (rq HO325.out) hb)
      replace HO328 := am (Kd.R_elder' (rq HO328.out) (Kd.R_base ho0) hb)
      replace HO332 := am (Kd.R_below (rq HO332.out) hb)
      replace HO335 := am (Kd.R_below (rq HO335.out) hb)
      replace BK314 := am (blk_below (g := gb314) (o := .cells #[.slice A0_0 l0_0.length c0_0] 24 (0, 0)) (kq BK314.out) hb)
      replace BK329 := am (blk_below (g := gb329) (o := .cells #[.slice Ao42 t326.length co42] 32 (0, 0)) (kq BK329.out) hb)
      replace HB := am (below_step (Y3) hb)
      (try clear hb)
      (try clear hb2)
      (try clear hk)
      (try clear hi)
      (try clear ho0)
      obtain ⟨Ao54, co54, eo54⟩ := Kd.R_slice HO339.out
      (first | subst eo54 | (injection eo54 with f1_ f2_ f3_; have f4_ := f1_.symm; have f5_ := f3_.symm; clear f1_ f2_ f3_; subst f4_; subst f5_))
      refine hK.out _ _ ⟨(blk_cell BK329.out 0).trans rfl, (blk_cell BK314.out 0).trans rfl⟩ (fun hHeld => ?_)
      clear hK K
      refine norm_ (a' := ?_) ?_ ?_
      rotate_left
      ·show Act.put _ (some 42) _ = _
       simp only [Act.put, List.setIfInBounds_toArray, List.set_cons_zero, List.set_cons_succ, i64_w, i32_w]
       rfl
      refine one_ (i := 3) (N := some 43) #[true, true, true, true, false] rfl rfl (by kernel_rfl) (by decide) (fun K hK => ?_)
      refine goes_ Try.func14 (by kernel_rfl) rfl #[.agg #[.slice Ao42 t326.length co42], .agg #[.slice Ao54 t337.length co54]] (by rfl) rfl rfl (aq) ?_
      with_reducible refine (laws_eqTree.calls k _ _ t326 _ _ t337 true _ ?side1 ?side2 ?side3 ?side4 A22.out).mono ?_
      (case side1 => exact cq (Kd.R_reads' HO328.out).2.2)
      (case side2 => exact (Kd.R_reads' HO328.out).2.1)
      (case side3 => exact cq (Kd.R_reads' HO339.out).2.2)
      (case side4 => exact (Kd.R_reads' HO339.out).2.1)
      rintro e w55 ⟨rfl, hb⟩
      refine ⟨_, rfl, ?_⟩
      replace HO319 := am (Kd.R_below (rq HO319.out) hb)
      replace HO322 := am (Kd.R_below (rq HO322.out) hb)
      replace HO325 := am (Kd.R_below (rq HO325.out) hb)
      replace HO328 := am (Kd.R_below (rq HO328.out) hb)
      replace HO332 := am (Kd.R_below (rq HO332.out) hb)
      replace HO335 := am (Kd.R_below (rq HO335.out) hb)
      replace HO339 := am (Kd.R_below (rq HO339.out) hb)
      replace BK314 := am (blk_below (g := gb314) (o := .cells #[.slice A0_0 l0_0.length c0_0] 24 (0, 0)) (kq BK314.out) hb)
      replace BK329 := am (blk_below (g := gb329) (o := .cells #[.slice Ao42 t326.length co42] 32 (0, 0)) (kq BK329.out) hb)
      replace HB := am (below_step (Y3) hb)
      (try clear hb)
      (try clear hb2)
      (try clear hk)
      (try clear hi)
      refine hK.out _ _ ⟨(blk_cell BK329.out 0).trans rfl, (blk_cell BK314.out 0).trans rfl⟩ (fun hHeld => ?_)
      clear hK K
      refine norm_ (a' := ?_) ?_ ?_
      rotate_left
      ·show Act.put _ (some 43) _ = _
       simp only [Act.put, List.setIfInBounds_toArray, List.set_cons_zero, List.set_cons_succ, i64_w, i32_w]
       rfl
      refine pure_ (i := 4) (N := some 44) (v := ?_) (a' := ?_) #[true, true, true, true, true] rfl rfl (by kernel_rfl) (fun _ _ _ h => h) (Or.inl ⟨by rfl, ?_⟩) ?_ ?_
      rotate_left
      ·exact sb
      rotate_left
      ·exact sa
      refine done_ (by kernel_rfl) ?_
      go_upto_region 21 with (first | ((with_reducible refine gate_callee (f := 11) rfl ?_); refine gL (some 47) Try.func11 #[.slice A1 l1.length c1] ?_; (with_reducible refine (laws_toLineS.calls k _ _ l1 t341 _ ?side1 ?side2 A24.out).mono ?_); (case side1 => exact cq (Kd.C_below HR1.out HB.out)); (case side2 => exact HC1.out); rintro e w56 ⟨v342, rfl, ho0, hb⟩; refine ⟨_, rfl, ?_⟩; have HO343 := am (Kd.R_lower (Kd.R_new' (Kd.R_new' ho0 (Kd.R_lt (rq HO322.out))) (Kd.R_lt (rq HO332.out))) (below_size (Y3))); replace HO319 := am (Kd.R_below (rq HO319.out) hb); replace HO322 := am (Kd.R_elder' (rq HO322.out) (Kd.R_base ho0) hb); replace HO325 := am (Kd.R_below (rq HO325.out) hb); replace HO328 := am (Kd.R_below (rq HO328.out) hb); replace HO332 := am (Kd.R_elder' (rq HO332.out) (Kd.R_base ho0) hb); replace HO335 := am (Kd.R_below (rq HO335.out) hb); replace HO339 := am (Kd.R_below (rq HO339.out) hb); replace BK314 := am (blk_below (g := gb314) (o := .cells #[.slice A0_0 l0_0.length c0_0] 24 (0, 0)) (kq BK314.out) hb); replace BK329 := am (blk_below (g := gb329) (o := .cells #[.slice Ao42 t326.length co42] 32 (0, 0)) (kq BK329.out) hb); replace HB := am (below_step (Y3) hb); (try clear hb); (try clear hb2); (try clear hk); (try clear hi); (try clear ho0); obtain ⟨Ao57, co57, eo57⟩ := Kd.R_slice HO343.out; subst eo57) | ((with_reducible refine gate_callee (f := 15) rfl ?_); refine gL (some 48) Try.func15 #[.slice Ao47 t330.length co47, .slice Ao57 t341.length co57] ?_; (with_reducible refine (laws_eqLineS.calls k _ _ t330 _ _ t341 true _ ?side1 ?side2 ?side3 ?side4 A25.out).mono ?_); (case side1 => exact cq (Kd.R_reads' HO332.out).2.2); (case side2 => exact (Kd.R_reads' HO332.out).2.1); (case side3 => exact cq (Kd.R_reads' HO343.out).2.2); (case side4 => exact (Kd.R_reads' HO343.out).2.1); rintro e w58 ⟨rfl, hb⟩; refine ⟨_, rfl, ?_⟩; replace HO319 := am (Kd.R_below (rq HO319.out) hb); replace HO322 := am (Kd.R_below (rq HO322.out) hb); replace HO325 := am (Kd.R_below (rq HO325.out) hb); replace HO328 := am (Kd.R_below (rq HO328.out) hb); replace HO332 := am (Kd.R_below (rq HO332.out) hb); replace HO335 := am (Kd.R_below (rq HO335.out) hb); replace HO339 := am (Kd.R_below (rq HO339.out) hb); replace HO343 := am (Kd.R_below (rq HO343.out) hb); replace BK314 := am (blk_below (g := gb314) (o := .cells #[.slice A0_0 l0_0.length c0_0] 24 (0, 0)) (kq BK314.out) hb); replace BK329 := am (blk_below (g := gb329) (o := .cells #[.slice Ao42 t326.length co42] 32 (0, 0)) (kq BK329.out) hb); replace HB := am (below_step (Y3) hb); (try clear hb); (try clear hb2); (try clear hk); (try clear hi); have hcz59_0 := bc0 BK329.out; have hfz59_0 := blk_frozen BK329.out 0) | ((with_reducible refine gate_callee (f := 16) rfl ?_); refine gL (some 52) Try.func16 #[.agg #[.slice Ao42 t326.length co42], .int .i64 1] ?_; (with_reducible refine (laws_markTree.calls k (fun k_ => some k_ = (.slice Ao42 t326.length co42 : Value).ownBlock) (.slice Ao42 t326.length co42) t326 1 t345 t346 w _ ?side1 ?side2 A27.out).mono ?_); (case side1 => exact Y3); (case side2 => exact Kd.R_tight rfl HO328.out); rintro e w60 ⟨rfl, hy0, hb, hkp⟩; refine ⟨_, rfl, ?_⟩; replace BK314 := am (blk_kept (kq BK314.out) hkp (fun hs_ => (fun e_ => (Kd.R_ne HO328.out BK314.out (by decide)) e_) hs_)); replace HO319 := am (Kd.R_mono (ok' := fun k_ => some k_ ≠ (.slice Ao42 t326.length co42 : Value).ownBlock ∧ some k_ ≠ (.slice Ao54 t337.length co54 : Value).ownBlock) (Kd.R_keptB (HO319.out) hkp (fun k_ hk_ hs_ => (hk_.1.2) hs_)) (fun k_ hk_ => ⟨hk_.1.1.2, hk_.1.2⟩)); replace HO322 := am (Kd.R_mono (ok' := fun k_ => some k_ ≠ (.slice Ao47 t330.length co47 : Value).ownBlock ∧ some k_ ≠ (.slice Ao57 t341.length co57 : Value).ownBlock) (Kd.R_keptB ((Kd.R_apart' HO322.out (Kd.R_typed HO328.out) (by decide))) hkp (fun k_ hk_ hs_ => (hk_.2) hs_)) (fun k_ hk_ => ⟨hk_.1.1.1.2, hk_.1.1.2⟩)); replace HO325 := am (Kd.R_mono (ok' := fun k_ => some k_ ≠ (.slice Ao49 t333.length co49 : Value).ownBlock) (Kd.R_keptB ((Kd.R_apart' HO325.out (Kd.R_typed HO328.out) (by decide))) hkp (fun k_ hk_ hs_ => (hk_.2) hs_)) (fun k_ hk_ => hk_.1.1.2)); replace BK329 := am (blk_kept (kq BK329.out) hkp (fun hs_ => (fun e_ => (Kd.R_ne HO328.out BK329.out (by decide)) e_) hs_)); replace HO332 := am (Kd.R_mono (ok' := fun k_ => some k_ ≠ (.slice Ao37 t320.length co37 : Value).ownBlock ∧ some k_ ≠ (.slice Ao57 t341.length co57 : Value).ownBlock) (Kd.R_keptB ((Kd.R_apart' HO332.out (Kd.R_typed HO328.out) (by decide))) hkp (fun k_ hk_ hs_ => (hk_.2) hs_)) (fun k_ hk_ => ⟨hk_.1.1.1.2, hk_.1.1.2⟩)); replace HO335 := am (Kd.R_mono (ok' := fun k_ => some k_ ≠ (.slice Ao50 t323.length co50 : Value).ownBlock) (Kd.R_keptB ((Kd.R_apart' HO335.out (Kd.R_typed HO328.out) (by decide))) hkp (fun k_ hk_ hs_ => (hk_.2) hs_)) (fun k_ hk_ => hk_.1.1.2)); replace HO339 := am (Kd.R_mono (ok' := fun k_ => some k_ ≠ (.slice Ao36 t317.length co36 : Value).ownBlock ∧ some k_ ≠ (.slice Ao42 t326.length co42 : Value).ownBlock) (Kd.R_keptB (HO339.out) hkp (fun k_ hk_ hs_ => (hk_.2) hs_)) (fun k_ hk_ => ⟨hk_.1.1.2, hk_.1.2⟩)); replace HO343 := am (Kd.R_mono (ok' := fun k_ => some k_ ≠ (.slice Ao37 t320.length co37 : Value).ownBlock ∧ some k_ ≠ (.slice Ao47 t330.length co47 : Value).ownBlock) (Kd.R_keptB ((Kd.R_apart' HO343.out (Kd.R_typed HO328.out) (by decide))) hkp (fun k_ hk_ hs_ => (hk_.2) hs_)) (fun k_ hk_ => ⟨hk_.1.1.1.2, hk_.1.1.2⟩)); replace HO328 := am (Kd.R_reok rfl hy0 (fun k_ e_ => HO328.out.1 k_ e_)); replace HB := am (hb); (try clear hb); (try clear hkp); (try clear hy0)) | ((with_reducible refine gate_callee (f := 17) rfl ?_); refine gL (some 55) Try.func17 #[.slice Ao47 t330.length co47, .int .i64 t345] ?_; (with_reducible refine (laws_markLineS.calls k (fun k_ => some k_ = (.slice Ao47 t330.length co47 : Value).ownBlock) (.slice Ao47 t330.length co47) t330 t345 t347 t348 w _ ?side1 ?side2 A28.out).mono ?_); (case side1 => exact Y3); (case side2 => exact Kd.R_tight rfl HO332.out); rintro e w61 ⟨rfl, hy0, hb, hkp⟩; refine ⟨_, rfl, ?_⟩; replace BK314 := am (blk_kept (kq BK314.out) hkp (fun hs_ => (fun e_ => (Kd.R_ne HO332.out BK314.out (by decide)) e_) hs_)); replace HO319 := am (Kd.R_mono (ok' := fun k_ => some k_ ≠ (.slice Ao42 t326.length co42 : Value).ownBlock ∧ some k_ ≠ (.slice Ao54 t337.length co54 : Value).ownBlock) (Kd.R_keptB ((Kd.R_apart' HO319.out (Kd.R_typed HO332.out) (by decide))) hkp (fun k_ hk_ hs_ => (hk_.2) hs_)) (fun k_ hk_ => ⟨hk_.1.1.1, hk_.1.1.2⟩)); replace HO322 := am (Kd.R_mono (ok' := fun k_ => some k_ ≠ (.slice Ao47 t330.length co47 : Value).ownBlock ∧ some k_ ≠ (.slice Ao57 t341.length co57 : Value).ownBlock) (Kd.R_keptB (HO322.out) hkp (fun k_ hk_ hs_ => (hk_.1) hs_)) (fun k_ hk_ => ⟨hk_.1.1, hk_.1.2⟩)); replace HO325 := am (Kd.R_mono (ok' := fun k_ => some k_ ≠ (.slice Ao49 t333.length co49 : Value).ownBlock) (Kd.R_keptB ((Kd.R_apart' HO325.out (Kd.R_typed HO332.out) (by decide))) hkp (fun k_ hk_ hs_ => (hk_.2) hs_)) (fun k_ hk_ => hk_.1.1)); replace HO328 := am (Kd.R_mono (ok' := fun k_ => some k_ ≠ (.slice Ao36 t317.length co36 : Value).ownBlock ∧ some k_ ≠ (.slice Ao54 t337.length co54 : Value).ownBlock) (Kd.R_keptB ((Kd.R_apart' HO328.out (Kd.R_typed HO332.out) (by decide))) hkp (fun k_ hk_ hs_ => (hk_.2) hs_)) (fun k_ hk_ => ⟨hk_.1.1.1.2, hk_.1.1.2⟩)); replace BK329 := am (blk_kept (kq BK329.out) hkp (fun hs_ => (fun e_ => (Kd.R_ne HO332.out BK329.out (by decide)) e_) hs_)); replace HO335 := am (Kd.R_mono (ok' := fun k_ => some k_ ≠ (.slice Ao50 t323.length co50 : Value).ownBlock) (Kd.R_keptB ((Kd.R_apart' HO335.out (Kd.R_typed HO332.out) (by decide))) hkp (fun k_ hk_ hs_ => (hk_.2) hs_)) (fun k_ hk_ => hk_.1.1)); replace HO339 := am (Kd.R_mono (ok' := fun k_ => some k_ ≠ (.slice Ao36 t317.length co36 : Value).ownBlock ∧ some k_ ≠ (.slice Ao42 t326.length co42 : Value).ownBlock) (Kd.R_keptB ((Kd.R_apart' HO339.out (Kd.R_typed HO332.out) (by decide))) hkp (fun k_ hk_ hs_ => (hk_.2) hs_)) (fun k_ hk_ => ⟨hk_.1.1.1, hk_.1.1.2⟩)); replace HO332 := am (Kd.R_reok rfl hy0 (fun k_ e_ => HO332.out.1 k_ e_)); replace HO343 := am (Kd.R_mono (ok' := fun k_ => some k_ ≠ (.slice Ao37 t320.length co37 : Value).ownBlock ∧ some k_ ≠ (.slice Ao47 t330.length co47 : Value).ownBlock) (Kd.R_keptB (HO343.out) hkp (fun k_ hk_ hs_ => (hk_.2) hs_)) (fun k_ hk_ => ⟨hk_.1.1, hk_.1.2⟩)); replace HB := am (hb); (try clear hb); (try clear hkp); (try clear hy0)))
      (try simp only [Act.put, List.setIfInBounds_toArray, List.set_cons_zero, List.set_cons_succ])
      go_cut [63] (fun v63 wc => ∃ (kq : Nat) (x63_28 : Bool), v63 = .bool x63_28 ∧ Aside0 (laws_FnExactTableOf.j0 kq l1 t323 t333 x63_28 l0_0 = some r) ∧ Aside0 (kq ≤ k) ∧ Aside0 (Kd.R k48 48 wc w.heap.size (fun k_ => some k_ ≠ ((.slice Ao49 t333.length co49) : Value).ownBlock) (.slice Ao50 t323.length co50) t323) ∧ Aside0 (Kd.R k48 48 wc w.heap.size (fun k_ => some k_ ≠ ((.slice Ao50 t323.length co50) : Value).ownBlock) (.slice Ao49 t333.length co49) t333) ∧ Aside0 (Kd.R k98 98 wc w.heap.size (fun _ => True) (.slice Ao42 t326.length co42) t346) ∧ Aside0 (wc.heap[gb314]? = some (.cells #[(.slice A0_0 l0_0.length c0_0)] 24 (0, 0))) ∧ Aside0 (wc.heap[gb329]? = some (.cells #[(.slice Ao42 t326.length co42)] 32 (0, 0))) ∧ Aside0 (Below w.heap.size w wc))
      case first =>
       have H := HC29.out
       clear HC29
       by_cases c62 : t347 < 0
       ·rw [if_pos c62] at H
        have c62b0 : decide (t347 < 0) = true := decide_eq_true c62
        clear c62
        (first | rw [c62b0] | (simp only [i64_w, i32_w]; rw [c62b0]) | skip)
        have H' := am H
        clear H
        go_wp2
        go_meet
        case rel => exact ⟨_, (true), (sq), H', ⟨Y14⟩, ⟨rq HO325.out⟩, ⟨rq HO335.out⟩, ⟨by (with_reducible repeat (first | apply Kd.R_alloc | apply Kd.R_drewN | apply Kd.R_drew)); exact Kd.R_mono HO328.out (fun _ hk => trivial)⟩, ⟨kq BK314.out⟩, ⟨kq BK329.out⟩, ⟨Y3⟩⟩
       ·rw [if_neg c62] at H
        have c62b0 : decide (t347 < 0) = false := decide_eq_false c62
        clear c62
        (first | rw [c62b0] | (simp only [i64_w, i32_w]; rw [c62b0]) | skip)
        replace H := Option.bind_eq_some_iff.mp H
        obtain ⟨t349, A630, H⟩ := H
        replace H : (laws_FnExactTableOf.j0 k l1 t323 t333 (!t349) l0_0) = some r := H
        have A63 := am A630
        clear A630
        have H' := am H
        clear H
        go_wp2_with (first | (go_at_call 13; (with_reducible refine (laws_eqRangeS.calls k _ _ t333 _ _ t323 t349 _ ?side1 ?side2 ?side3 ?side4 A63.out).mono ?_); (case side1 => exact cq (Kd.R_reads' HO335.out).2.2); (case side2 => exact (Kd.R_reads' HO335.out).2.1); (case side3 => exact cq (Kd.R_reads' HO325.out).2.2); (case side4 => exact (Kd.R_reads' HO325.out).2.1); rintro e w64 ⟨rfl, hb⟩; replace HO319 := am (Kd.R_below (rq HO319.out) hb); replace HO322 := am (Kd.R_below (rq HO322.out) hb); replace HO325 := am (Kd.R_below (rq HO325.out) hb); replace HO328 := am (Kd.R_below (rq HO328.out) hb); replace HO332 := am (Kd.R_below (rq HO332.out) hb); replace HO335 := am (Kd.R_below (rq HO335.out) hb); replace HO339 := am (Kd.R_below (rq HO339.out) hb); replace HO343 := am (Kd.R_below (rq HO343.out) hb); replace BK314 := am (blk_below (g := gb314) (o := .cells #[.slice A0_0 l0_0.length c0_0] 24 (0, 0)) (kq BK314.out) hb); replace BK329 := am (blk_below (g := gb329) (o := .cells #[.slice Ao42 t326.length co42] 32 (0, 0)) (kq BK329.out) hb); replace HB := am (below_step (Y3) hb); (try clear hb); (try clear hb2); (try clear hk); (try clear hi)))
        go_meet
        case rel => exact ⟨_, (!t349), (sq), H', ⟨Y14⟩, ⟨rq HO325.out⟩, ⟨rq HO335.out⟩, ⟨by (with_reducible repeat (first | apply Kd.R_alloc | apply Kd.R_drewN | apply Kd.R_drew)); exact Kd.R_mono HO328.out (fun _ hk => trivial)⟩, ⟨kq BK314.out⟩, ⟨kq BK329.out⟩, ⟨Y3⟩⟩
      case rest =>
       clear HC29
       try clear c1
       try clear c2
       try clear p2
       try clear c3
       try clear c4
       try clear c4b0
       try clear c6
       try clear c7
       try clear c8
       try clear c9
       try clear c9b0
       try clear c10
       try clear c11
       try clear c12
       try clear c13
       try clear c14
       try clear c15
       try clear c16
       try clear c17
       try clear c20
       try clear c23
       try clear c26
       try clear c43
       try clear c62
       try clear c62b0
       try clear hcz11_0
       try clear hcz31_0
       try clear hcz33_0
       try clear hcz39_0
       try clear hcz44_0
       try clear hcz46_0
       try clear hcz59_0
       try clear hcz6_0
       try clear hfz11_0
       try clear hfz31_0
       try clear hfz33_0
       try clear hfz39_0
       try clear hfz44_0
       try clear hfz46_0
       try clear hfz59_0
       try clear hfz6_0
       obtain ⟨kq, x63_28, rfl, HA, HJ28, HO_6, HO_9, HO_330000, BK314, BK329, HB⟩ := hcut
       have hl330000_28 := (Kd.R_reads' HO_330000.out).1
       rw [hl330000_28] at HO_330000
       (try simp only [hl330000_28])
       (try simp only [hl330000_28] at BK314)
       (try simp only [hl330000_28] at BK329)
       (try simp only [hl330000_28] at HO_6)
       (try simp only [hl330000_28] at HO_9)
       cases kq with
       | zero => exact absurd HA.out (by simp [laws_FnExactTableOf.j0])
       | succ kj28 =>
        have H := HA.out
        clear HA
        simp only [laws_FnExactTableOf.j0] at H
        by_cases c65 : x63_28 = true
        ·subst c65
         have H1 : (some false) = some r := by rw [if_pos rfl] at H; exact H
         clear H
         have H := H1
         clear H1
         exact absurd ((Option.some.inj H).trans hT) Bool.false_ne_true
        ·replace c65 := Bool.eq_false_iff.mpr c65
         subst c65
         have H1 : ((laws_markRangeS.f kj28 t333 1).bind fun bt350 => ((laws_heldRangeS.f kj28 bt350.2 1).bind fun t352 => (if t352 < 0 then (some false) else (if t352 = bt350.1 then ((laws_toTree.f kj28 l0_0).bind fun t353 => ((laws_toLineS.f kj28 l1).bind fun t356 => ((impl_TableOf.f kj28 t353 t356).bind fun t359 => ((laws_eqRangeS.f kj28 t359 t323).bind fun t362 => (if t362 = true then ((laws_heldRangeS.f kj28 bt350.2 1).bind fun t363 => (if t363 < 0 then (some false) else (if t363 = bt350.1 then (some true) else (some false)))) else (some false)))))) else (some false))))) = some r := by rw [if_neg (show ¬ (false = true) by decide)] at H; exact H
         clear H
         have H := H1
         clear H1
         replace H := Option.bind_eq_some_iff.mp H
         obtain ⟨⟨t350, t351⟩, A660, H⟩ := H
         replace H : ((laws_heldRangeS.f kj28 t351 1).bind fun t352 => (if t352 < 0 then (some false) else (if t352 = t350 then ((laws_toTree.f kj28 l0_0).bind fun t353 => ((laws_toLineS.f kj28 l1).bind fun t356 => ((impl_TableOf.f kj28 t353 t356).bind fun t359 => ((laws_eqRangeS.f kj28 t359 t323).bind fun t362 => (if t362 = true then ((laws_heldRangeS.f kj28 t351 1).bind fun t363 => (if t363 < 0 then (some false) else (if t363 = t350 then (some true) else (some false)))) else (some false)))))) else (some false)))) = some r := H
         have A66 := am A660
         clear A660
         replace H := Option.bind_eq_some_iff.mp H
         obtain ⟨t352, A670, H⟩ := H
         replace H : (if t352 < 0 then (some false) else (if t352 = t350 then ((laws_toTree.f kj28 l0_0).bind fun t353 => ((laws_toLineS.f kj28 l1).bind fun t356 => ((impl_TableOf.f kj28 t353 t356).bind fun t359 => ((laws_eqRangeS.f kj28 t359 t323).bind fun t362 => (if t362 = true then ((laws_heldRangeS.f kj28 t351 1).bind fun t363 => (if t363 < 0 then (some false) else (if t363 = t350 then (some true) else (some false)))) else (some false)))))) else (some false))) = some r := H
         have A67 := am A670
         clear A670
         by_cases c68 : t352 < 0
         ·rw [if_pos c68] at H
          have c68b0 : decide (t352 < 0) = true := decide_eq_true c68
          clear c68
          exact absurd ((Option.some.inj H).trans hT) Bool.false_ne_true
         ·rw [if_neg c68] at H
          have c68b0 : decide (t352 < 0) = false := decide_eq_false c68
          clear c68
          by_cases c69 : t352 = t350
          ·rw [if_pos c69] at H
           have c69b0 : (t352 == t350) = true := beq_iff_eq.mpr c69
           have c69b1 : (t352 != t350) = false := bne_eq_false_iff_eq.mpr c69
           clear c69
           replace H := Option.bind_eq_some_iff.mp H
           obtain ⟨t353, A700, H⟩ := H
           replace H : ((laws_toLineS.f kj28 l1).bind fun t356 => ((impl_TableOf.f kj28 t353 t356).bind fun t359 => ((laws_eqRangeS.f kj28 t359 t323).bind fun t362 => (if t362 = true then ((laws_heldRangeS.f kj28 t351 1).bind fun t363 => (if t363 < 0 then (some false) else (if t363 = t350 then (some true) else (some false)))) else (some false))))) = some r := H
           have A70 := am A700
           clear A700
           replace H := Option.bind_eq_some_iff.mp H
           obtain ⟨t356, A710, H⟩ := H
           replace H : ((impl_TableOf.f kj28 t353 t356).bind fun t359 => ((laws_eqRangeS.f kj28 t359 t323).bind fun t362 => (if t362 = true then ((laws_heldRangeS.f kj28 t351 1).bind fun t363 => (if t363 < 0 then (some false) else (if t363 = t350 then (some true) else (some false)))) else (some false)))) = some r := H
           have A71 := am A710
           clear A710
           replace H := Option.bind_eq_some_iff.mp H
           obtain ⟨t359, A720, H⟩ := H
           replace H : ((laws_eqRangeS.f kj28 t359 t323).bind fun t362 => (if t362 = true then ((laws_heldRangeS.f kj28 t351 1).bind fun t363 => (if t363 < 0 then (some false) else (if t363 = t350 then (some true) else (some false)))) else (some false))) = some r := H
           have A72 := am A720
           clear A720
           replace H := Option.bind_eq_some_iff.mp H
           obtain ⟨t362, A730, H⟩ := H
           replace H : (if t362 = true then ((laws_heldRangeS.f kj28 t351 1).bind fun t363 => (if t363 < 0 then (some false) else (if t363 = t350 then (some true) else (some false)))) else (some false)) = some r := H
           have A73 := am A730
           clear A730
           by_cases c74 : t362 = true
           ·subst c74
            have H1 : ((laws_heldRangeS.f kj28 t351 1).bind fun t363 => (if t363 < 0 then (some false) else (if t363 = t350 then (some true) else (some false)))) = some r := by rw [if_pos rfl] at H; exact H
            clear H
            have H := H1
            clear H1
            replace H := Option.bind_eq_some_iff.mp H
            obtain ⟨t363, A750, H⟩ := H
            replace H : (if t363 < 0 then (some false) else (if t363 = t350 then (some true) else (some false))) = some r := H
            have A75 := am A750
            clear A750
            by_cases c76 : t363 < 0
            ·rw [if_pos c76] at H
             have c76b0 : decide (t363 < 0) = true := decide_eq_true c76
             clear c76
             exact absurd ((Option.some.inj H).trans hT) Bool.false_ne_true
            ·rw [if_neg c76] at H
             have c76b0 : decide (t363 < 0) = false := decide_eq_false c76
             clear c76
             by_cases c77 : t363 = t350
             ·rw [if_pos c77] at H
              have c77b0 : (t363 == t350) = true := beq_iff_eq.mpr c77
              have c77b1 : (t363 != t350) = false := bne_eq_false_iff_eq.mpr c77
              clear c77
              obtain rfl := Option.some.inj H
              go_wp2_with (first | ((with_reducible refine gate_callee (f := 18) rfl ?_); refine gL (some 66) Try.func18 #[.slice Ao49 t333.length co49, .int .i64 1] ?_; (with_reducible refine (laws_markRangeS.calls kj28 (fun k_ => some k_ = (.slice Ao49 t333.length co49 : Value).ownBlock) (.slice Ao49 t333.length co49) t333 1 t350 t351 w _ ?side1 ?side2 A66.out).mono ?_); (case side1 => exact Y3); (case side2 => exact Kd.R_tight rfl HO_9.out); rintro e w78 ⟨rfl, hy0, hb, hkp⟩; refine ⟨_, rfl, ?_⟩; replace HO_6 := am (Kd.R_mono (ok' := fun k_ => some k_ ≠ (.slice Ao49 t333.length co49 : Value).ownBlock) (Kd.R_keptB (HO_6.out) hkp (fun k_ hk_ hs_ => (hk_) hs_)) (fun k_ hk_ => hk_.1)); replace HO_330000 := am (Kd.R_mono (ok' := fun k_ => True) (Kd.R_keptB ((Kd.R_apart' HO_330000.out (Kd.R_typed HO_9.out) (by decide))) hkp (fun k_ hk_ hs_ => (hk_.2) hs_)) (fun k_ hk_ => trivial)); replace BK314 := am (blk_kept (kq BK314.out) hkp (fun hs_ => (fun e_ => (Kd.R_ne HO_9.out BK314.out (by decide)) e_) hs_)); replace BK329 := am (blk_kept (kq BK329.out) hkp (fun hs_ => (fun e_ => (Kd.R_ne HO_9.out BK329.out (by decide)) e_) hs_)); replace HO_9 := am (Kd.R_reok rfl hy0 (fun k_ e_ => HO_9.out.1 k_ e_)); replace HB := am (hb); (try clear hb); (try clear hkp); (try clear hy0)) | ((with_reducible refine gate_callee (f := 19) rfl ?_); refine goesL_ (some 69) rfl rfl Try.func19 (by kernel_rfl) rfl #[.slice Ao49 t351.length co49, .int .i64 1] rfl (by (try simp only [List.map_toArray, List.map_cons, List.map_nil]); first | done | (rw [show t351.length = t333.length from (Kd.R_reads' HO_9.out).1.symm] <;> rfl) | rfl | (simp only [List.length_drop, List.length_take]; rfl)) ?_; (with_reducible refine (laws_heldRangeS.calls kj28 _ _ t351 1 t352 _ ?side1 ?side2 A67.out).mono ?_); (case side1 => exact cq (Kd.R_reads' HO_9.out).2.2); (case side2 => rw [show t351.length = t333.length from (Kd.R_reads' HO_9.out).1.symm]; exact (Kd.R_reads' HO_9.out).2.1); rintro e w' ⟨rfl, ⟨nd, rfl⟩⟩; refine ⟨_, rfl, ?_⟩; have hnb79 := NB314_329.out; have hnc79 := NB329_314.out; have hcz80_0 := bc0 BK314.out; have hfz80_0 := blk_frozen BK314.out 0) | ((with_reducible refine gate_callee (f := 10) rfl ?_); refine gL (some 76) Try.func10 #[.agg #[.slice A0_0 l0_0.length c0_0]] ?_; (with_reducible refine (laws_toTree.calls kj28 _ _ l0_0 t353 _ ?side1 ?side2 A70.out).mono ?_); (case side1 => repeat (first | exact (Kd.C_below HR0_0.out (by repeat (first | (with_reducible first | exact HB.out | apply below_alloc | apply pw_below_drewN | apply below_drew1 | refine below_set ?_ GE314.out | refine below_set ?_ GE329.out) | exact HB.out))) | (with_reducible refine Kd.C_alloc ?_ _) | (with_reducible refine Kd.C_drewN ?_ _) | (with_reducible refine Kd.C_drew ?_))); (case side2 => exact HC0_0.out); rintro e w81 ⟨v354, rfl, ho0, hb⟩; refine ⟨_, rfl, ?_⟩; have HO355 := am (Kd.R_lower (Kd.R_new' ho0 (Kd.R_lt (rq HO_330000.out))) (below_size (Y3))); replace HO_6 := am (Kd.R_below (rq HO_6.out) hb); replace HO_9 := am (Kd.R_below (rq HO_9.out) hb); replace HO_330000 := am (Kd.R_elder' (rq HO_330000.out) (Kd.R_base ho0) hb); replace BK314 := am (blk_below (g := gb314) (o := .cells #[.slice A0_0 l0_0.length c0_0] 24 (0, 0)) (kq BK314.out) hb); replace BK329 := am (blk_below (g := gb329) (o := .cells #[.slice Ao42 t346.length co42] 32 (0, 0)) (kq BK329.out) hb); replace HB := am (below_step (Y3) hb); (try clear hb); (try clear hb2); (try clear hk); (try clear hi); (try clear ho0)) | ((with_reducible refine gate_callee (f := 11) rfl ?_); refine gL (some 78) Try.func11 #[.slice A1 l1.length c1] ?_; (with_reducible refine (laws_toLineS.calls kj28 _ _ l1 t356 _ ?side1 ?side2 A71.out).mono ?_); (case side1 => exact cq (Kd.C_below HR1.out HB.out)); (case side2 => exact HC1.out); rintro e w82 ⟨v357, rfl, ho0, hb⟩; refine ⟨_, rfl, ?_⟩; have HO358 := am (Kd.R_lower ho0 (below_size (Y3))); replace HO_6 := am (Kd.R_below (rq HO_6.out) hb); replace HO_9 := am (Kd.R_below (rq HO_9.out) hb); replace HO_330000 := am (Kd.R_below (rq HO_330000.out) hb); replace HO355 := am (Kd.R_below (rq HO355.out) hb); replace BK314 := am (blk_below (g := gb314) (o := .cells #[.slice A0_0 l0_0.length c0_0] 24 (0, 0)) (kq BK314.out) hb); replace BK329 := am (blk_below (g := gb329) (o := .cells #[.slice Ao42 t346.length co42] 32 (0, 0)) (kq BK329.out) hb); replace HB := am (below_step (Y3) hb); (try clear hb); (try clear hb2); (try clear hk); (try clear hi); (try clear ho0); obtain ⟨Ao83, co83, eo83⟩ := Kd.R_slice HO355.out; subst eo83; obtain ⟨Ao84, co84, eo84⟩ := Kd.R_slice HO358.out; subst eo84) | ((with_reducible refine gate_callee (f := 12) rfl ?_); refine gL (some 79) Try.func12 #[.agg #[.slice Ao83 t353.length co83], .slice Ao84 t356.length co84] ?_; (with_reducible refine (impl_TableOf.calls kj28 _ _ t353 _ _ t356 t359 _ ?side1 ?side2 ?side3 ?side4 A72.out).mono ?_); (case side1 => exact cq (Kd.R_reads' HO355.out).2.2); (case side2 => exact (Kd.R_reads' HO355.out).2.1); (case side3 => exact cq (Kd.R_reads' HO358.out).2.2); (case side4 => exact (Kd.R_reads' HO358.out).2.1); rintro e w85 ⟨v360, rfl, ho0, hb⟩; refine ⟨_, rfl, ?_⟩; have HO361 := am (Kd.R_lower (Kd.R_new' (Kd.R_new' ho0 (Kd.R_lt (rq HO_6.out))) (Kd.R_lt (rq HO_9.out))) (below_size (Y3))); replace HO_6 := am (Kd.R_elder' (rq HO_6.out) (Kd.R_base ho0) hb); replace HO_9 := am (Kd.R_elder' (rq HO_9.out) (Kd.R_base ho0) hb); replace HO_330000 := am (Kd.R_below (rq HO_330000.out) hb); replace HO355 := am (Kd.R_below (rq HO355.out) hb); replace HO358 := am (Kd.R_below (rq HO358.out) hb); replace BK314 := am (blk_below (g := gb314) (o := .cells #[.slice A0_0 l0_0.length c0_0] 24 (0, 0)) (kq BK314.out) hb); replace BK329 := am (blk_below (g := gb329) (o := .cells #[.slice Ao42 t346.length co42] 32 (0, 0)) (kq BK329.out) hb); replace HB := am (below_step (Y3) hb); (try clear hb); (try clear hb2); (try clear hk); (try clear hi); (try clear ho0); obtain ⟨Ao86, co86, eo86⟩ := Kd.R_slice HO361.out; subst eo86) | ((with_reducible refine gate_callee (f := 13) rfl ?_); refine gL (some 82) Try.func13 #[.slice Ao86 t359.length co86, .slice Ao50 t323.length co50] ?_; (with_reducible refine (laws_eqRangeS.calls kj28 _ _ t359 _ _ t323 true _ ?side1 ?side2 ?side3 ?side4 A73.out).mono ?_); (case side1 => exact cq (Kd.R_reads' HO361.out).2.2); (case side2 => exact (Kd.R_reads' HO361.out).2.1); (case side3 => exact cq (Kd.R_reads' HO_6.out).2.2); (case side4 => exact (Kd.R_reads' HO_6.out).2.1); rintro e w87 ⟨rfl, hb⟩; refine ⟨_, rfl, ?_⟩; replace HO_6 := am (Kd.R_below (rq HO_6.out) hb); replace HO_9 := am (Kd.R_below (rq HO_9.out) hb); replace HO_330000 := am (Kd.R_below (rq HO_330000.out) hb); replace HO355 := am (Kd.R_below (rq HO355.out) hb); replace HO358 := am (Kd.R_below (rq HO358.out) hb); replace HO361 := am (Kd.R_below (rq HO361.out) hb); replace BK314 := am (blk_below (g := gb314) (o := .cells #[.slice A0_0 l0_0.length c0_0] 24 (0, 0)) (kq BK314.out) hb); replace BK329 := am (blk_below (g := gb329) (o := .cells #[.slice Ao42 t346.length co42] 32 (0, 0)) (kq BK329.out) hb); replace HB := am (below_step (Y3) hb); (try clear hb); (try clear hb2); (try clear hk); (try clear hi)) | ((with_reducible refine gate_callee (f := 19) rfl ?_); refine goesL_ (some 86) rfl rfl Try.func19 (by kernel_rfl) rfl #[.slice Ao49 t351.length co49, .int .i64 1] rfl (by (try simp only [List.map_toArray, List.map_cons, List.map_nil]); first | done | (rw [show t351.length = t333.length from (Kd.R_reads' HO_9.out).1.symm] <;> rfl) | rfl | (simp only [List.length_drop, List.length_take]; rfl)) ?_; (with_reducible refine (laws_heldRangeS.calls kj28 _ _ t351 1 t363 _ ?side1 ?side2 A75.out).mono ?_); (case side1 => exact cq (Kd.R_reads' HO_9.out).2.2); (case side2 => rw [show t351.length = t333.length from (Kd.R_reads' HO_9.out).1.symm]; exact (Kd.R_reads' HO_9.out).2.1); rintro e w' ⟨rfl, ⟨nd, rfl⟩⟩; refine ⟨_, rfl, ?_⟩))
              go_ret
              exact ⟨Y0, Y3⟩
             ·rw [if_neg c77] at H
              have c77b0 : (t363 == t350) = false := beq_eq_false_iff_ne.mpr c77
              have c77b1 : (t363 != t350) = true := bne_iff_ne.mpr c77
              exact absurd ((Option.some.inj H).trans hT) Bool.false_ne_true
           ·replace c74 := Bool.eq_false_iff.mpr c74
            subst c74
            have H1 : (some false) = some r := by rw [if_neg (show ¬ (false = true) by decide)] at H; exact H
            clear H
            have H := H1
            clear H1
            exact absurd ((Option.some.inj H).trans hT) Bool.false_ne_true
          ·rw [if_neg c69] at H
           have c69b0 : (t352 == t350) = false := beq_eq_false_iff_ne.mpr c69
           have c69b1 : (t352 != t350) = true := bne_iff_ne.mpr c69
           exact absurd ((Option.some.inj H).trans hT) Bool.false_ne_true
     ·replace c26 := Bool.eq_false_iff.mpr c26
      subst c26
      have H1 : (some false) = some r := by rw [if_neg (show ¬ (false = true) by decide)] at H; exact H
      clear H
      have H := H1
      clear H1
      exact absurd ((Option.some.inj H).trans hT) Bool.false_ne_true
    ·replace c23 := Bool.eq_false_iff.mpr c23
     subst c23
     have H1 : (some false) = some r := by rw [if_neg (show ¬ (false = true) by decide)] at H; exact H
     clear H
     have H := H1
     clear H1
     exact absurd ((Option.some.inj H).trans hT) Bool.false_ne_true
   ·replace c20 := Bool.eq_false_iff.mpr c20
    subst c20
    have H1 : (some false) = some r := by rw [if_neg (show ¬ (false = true) by decide)] at H; exact H
    clear H
    have H := H1
    clear H1
    exact absurd ((Option.some.inj H).trans hT) Bool.false_ne_true
end Go.Proofs.Ytbcjbcjpoddkoaa.P
end
