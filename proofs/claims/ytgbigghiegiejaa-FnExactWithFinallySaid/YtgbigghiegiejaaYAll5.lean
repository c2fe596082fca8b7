/- One part of the proofs on this program: functions of the program as plain functions, that the code comes to them, and facts on them. -/
import Derived.Test.YtgbigghiegiejaaYAll1
import Derived.Test.YtgbigghiegiejaaYAll4
import Derived.Test.YtgbigghiegiejaaYWAuto
section
namespace Go.Proofs.Ytgbigghiegiejaa.P
open Go.RowKit Go.Proofs.YtgbigghiegiejaaW.PrintWords Go.Proofs.YtgbigghiegiejaaW.PrintLast Go.Proofs.YtgbigghiegiejaaW.PrintMore
attribute [local go_sem] max2_int min2_int max_two min_two max_three min_three max_four min_four isSome_cell_setCell
set_option linter.unusedVariables false
set_option linter.unusedSimpArgs false
def laws_heldLineS.l0 : Nat → List (S50) → Int → Int → Option (Int)
 | 0, _, _, _ => none
 | k + 1, x0, x1, x5 => if x5 < (x0.length : Int) then (if 0 ≤ x5 then (if ((rd_T50 x0 x5).f0) = x1 then (if ((rd_T50 x0 x5).f1) = (wrap64 (x1 + 1)) then (if ((rd_T50 x0 x5).f2) = (wrap64 ((wrap64 (x1 + 1)) + 1)) then (if ((rd_T50 x0 x5).f3) = (wrap64 ((wrap64 ((wrap64 (x1 + 1)) + 1)) + 1)) then (laws_heldLineS.l0 k x0 (wrap64 ((wrap64 ((wrap64 ((wrap64 (x1 + 1)) + 1)) + 1)) + 1)) (wrap64 (x5 + 1))) else (some (-1))) else (some (-1))) else (some (-1))) else (some (-1))) else (none)) else (some x1)
def laws_heldLineS.f (k : Nat) (l0 : List (S50)) (a1 : Int) : Option (Int) := laws_heldLineS.l0 k l0 a1 0
set_option maxHeartbeats 8000000 in
set_option maxRecDepth 100000 in
theorem laws_heldLineS.calls (k : Nat) (A0 : Option Addr) (c0 : Nat) (l0 : List (S50)) (a1 : Int) (r : Int) (w : World) (hr0 : Kd.C k50 w A0 l0.length l0) (hc0 : l0.length ≤ c0) (h : laws_heldLineS.f k l0 a1 = some r) :
  Calls Try.prog 17 #[.slice A0 l0.length c0, .int .i64 a1] w fun e w' => e = .returned (.int .i64 r) ∧ Drawn0 w w' := by
 have HR0 := am hr0
 have HC0 := am hc0
 clear hr0 hc0
 have H : (laws_heldLineS.l0 k l0 a1 0) = some r := h
 clear h
 have H' := am H
 clear H
 go_enter Try.func17, Try.ntmps17
 go_wp2
 go_loopg [1, 5] k (fun kq v1 v5 w' => ∃ (x1_1 : Int) (x5_1 : Int), v1 = .int .i64 x1_1 ∧ v5 = .int .i64 x5_1 ∧ Aside0 (laws_heldLineS.l0 kq l0 x1_1 x5_1 = some r) ∧ Aside0 (kq ≤ k) ∧ Drawn0 w w')
 case atStart => exact ⟨(a1), (0), (sq), (sq), H', ⟨Nat.le_refl _⟩, Y5⟩
 case round =>
  clear H'
  try clear c1
  try clear p2
  obtain ⟨x1_1, x5_1, rfl, rfl, HA, HK1, ⟨m1, rfl⟩⟩ := hrel
  cases gk with
  | zero => exact absurd HA.out (by simp [laws_heldLineS.l0])
  | succ k1 =>
   have H := HA.out
   clear HA
   simp only [laws_heldLineS.l0] at H
   by_cases c3 : x5_1 < (l0.length : Int)
   ·rw [if_pos c3] at H
    have c3b0 : decide (x5_1 < (l0.length : Int)) = true := decide_eq_true c3
    clear c3
    by_cases c4 : 0 ≤ x5_1
    ·rw [if_pos c4] at H
     have c4b0 : decide (0 ≤ x5_1) = true := decide_eq_true c4
     clear c4
     by_cases c5 : ((rd_T50 l0 x5_1).f0) = x1_1
     ·rw [if_pos c5] at H
      have c5b0 : (((rd_T50 l0 x5_1).f0) == x1_1) = true := beq_iff_eq.mpr c5
      have c5b1 : (((rd_T50 l0 x5_1).f0) != x1_1) = false := bne_eq_false_iff_eq.mpr c5
      clear c5
      by_cases c6 : ((rd_T50 l0 x5_1).f1) = (wrap64 (x1_1 + 1))
      ·rw [if_pos c6] at H
       have c6b0 : (((rd_T50 l0 x5_1).f1) == (wrap64 (x1_1 + 1))) = true := beq_iff_eq.mpr c6
       have c6b1 : (((rd_T50 l0 x5_1).f1) != (wrap64 (x1_1 + 1))) = false := bne_eq_false_iff_eq.mpr c6
       clear c6
       by_cases c7 : ((rd_T50 l0 x5_1).f2) = (wrap64 ((wrap64 (x1_1 + 1)) + 1))
       ·rw [if_pos c7] at H
        have c7b0 : (((rd_T50 l0 x5_1).f2) == (wrap64 ((wrap64 (x1_1 + 1)) + 1))) = true := beq_iff_eq.mpr c7
        have c7b1 : (((rd_T50 l0 x5_1).f2) != (wrap64 ((wrap64 (x1_1 + 1)) + 1))) = false := bne_eq_false_iff_eq.mpr c7
        clear c7
        by_cases c8 : ((rd_T50 l0 x5_1).f3) = (wrap64 ((wrap64 ((wrap64 (x1_1 + 1)) + 1)) + 1))
        ·rw [if_pos c8] at H
         have c8b0 : (((rd_T50 l0 x5_1).f3) == (wrap64 ((wrap64 ((wrap64 (x1_1 + 1)) + 1)) + 1))) = true := beq_iff_eq.mpr c8
         have c8b1 : (((rd_T50 l0 x5_1).f3) != (wrap64 ((wrap64 ((wrap64 (x1_1 + 1)) + 1)) + 1))) = false := bne_eq_false_iff_eq.mpr c8
         clear c8
         have H' := am H
         clear H
         have p314 : 0 ≤ (x5_1 : Int) := of_decide_eq_true (uq)
         have q314 : x5_1 < (l0.length : Int) := of_decide_eq_true (uq)
         obtain ⟨ad314, e314, hx314_0, hx314_1, hx314_2, hx314_3⟩ := at_T50 HR0.out x5_1 p314 q314
         cases e314
         replace p314 := eq_true p314
         replace q314 := eq_true q314
         have p315 : 0 ≤ (x5_1 : Int) := of_decide_eq_true (uq)
         have q315 : x5_1 < (l0.length : Int) := of_decide_eq_true (uq)
         obtain ⟨ad315, e315, hx315_0, hx315_1, hx315_2, hx315_3⟩ := at_T50 HR0.out x5_1 p315 q315
         obtain rfl : ad314 = ad315 := (by injection e315)
         replace p315 := eq_true p315
         replace q315 := eq_true q315
         have p316 : 0 ≤ (x5_1 : Int) := of_decide_eq_true (uq)
         have q316 : x5_1 < (l0.length : Int) := of_decide_eq_true (uq)
         obtain ⟨ad316, e316, hx316_0, hx316_1, hx316_2, hx316_3⟩ := at_T50 HR0.out x5_1 p316 q316
         obtain rfl : ad314 = ad316 := (by injection e316)
         replace p316 := eq_true p316
         replace q316 := eq_true q316
         have p317 : 0 ≤ (x5_1 : Int) := of_decide_eq_true (uq)
         have q317 : x5_1 < (l0.length : Int) := of_decide_eq_true (uq)
         obtain ⟨ad317, e317, hx317_0, hx317_1, hx317_2, hx317_3⟩ := at_T50 HR0.out x5_1 p317 q317
         obtain rfl : ad314 = ad317 := (by injection e317)
         replace p317 := eq_true p317
         replace q317 := eq_true q317
         go_wp2
         go_roundg k1
         case measure => have := HK1.out; omega
         case rel => exact ⟨(wrap64 ((wrap64 ((wrap64 ((wrap64 (x1_1 + 1)) + 1)) + 1)) + 1)), (wrap64 (x5_1 + 1)), (sq), (sq), H', ⟨by have := HK1.out; omega⟩, Y5⟩
        ·rw [if_neg c8] at H
         have c8b0 : (((rd_T50 l0 x5_1).f3) == (wrap64 ((wrap64 ((wrap64 (x1_1 + 1)) + 1)) + 1))) = false := beq_eq_false_iff_ne.mpr c8
         have c8b1 : (((rd_T50 l0 x5_1).f3) != (wrap64 ((wrap64 ((wrap64 (x1_1 + 1)) + 1)) + 1))) = true := bne_iff_ne.mpr c8
         obtain rfl := Option.some.inj H
         have p314 : 0 ≤ (x5_1 : Int) := of_decide_eq_true (uq)
         have q314 : x5_1 < (l0.length : Int) := of_decide_eq_true (uq)
         obtain ⟨ad314, e314, hx314_0, hx314_1, hx314_2, hx314_3⟩ := at_T50 HR0.out x5_1 p314 q314
         cases e314
         replace p314 := eq_true p314
         replace q314 := eq_true q314
         have p315 : 0 ≤ (x5_1 : Int) := of_decide_eq_true (uq)
         have q315 : x5_1 < (l0.length : Int) := of_decide_eq_true (uq)
         obtain ⟨ad315, e315, hx315_0, hx315_1, hx315_2, hx315_3⟩ := at_T50 HR0.out x5_1 p315 q315
         obtain rfl : ad314 = ad315 := (by injection e315)
         replace p315 := eq_true p315
         replace q315 := eq_true q315
         have p316 : 0 ≤ (x5_1 : Int) := of_decide_eq_true (uq)
         have q316 : x5_1 < (l0.length : Int) := of_decide_eq_true (uq)
         obtain ⟨ad316, e316, hx316_0, hx316_1, hx316_2, hx316_3⟩ := at_T50 HR0.out x5_1 p316 q316
         obtain rfl : ad314 = ad316 := (by injection e316)
         replace p316 := eq_true p316
         replace q316 := eq_true q316
         have p317 : 0 ≤ (x5_1 : Int) := of_decide_eq_true (uq)
         have q317 : x5_1 < (l0.length : Int) := of_decide_eq_true (uq)
         obtain ⟨ad317, e317, hx317_0, hx317_1, hx317_2, hx317_3⟩ := at_T50 HR0.out x5_1 p317 q317
         obtain rfl : ad314 = ad317 := (by injection e317)
         replace p317 := eq_true p317
         replace q317 := eq_true q317
         go_wp2
         go_ret
         exact ⟨sq, Y5⟩
       ·rw [if_neg c7] at H
        have c7b0 : (((rd_T50 l0 x5_1).f2) == (wrap64 ((wrap64 (x1_1 + 1)) + 1))) = false := beq_eq_false_iff_ne.mpr c7
        have c7b1 : (((rd_T50 l0 x5_1).f2) != (wrap64 ((wrap64 (x1_1 + 1)) + 1))) = true := bne_iff_ne.mpr c7
        obtain rfl := Option.some.inj H
        have p314 : 0 ≤ (x5_1 : Int) := of_decide_eq_true (uq)
        have q314 : x5_1 < (l0.length : Int) := of_decide_eq_true (uq)
        obtain ⟨ad314, e314, hx314_0, hx314_1, hx314_2, hx314_3⟩ := at_T50 HR0.out x5_1 p314 q314
        cases e314
        replace p314 := eq_true p314
        replace q314 := eq_true q314
        have p315 : 0 ≤ (x5_1 : Int) := of_decide_eq_true (uq)
        have q315 : x5_1 < (l0.length : Int) := of_decide_eq_true (uq)
        obtain ⟨ad315, e315, hx315_0, hx315_1, hx315_2, hx315_3⟩ := at_T50 HR0.out x5_1 p315 q315
        obtain rfl : ad314 = ad315 := (by injection e315)
        replace p315 := eq_true p315
        replace q315 := eq_true q315
        have p316 : 0 ≤ (x5_1 : Int) := of_decide_eq_true (uq)
        have q316 : x5_1 < (l0.length : Int) := of_decide_eq_true (uq)
        obtain ⟨ad316, e316, hx316_0, hx316_1, hx316_2, hx316_3⟩ := at_T50 HR0.out x5_1 p316 q316
        obtain rfl : ad314 = ad316 := (by injection e316)
        replace p316 := eq_true p316
        replace q316 := eq_true q316
        go_wp2
        go_ret
        exact ⟨sq, Y5⟩
      ·rw [if_neg c6] at H
       have c6b0 : (((rd_T50 l0 x5_1).f1) == (wrap64 (x1_1 + 1))) = false := beq_eq_false_iff_ne.mpr c6
       have c6b1 : (((rd_T50 l0 x5_1).f1) != (wrap64 (x1_1 + 1))) = true := bne_iff_ne.mpr c6
       obtain rfl := Option.some.inj H
       have p314 : 0 ≤ (x5_1 : Int) := of_decide_eq_true (uq)
       have q314 : x5_1 < (l0.length : Int) := of_decide_eq_true (uq)
       obtain ⟨ad314, e314, hx314_0, hx314_1, hx314_2, hx314_3⟩ := at_T50 HR0.out x5_1 p314 q314
       cases e314
       replace p314 := eq_true p314
       replace q314 := eq_true q314
       have p315 : 0 ≤ (x5_1 : Int) := of_decide_eq_true (uq)
       have q315 : x5_1 < (l0.length : Int) := of_decide_eq_true (uq)
       obtain ⟨ad315, e315, hx315_0, hx315_1, hx315_2, hx315_3⟩ := at_T50 HR0.out x5_1 p315 q315
       obtain rfl : ad314 = ad315 := (by injection e315)
       replace p315 := eq_true p315
       replace q315 := eq_true q315
       go_wp2
       go_ret
       exact ⟨sq, Y5⟩
     ·rw [if_neg c5] at H
      have c5b0 : (((rd_T50 l0 x5_1).f0) == x1_1) = false := beq_eq_false_iff_ne.mpr c5
      have c5b1 : (((rd_T50 l0 x5_1).f0) != x1_1) = true := bne_iff_ne.mpr c5
      obtain rfl := Option.some.inj H
      have p314 : 0 ≤ (x5_1 : Int) := of_decide_eq_true (uq)
      have q314 : x5_1 < (l0.length : Int) := of_decide_eq_true (uq)
      obtain ⟨ad314, e314, hx314_0, hx314_1, hx314_2, hx314_3⟩ := at_T50 HR0.out x5_1 p314 q314
      cases e314
      replace p314 := eq_true p314
      replace q314 := eq_true q314
      go_wp2
      go_ret
      exact ⟨sq, Y5⟩
    ·rw [if_neg c4] at H
     exact absurd H (by simp)
   ·rw [if_neg c3] at H
    have c3b0 : decide (x5_1 < (l0.length : Int)) = false := decide_eq_false c3
    clear c3
    obtain rfl := Option.some.inj H
    go_wp2
    go_ret
    exact ⟨sq, Y5⟩
def spec_indent.l0 : Nat → List (S50) → Int → Option ((List (S50)))
 | 0, _, _ => none
 | k + 1, x3, x4 => if x4 < (x3.length : Int) then (if 0 ≤ x4 then (spec_indent.l0 k (x3.set (x4 : Int).toNat (⟨wrap64 (((rd_T50 x3 x4).f0) + 1), (rd_T50 x3 x4).f1, (rd_T50 x3 x4).f2, (rd_T50 x3 x4).f3⟩ : S50)) (wrap64 (x4 + 1))) else (none)) else (some x3)
def spec_indent.f (k : Nat) (l0 : List (S50)) : Option ((List (S50))) := (some (([] : List (S50)) : List (S50))).bind fun y387 => (if y387.length + l0.length < 4398046511104 then (spec_indent.l0 k (y387 ++ l0) 0) else (none))
set_option maxHeartbeats 8000000 in
set_option maxRecDepth 100000 in
theorem spec_indent.calls (k : Nat) (A0 : Option Addr) (c0 : Nat) (l0 : List (S50)) (r : List (S50)) (w : World) (hr0 : Kd.C k50 w A0 l0.length l0) (hc0 : l0.length ≤ c0) (h : spec_indent.f k l0 = some r) :
  Calls Try.prog 47 #[.slice A0 l0.length c0] w fun e w' => ∃ v0_ : Value, e = .returned (v0_) ∧ Kd.R k50 50 w' w.heap.size (fun _ => True) v0_ r ∧ Below w.heap.size w w' := by
 have HR0 := am hr0
 have HC0 := am hc0
 clear hr0 hc0
 have HB := am (Below.refl w.heap.size w)
 have H : ((some (([] : List (S50)) : List (S50))).bind fun y387 => (if y387.length + l0.length < 4398046511104 then (spec_indent.l0 k (y387 ++ l0) 0) else (none))) = some r := h
 clear h
 obtain ⟨y387, hy387⟩ : ∃ y_ : List (S50), y_ = (([] : List (S50))) := ⟨_, rfl⟩
 replace H : (if y387.length + l0.length < 4398046511104 then (spec_indent.l0 k (y387 ++ l0) 0) else (none)) = some r := by first | (rw [hy387]; with_reducible exact H) | (have H2_ := (Option.bind_some _ _).symm.trans H; rw [hy387]; with_reducible exact H2_) | (have H2_ := (Option.bind_some _ _).symm.trans H; with_reducible exact H2_) | with_reducible exact H | (rw [hy387]; exact H) | exact H
 have Ny387 := am hy387
 clear hy387
 by_cases c2 : y387.length + l0.length < 4398046511104
 ·rw [if_pos c2] at H
  have LMc2 := am c2
  clear c2
  obtain ⟨y390, hy390⟩ : ∃ y_ : List (S50), y_ = (y387 ++ l0) := ⟨_, rfl⟩
  replace H : (spec_indent.l0 k y390 0) = some r := by first | (rw [hy390]; with_reducible exact H) | (have H2_ := (Option.bind_some _ _).symm.trans H; rw [hy390]; with_reducible exact H2_) | (have H2_ := (Option.bind_some _ _).symm.trans H; with_reducible exact H2_) | with_reducible exact H | (rw [hy390]; exact H) | exact H
  have Ny390 := am hy390
  clear hy390
  have H' := am H
  clear H
  go_enter Try.func47, Try.ntmps47
  go_wp2_with (first | ((with_reducible refine gate_dst (N := 5) rfl ?_); refine Kd.R_lit k50 _ 50 ?hg (N := 5) ?hd (xs := ([] : List (S50))) (inner := []) (ok := fun _ => True) (okp := fun _ => True) ?hr ?hp (fun _ hk => hk) trivial (Below.refl _ _) (Nat.le_refl _) (by simp) ?_; (case hd => rfl); (case hg => rfl); (case hr => exact Y4); (case hp => exact (Reps.none _ _)); intro v388 w3 ho4 hb hg_ hnew_; clear hg_ hnew_; (first | rw [← Ny387.out] at ho4 | (simp only [Int.reduceToNat] at ho4; rw [← Ny387.out] at ho4)); have HO389 := am (Kd.R_lower ho4 (below_size (bq))); replace HB := am (below_step (bq) hb); clear hb ho4) | ((with_reducible refine gate_builtin (b := .append) (xs := #[.tmp 5, .tmp 6]) rfl ?_); at_builtin; refine Kd.R_append_rows k50 (w0 := w) w.heap.size rfl (.tmp 5) (.tmp 6) 28 50 (.agg #[(.int .i64 0), (.int .i64 0), (.int .i64 0), (.int .i64 0)]) 32 rfl Try.underlying28 info50 rfl (by decide) (by omega) v388 y387 l0 _ _ _ (fun _ => True) (fun _ => False) rfl rfl ?aO ?aR (fun _ _ h => h) (fun _ h => h.elim) ?aF ?aB ?aS ?aL ?_; (case aR => repeat (first | exact (Kd.C_below HR0.out HB.out) | (with_reducible refine Kd.C_alloc ?_ _) | (with_reducible refine Kd.C_drewN ?_ _) | (with_reducible refine Kd.C_drew ?_))); (case aB => exact (bq)); (case aF => exact (fun _ _ => trivial)); (case aO => exact (rq HO389.out)); (case aS => exact (below_size (bq))); (case aL => have := LMc2.out; omega); intro v391 w5 ho hb hg hat; rw [← Ny390.out] at ho; have n0_ := am (hb); have n1_ := am (ho); clear HB HO389; have HB := n0_; have HO392 := n1_; clear n0_ n1_ ho hb hg hat))
  go_loopg [4] k (fun kq v4 w' => ∃ (x3_1 : List (S50)) (x4_1 : Int), v4 = .int .i64 x4_1 ∧ Aside0 (spec_indent.l0 kq x3_1 x4_1 = some r) ∧ Aside0 (kq ≤ k) ∧ Aside0 (Kd.R k50 50 w' w.heap.size (fun _ => True) v391 x3_1) ∧ Aside0 (Below w.heap.size w w'))
  case atStart => exact ⟨(y390), (0), (sq), H', ⟨Nat.le_refl _⟩, ⟨rq HO392.out⟩, ⟨bq⟩⟩
  case round =>
   clear H'
   try clear c2
   try clear p2
   try clear c4
   obtain ⟨x3_1, x4_1, rfl, HA, HK1, HO_3, HB⟩ := hrel
   cases gk with
   | zero => exact absurd HA.out (by simp [spec_indent.l0])
   | succ k1 =>
    have H := HA.out
    clear HA
    simp only [spec_indent.l0] at H
    by_cases c6 : x4_1 < (x3_1.length : Int)
    ·rw [if_pos c6] at H
     have c6b0 : decide (x4_1 < (x3_1.length : Int)) = true := decide_eq_true c6
     clear c6
     by_cases c7 : 0 ≤ x4_1
     ·rw [if_pos c7] at H
      have c7b0 : decide (0 ≤ x4_1) = true := decide_eq_true c7
      clear c7
      obtain ⟨y394, hy394⟩ : ∃ y_ : List (S50), y_ = (x3_1.set (x4_1 : Int).toNat (⟨wrap64 (((rd_T50 x3_1 x4_1).f0) + 1), (rd_T50 x3_1 x4_1).f1, (rd_T50 x3_1 x4_1).f2, (rd_T50 x3_1 x4_1).f3⟩ : S50)) := ⟨_, rfl⟩
      replace H : (spec_indent.l0 k1 y394 (wrap64 (x4_1 + 1))) = some r := by first | (rw [hy394]; with_reducible exact H) | (have H2_ := (Option.bind_some _ _).symm.trans H; rw [hy394]; with_reducible exact H2_) | (have H2_ := (Option.bind_some _ _).symm.trans H; with_reducible exact H2_) | with_reducible exact H | (rw [hy394]; exact H) | exact H
      have Ny394 := am hy394
      clear hy394
      have H' := am H
      clear H
      obtain ⟨Ao9, co9, eo9⟩ := Kd.R_slice HO_3.out
      subst eo9
      have p393 : 0 ≤ (x4_1 : Int) := of_decide_eq_true (uq)
      have q393 : x4_1 < (x3_1.length : Int) := of_decide_eq_true (uq)
      obtain ⟨ad393, e393, hx393_0, hx393_1, hx393_2, hx393_3⟩ := at_T50 (Kd.R_reads' HO_3.out).2.2 x4_1 p393 q393
      cases e393
      replace p393 := eq_true p393
      replace q393 := eq_true q393
      have p8 : 0 ≤ (x4_1 : Int) := of_decide_eq_true (uq)
      have q8 : (x4_1 : Int) < ((x3_1.length : Int) : Int) := of_decide_eq_true (uq)
      obtain ⟨go8, co8, eo8, gb8, gl8, cl8, HG8⟩ := Kd.R_form HO_3.out (by omega)
      (first | cases eo8 | (injection eo8 with ea_ en_ ec_; (first | subst ea_ | (injection ea_ with ea_; subst ea_)); subst ec_; clear en_))
      have GB8 := am gb8
      have GG8 := am HG8
      clear gb8 gl8 HG8
      (first | simp only [add_plain] at hx393_0 | skip)
      (first | simp only [add_plain] at hx393_1 | skip)
      (first | simp only [add_plain] at hx393_2 | skip)
      (first | simp only [add_plain] at hx393_3 | skip)
      obtain ⟨ce8, hcl8, hM8, hcc8, hfr8⟩ := Kd.R_elem HO_3.out z50 (x4_1 : Int) p8 q8
      obtain rfl := k50_openM hM8
      have hx8_0 : wr.cell? ⟨go8, (x4_1 : Int).toNat * 4, none⟩ = some (.int .i64 ((rd_T50 x3_1 x4_1).f0)) := hcc8 0 _ rfl
      have hx8_1 : wr.cell? ⟨go8, (x4_1 : Int).toNat * 4 + 1, none⟩ = some (.int .i64 ((rd_T50 x3_1 x4_1).f1)) := hcc8 1 _ rfl
      have hx8_2 : wr.cell? ⟨go8, (x4_1 : Int).toNat * 4 + 2, none⟩ = some (.int .i64 ((rd_T50 x3_1 x4_1).f2)) := hcc8 2 _ rfl
      have hx8_3 : wr.cell? ⟨go8, (x4_1 : Int).toNat * 4 + 3, none⟩ = some (.int .i64 ((rd_T50 x3_1 x4_1).f3)) := hcc8 3 _ rfl
      have hf8_0 : wr.frozen? ⟨go8, (x4_1 : Int).toNat * 4, none⟩ = false := hfr8 0
      have hf8_1 : wr.frozen? ⟨go8, (x4_1 : Int).toNat * 4 + 1, none⟩ = false := hfr8 1
      have hf8_2 : wr.frozen? ⟨go8, (x4_1 : Int).toNat * 4 + 2, none⟩ = false := hfr8 2
      have hf8_3 : wr.frozen? ⟨go8, (x4_1 : Int).toNat * 4 + 3, none⟩ = false := hfr8 3
      clear hcl8 hcc8 hfr8 hM8
      replace p8 := eq_true p8
      replace q8 := eq_true q8
      have HX10 := am (show Kd.R k50 50 wr w.heap.size (fun _ => True) (.slice (some ⟨go8, 0, none⟩) x3_1.length co9) x3_1 from (rq HO_3.out))
      obtain ⟨ce10, hcl10, hM10, hcc10, hfr10⟩ := Kd.R_elem HX10.out z50 (x4_1 : Int) (of_decide_eq_true (uq)) (by have h_ : (x4_1 : Int) < ((x3_1.length : Int) : Int) := of_decide_eq_true (uq); first | exact h_ | (have e_ := (Kd.R_reads' HO_3.out).1; omega) | simpa using h_)
      obtain rfl := k50_openM hM10
      have HP10 := Kd.R_seg HX10.out (x4_1 : Int) (of_decide_eq_true (uq)) (by have h_ : (x4_1 : Int) < ((x3_1.length : Int) : Int) := of_decide_eq_true (uq); first | exact h_ | (have e_ := (Kd.R_reads' HO_3.out).1; omega) | simpa using h_) (seg := [.int .i64 (wrap64 (((rd_T50 x3_1 x4_1).f0) + 1))]) (j := 0) hcl10 hcc10 (show 1 ≤ 4 from by decide) (x' := (⟨wrap64 (((rd_T50 x3_1 x4_1).f0) + 1), (rd_T50 x3_1 x4_1).f1, (rd_T50 x3_1 x4_1).f2, (rd_T50 x3_1 x4_1).f3⟩ : S50)) (k50_mkM _ _ _ (⟨wrap64 (((rd_T50 x3_1 x4_1).f0) + 1), (rd_T50 x3_1 x4_1).f1, (rd_T50 x3_1 x4_1).f2, (rd_T50 x3_1 x4_1).f3⟩ : S50) ) (fun _ hk => hk)
      have hx10_0 := hcc10 0 _ rfl
      (try simp only [show (k50).sz = 4 from rfl, Nat.mul_one, Nat.add_zero] at hx10_0)
      have hf10_0 := hfr10 0
      (try simp only [show (k50).sz = 4 from rfl, Nat.mul_one, Nat.add_zero] at hf10_0)
      clear hcl10 hcc10 hfr10 hM10
      go_wp2_with (first | ((with_reducible refine gate_store (t := 3) (p := 23) rfl ?_); refine store_event (t := 3) (p := 23) (v := ?vo_w11) (w1 := (wr.setCell ⟨go8, (x4_1 : Int).toNat * 4, none⟩ (.int .i64 (wrap64 (((rd_T50 x3_1 x4_1).f0) + 1))))) ?hg ?ho ?hn ?hr ?_; (case ho => rfl); (case hg => rfl); (case hn => rfl); (case hr => exact Y4); intro w11 hw; have hg : wr.grownBy w11 (some go8) := (by rw [hw]; exact HP10.2); have hp_ : Kd.R k50 50 w11 w.heap.size (fun _ => True) (.slice (some ⟨go8, 0, none⟩) x3_1.length co9) y394 := (by rw [hw, Ny394.out]; exact HP10.1); clear HP10; replace HO_3 := am (hp_); replace HB := am ((by rw [hw]; exact below_set (HB.out) GB8.out : Below w.heap.size w w11)); clear hg hw hp_))
      go_roundg k1
      case measure => have := HK1.out; omega
      case rel => exact ⟨(y394), (wrap64 (x4_1 + 1)), (sq), H', ⟨by have := HK1.out; omega⟩, ⟨rq HO_3.out⟩, ⟨bq⟩⟩
     ·rw [if_neg c7] at H
      exact absurd H (by simp)
    ·rw [if_neg c6] at H
     have c6b0 : decide (x4_1 < (x3_1.length : Int)) = false := decide_eq_false c6
     clear c6
     obtain rfl := Option.some.inj H
     obtain ⟨Ao12, co12, eo12⟩ := Kd.R_slice HO_3.out
     subst eo12
     go_wp2
     go_ret
     exact ⟨_, Y1, rq HO_3.out, bq⟩
 ·rw [if_neg c2] at H
  exact absurd H (by simp)
def spec_under.f (k : Nat) (a0_0 : Int) (a0_1 : Int) (a0_2 : Int) (a0_3 : Int) (l1 : List (S50)) : Option ((List (S50))) := if (l1.length : Int) = 0 then ((some (([(⟨a0_0, a0_1, a0_2, a0_3⟩ : S50)] : List (S50)) : List (S50))).bind fun y399 => ((spec_indent.f k (([(⟨0, 0, 0, 0⟩ : S50)] : List (S50)))).bind fun t402 => (if y399.length + t402.length < 4398046511104 then (some (y399 ++ t402)) else (none)))) else ((some (([(⟨a0_0, a0_1, a0_2, a0_3⟩ : S50)] : List (S50)) : List (S50))).bind fun y408 => ((spec_indent.f k l1).bind fun t411 => (if y408.length + t411.length < 4398046511104 then (some (y408 ++ t411)) else (none))))
set_option maxHeartbeats 8000000 in
set_option maxRecDepth 100000 in
theorem spec_under.calls (k : Nat) (a0_0 : Int) (a0_1 : Int) (a0_2 : Int) (a0_3 : Int) (A1 : Option Addr) (c1 : Nat) (l1 : List (S50)) (r : List (S50)) (w : World) (hr1 : Kd.C k50 w A1 l1.length l1) (hc1 : l1.length ≤ c1) (h : spec_under.f k a0_0 a0_1 a0_2 a0_3 l1 = some r) :
  Calls Try.prog 36 #[.agg #[.int .i64 a0_0, .int .i64 a0_1, .int .i64 a0_2, .int .i64 a0_3], .slice A1 l1.length c1] w fun e w' => ∃ v0_ : Value, e = .returned (v0_) ∧ Kd.R k50 50 w' w.heap.size (fun _ => True) v0_ r ∧ Below w.heap.size w w' := by
 have hu50 := Try.underlying50
 have HR1 := am hr1
 have HC1 := am hc1
 clear hr1 hc1
 have HB := am (Below.refl w.heap.size w)
 have H : (if (l1.length : Int) = 0 then ((some (([(⟨a0_0, a0_1, a0_2, a0_3⟩ : S50)] : List (S50)) : List (S50))).bind fun y399 => ((spec_indent.f k (([(⟨0, 0, 0, 0⟩ : S50)] : List (S50)))).bind fun t402 => (if y399.length + t402.length < 4398046511104 then (some (y399 ++ t402)) else (none)))) else ((some (([(⟨a0_0, a0_1, a0_2, a0_3⟩ : S50)] : List (S50)) : List (S50))).bind fun y408 => ((spec_indent.f k l1).bind fun t411 => (if y408.length + t411.length < 4398046511104 then (some (y408 ++ t411)) else (none))))) = some r := h
 clear h
 by_cases c3 : (l1.length : Int) = 0
 ·rw [if_pos c3] at H
  have c3b0 : ((l1.length : Int) == 0) = true := beq_iff_eq.mpr c3
  have c3b1 : ((l1.length : Int) != 0) = false := bne_eq_false_iff_eq.mpr c3
  clear c3
  obtain ⟨y396, hy396⟩ : ∃ y_ : List (S50), y_ = (([(⟨0, 0, 0, 0⟩ : S50)] : List (S50))) := ⟨_, rfl⟩
  replace H : ((some (([(⟨a0_0, a0_1, a0_2, a0_3⟩ : S50)] : List (S50)) : List (S50))).bind fun y399 => ((spec_indent.f k y396).bind fun t402 => (if y399.length + t402.length < 4398046511104 then (some (y399 ++ t402)) else (none)))) = some r := by first | (rw [hy396]; with_reducible exact H) | (have H2_ := (Option.bind_some _ _).symm.trans H; rw [hy396]; with_reducible exact H2_) | (have H2_ := (Option.bind_some _ _).symm.trans H; with_reducible exact H2_) | with_reducible exact H | (rw [hy396]; exact H) | exact H
  have Ny396 := am hy396
  clear hy396
  obtain ⟨y399, hy399⟩ : ∃ y_ : List (S50), y_ = (([(⟨a0_0, a0_1, a0_2, a0_3⟩ : S50)] : List (S50))) := ⟨_, rfl⟩
  replace H : ((spec_indent.f k y396).bind fun t402 => (if y399.length + t402.length < 4398046511104 then (some (y399 ++ t402)) else (none))) = some r := by first | (rw [hy399]; with_reducible exact H) | (have H2_ := (Option.bind_some _ _).symm.trans H; rw [hy399]; with_reducible exact H2_) | (have H2_ := (Option.bind_some _ _).symm.trans H; with_reducible exact H2_) | with_reducible exact H | (rw [hy399]; exact H) | exact H
  have Ny399 := am hy399
  clear hy399
  replace H := Option.bind_eq_some_iff.mp H
  obtain ⟨t402, A40, H⟩ := H
  replace H : (if y399.length + t402.length < 4398046511104 then (some (y399 ++ t402)) else (none)) = some r := H
  have A4 := am A40
  clear A40
  by_cases c5 : y399.length + t402.length < 4398046511104
  ·rw [if_pos c5] at H
   have LMc5 := am c5
   clear c5
   obtain ⟨y405, hy405⟩ : ∃ y_ : List (S50), y_ = (y399 ++ t402) := ⟨_, rfl⟩
   replace H : (some y405) = some r := by first | (rw [hy405]; with_reducible exact H) | (have H2_ := (Option.bind_some _ _).symm.trans H; rw [hy405]; with_reducible exact H2_) | (have H2_ := (Option.bind_some _ _).symm.trans H; with_reducible exact H2_) | with_reducible exact H | (rw [hy405]; exact H) | exact H
   have Ny405 := am hy405
   clear hy405
   obtain rfl := Option.some.inj H
   go_enter Try.func36, Try.ntmps36
   try go_wp2_with (first | ((with_reducible refine gate_dst (N := 2) rfl ?_); refine bE (N := 2) (cs := #[.int .i64 a0_0, .int .i64 a0_1, .int .i64 a0_2, .int .i64 a0_3]) (t := 50) ?_; intro gb395 hg w6 hbox hb; have BK395 := am (hbox); have GW395 := am ((Y0 : w.heap.size ≤ gb395)); have GE395 := am ((Y0 : w.heap.size ≤ gb395)); replace HB := am (below_step (bq) hb); clear hb hbox hg) | ((with_reducible refine gate_dst (N := 9) rfl ?_); refine Kd.R_lit k50 _ 50 ?hg (N := 9) ?hd (xs := ([(⟨0, 0, 0, 0⟩ : S50)] : List (S50))) (inner := [.int .i64 0, .int .i64 0, .int .i64 0, .int .i64 0]) (ok := fun _ => True) (okp := fun _ => True) ?hr ?hp (fun _ hk => hk) trivial (Below.refl _ _) (Nat.le_refl _) (by simp) ?_; (case hd => rfl); (case hg => rfl); (case hr => exact Y4); (case hp => exact (Reps.c4 (show Kd.M k50 _ _ _ (⟨0, 0, 0, 0⟩ : S50) [.int .i64 0, .int .i64 0, .int .i64 0, .int .i64 0] from (k50_mkM _ _ _ (⟨0, 0, 0, 0⟩ : S50) )) (Reps.none _ _))); intro v397 w7 ho8 hb hg_ hnew_; clear hg_ hnew_; (first | rw [← Ny396.out] at ho8 | (simp only [Int.reduceToNat] at ho8; rw [← Ny396.out] at ho8)); have HO398 := am (Kd.R_lower (Kd.R_newB ho8 (g := gb395) (o := .cells #[.int .i64 a0_0, .int .i64 a0_1, .int .i64 a0_2, .int .i64 a0_3] 50 (0, 0)) (kq BK395.out)) (below_size (Y11))); replace BK395 := am (blk_below (g := gb395) (o := .cells #[.int .i64 a0_0, .int .i64 a0_1, .int .i64 a0_2, .int .i64 a0_3] 50 (0, 0)) (kq BK395.out) hb); replace HB := am (below_step (Y11) hb); clear hb ho8; obtain ⟨Ao9, co9, eo9⟩ := Kd.R_slice HO398.out; subst eo9))
   replace HO398 := am (Kd.R_drew HO398.out)
   replace BK395 := am (blk_drew BK395.out)
   replace HB := am (below_drew1 HB.out)
   refine start_ (n := 6) (S := fun w' => w'.cell? ⟨gb395, 0, none⟩ = some (.int .i64 a0_0) ∧ w'.cell? ⟨gb395, 1, none⟩ = some (.int .i64 a0_1) ∧ w'.cell? ⟨gb395, 2, none⟩ = some (.int .i64 a0_2) ∧ w'.cell? ⟨gb395, 3, none⟩ = some (.int .i64 a0_3)) (ds := []) #[false, false, false, false, false, false] (by kernel_rfl) rfl rfl ⟨(blk_cell BK395.out 0).trans rfl, (blk_cell BK395.out 1).trans rfl, (blk_cell BK395.out 2).trans rfl, (blk_cell BK395.out 3).trans rfl⟩ (fun hHeld => ?_)
   generalize w7.drew = w10 at HO398 BK395 HB hHeld ⊢
   refine pure_ (i := 2) (N := some 12) (v := ?_) (a' := ?_) #[false, false, true, false, false, false] rfl rfl (by kernel_rfl) (fun _ _ _ h => h) (Or.inl ⟨by rfl, ?_⟩) ?_ ?_
   rotate_left
   ·exact sb
   rotate_left
   ·exact sa
   refine take_ (i := 0) (N := some 10) (v := ?_) (a' := ?_) #[true, false, true, false, false, false] rfl rfl (by kernel_rfl) (fun _ _ _ h => h) (Or.inl ⟨by rfl, ?_⟩) hHeld ?_ ?_
   rotate_left
   ·rintro w' ⟨s0, s1, s2, s3⟩
    go_simp
    with_reducible rfl
   rotate_left
   ·exact sa
   refine join_ (σ := Value × Value) 2 #[true, true, true, true, false, false] (fun s_ => [(11, s_.1), (13, s_.2)]) (fun s_ w' => (w'.cell? ⟨gb395, 0, none⟩ = some (.int .i64 a0_0) ∧ w'.cell? ⟨gb395, 1, none⟩ = some (.int .i64 a0_1) ∧ w'.cell? ⟨gb395, 2, none⟩ = some (.int .i64 a0_2) ∧ w'.cell? ⟨gb395, 3, none⟩ = some (.int .i64 a0_3)) ∧ (Kd.R k50 50 w' w.heap.size (fun k_ => some k_ ≠ (s_.1 : Value).ownBlock ∧ some k_ ≠ (s_.2 : Value).ownBlock ∧ k_ ≠ gb395) (.slice Ao9 y396.length co9) y396) ∧ (Kd.R k50 50 w' w.heap.size (fun k_ => some k_ ≠ (.slice Ao9 y396.length co9 : Value).ownBlock ∧ some k_ ≠ (s_.2 : Value).ownBlock ∧ k_ ≠ gb395) s_.1 y399) ∧ (Kd.R k50 50 w' w.heap.size (fun k_ => some k_ ≠ (.slice Ao9 y396.length co9 : Value).ownBlock ∧ some k_ ≠ (s_.1 : Value).ownBlock ∧ k_ ≠ gb395) s_.2 t402) ∧ (w'.heap[gb395]? = some (.cells #[.int .i64 a0_0, .int .i64 a0_1, .int .i64 a0_2, .int .i64 a0_3] 50 (0, 0))) ∧ (Below w.heap.size w w')) ?_ ?_
   rotate_left
   ·intro hCont
    refine two_ (i := 1) (j := 3) (Ni := some 11) (Nj := some 13) #[true, true, true, false, false, false] #[true, false, true, true, false, false] rfl rfl rfl rfl (by kernel_rfl) (by decide) (by decide) (fun K hK => ?_) (fun K hK => ?_)
    ·skip
     refine Kd.R_lit_step k50 _ 50 ?hg (N := 11) ?hd (xs := ([(⟨a0_0, a0_1, a0_2, a0_3⟩ : S50)] : List (S50))) (inner := [.int .i64 a0_0, .int .i64 a0_1, .int .i64 a0_2, .int .i64 a0_3]) (ok := fun _ => True) (okp := fun _ => True) ?hr ?hp (fun _ hk => hk) trivial (Below.refl _ _) (Nat.le_refl _) (by simp) ?_; (case hd => rfl); (case hg => rfl); (case hr => exact Y4); (case hp => exact (Reps.c4 (show Kd.M k50 _ _ _ (⟨a0_0, a0_1, a0_2, a0_3⟩ : S50) [.int .i64 a0_0, .int .i64 a0_1, .int .i64 a0_2, .int .i64 a0_3] from (k50_mkM _ _ _ (⟨a0_0, a0_1, a0_2, a0_3⟩ : S50) )) (Reps.none _ _)))
     intro v400 w11 ho12 hb hg_ hnew_
     clear hg_ hnew_
     (first | rw [← Ny399.out] at ho12 | (simp only [Int.reduceToNat] at ho12; rw [← Ny399.out] at ho12))
     have HO401 := am (Kd.R_lower (Kd.R_newB (Kd.R_new' ho12 (Kd.R_lt (rq HO398.out))) (g := gb395) (o := .cells #[.int .i64 a0_0, .int .i64 a0_1, .int .i64 a0_2, .int .i64 a0_3] 50 (0, 0)) (kq BK395.out)) (below_size (Y11)))
     replace HO398 := am (Kd.R_elder' (rq HO398.out) (Kd.R_base ho12) hb)
     replace BK395 := am (blk_below (g := gb395) (o := .cells #[.int .i64 a0_0, .int .i64 a0_1, .int .i64 a0_2, .int .i64 a0_3] 50 (0, 0)) (kq BK395.out) hb)
     replace HB := am (below_step (Y11) hb)
     clear hb ho12
     refine hK.out _ _ ⟨(blk_cell BK395.out 0).trans rfl, (blk_cell BK395.out 1).trans rfl, (blk_cell BK395.out 2).trans rfl, (blk_cell BK395.out 3).trans rfl⟩ (fun hHeld => ?_)
     clear hK K
     refine norm_ (a' := ?_) ?_ ?_
     rotate_left
     ·show Act.put _ (some 11) _ = _
      simp only [Act.put, List.setIfInBounds_toArray, List.set_cons_zero, List.set_cons_succ, i64_w, i32_w]
      rfl
     refine one_ (i := 3) (N := some 13) #[true, true, true, true, false, false] rfl rfl (by kernel_rfl) (by decide) (fun K hK => ?_)
     refine goes_ Try.func47 (by kernel_rfl) rfl #[.slice Ao9 y396.length co9] (by rfl) rfl rfl (aq) ?_
     with_reducible refine (spec_indent.calls k _ _ y396 t402 _ ?side1 ?side2 A4.out).mono ?_
     (case side1 => exact cq (Kd.R_reads' HO398.out).2.2)
     (case side2 => exact (Kd.R_reads' HO398.out).2.1)
     rintro e w13 ⟨v403, rfl, ho0, hb⟩
     refine ⟨_, rfl, ?_⟩
     have HO404 := am (Kd.R_lower (Kd.R_newB (Kd.R_new' (Kd.R_new' ho0 (Kd.R_lt (rq HO398.out))) (Kd.R_lt (rq HO401.out))) (g := gb395) (o := .cells #[.int .i64 a0_0, .int .i64 a0_1, .int .i64 a0_2, .int .i64 a0_3] 50 (0, 0)) (kq BK395.out)) (below_size (Y11)))
     replace HO398 := am (Kd.R_elder' (rq HO398.out) (Kd.R_base ho0) hb)
     replace HO401 := am (Kd.R_elder' (rq HO401.out) (Kd.R_base ho0) hb)
     replace BK395 := am (blk_below (g := gb395) (o := .cells #[.int .i64 a0_0, .int .i64 a0_1, .int .i64 a0_2, .int .i64 a0_3] 50 (0, 0)) (kq BK395.out) hb)
     replace HB := am (below_step (Y11) hb)
     (try clear hb)
     (try clear hb2)
     (try clear hk)
     (try clear hi)
     (try clear ho0)
     refine hK.out _ _ ⟨(blk_cell BK395.out 0).trans rfl, (blk_cell BK395.out 1).trans rfl, (blk_cell BK395.out 2).trans rfl, (blk_cell BK395.out 3).trans rfl⟩ (fun hHeld => ?_)
     clear hK K
     refine norm_ (a' := ?_) ?_ ?_
     rotate_left
     ·show Act.put _ (some 13) _ = _
      simp only [Act.put, List.setIfInBounds_toArray, List.set_cons_zero, List.set_cons_succ, i64_w, i32_w]
      rfl
     exact norm_ (by simp only [putAll, Act.put, List.setIfInBounds_toArray, List.set_cons_zero, List.set_cons_succ]) (hCont (v400, v403) _ ⟨hHeld, (by (with_reducible repeat (first | apply Kd.R_alloc | apply Kd.R_drewN | apply Kd.R_drew)); exact Kd.R_mono HO398.out (fun _ hk => ⟨hk.1.2, ⟨hk.2, hk.1.1.2⟩⟩)), (by (with_reducible repeat (first | apply Kd.R_alloc | apply Kd.R_drewN | apply Kd.R_drew)); exact Kd.R_mono HO401.out (fun _ hk => ⟨hk.1.1.2, ⟨hk.2, hk.1.2⟩⟩)), (by (with_reducible repeat (first | apply Kd.R_alloc | apply Kd.R_drewN | apply Kd.R_drew)); exact Kd.R_mono HO404.out (fun _ hk => ⟨hk.1.1.2, ⟨hk.1.2, hk.2⟩⟩)), (kq BK395.out), (Y11)⟩)
    ·skip
     refine goes_ Try.func47 (by kernel_rfl) rfl #[.slice Ao9 y396.length co9] (by rfl) rfl rfl (aq) ?_
     with_reducible refine (spec_indent.calls k _ _ y396 t402 _ ?side1 ?side2 A4.out).mono ?_
     (case side1 => exact cq (Kd.R_reads' HO398.out).2.2)
     (case side2 => exact (Kd.R_reads' HO398.out).2.1)
     rintro e w11 ⟨v403, rfl, ho0, hb⟩
     refine ⟨_, rfl, ?_⟩
     have HO404 := am (Kd.R_lower (Kd.R_newB (Kd.R_new' ho0 (Kd.R_lt (rq HO398.out))) (g := gb395) (o := .cells #[.int .i64 a0_0, .int .i64 a0_1, .int .i64 a0_2, .int .i64 a0_3] 50 (0, 0)) (kq BK395.out)) (below_size (Y11)))
     replace HO398 := am (Kd.R_elder' (rq HO398.out) (Kd.R_base ho0) hb)
     replace BK395 := am (blk_below (g := gb395) (o := .cells #[.int .i64 a0_0, .int .i64 a0_1, .int .i64 a0_2, .int .i64 a0_3] 50 (0, 0)) (kq BK395.out) hb)
     replace HB := am (below_step (Y11) hb)
     (try clear hb)
     (try clear hb2)
     (try clear hk)
     (try clear hi)
     (try clear ho0)
     refine hK.out _ _ ⟨(blk_cell BK395.out 0).trans rfl, (blk_cell BK395.out 1).trans rfl, (blk_cell BK395.out 2).trans rfl, (blk_cell BK395.out 3).trans rfl⟩ (fun hHeld => ?_)
     clear hK K
     refine norm_ (a' := ?_) ?_ ?_
     rotate_left
     ·show Act.put _ (some 13) _ = _
      simp only [Act.put, List.setIfInBounds_toArray, List.set_cons_zero, List.set_cons_succ, i64_w, i32_w]
      rfl
     refine one_ (i := 1) (N := some 11) #[true, true, true, true, false, false] rfl rfl (by kernel_rfl) (by decide) (fun K hK => ?_)
     refine Kd.R_lit_step k50 _ 50 ?hg (N := 11) ?hd (xs := ([(⟨a0_0, a0_1, a0_2, a0_3⟩ : S50)] : List (S50))) (inner := [.int .i64 a0_0, .int .i64 a0_1, .int .i64 a0_2, .int .i64 a0_3]) (ok := fun _ => True) (okp := fun _ => True) ?hr ?hp (fun _ hk => hk) trivial (Below.refl _ _) (Nat.le_refl _) (by simp) ?_; (case hd => rfl); (case hg => rfl); (case hr => exact Y4); (case hp => exact (Reps.c4 (show Kd.M k50 _ _ _ (⟨a0_0, a0_1, a0_2, a0_3⟩ : S50) [.int .i64 a0_0, .int .i64 a0_1, .int .i64 a0_2, .int .i64 a0_3] from (k50_mkM _ _ _ (⟨a0_0, a0_1, a0_2, a0_3⟩ : S50) )) (Reps.none _ _)))
     intro v400 w12 ho13 hb hg_ hnew_
     clear hg_ hnew_
     (first | rw [← Ny399.out] at ho13 | (simp only [Int.reduceToNat] at ho13; rw [← Ny399.out] at ho13))
     have HO401 := am (Kd.R_lower (Kd.R_newB (Kd.R_new' (Kd.R_new' ho13 (Kd.R_lt (rq HO398.out))) (Kd.R_lt (rq HO404.out))) (g := gb395) (o := .cells #[.int .i64 a0_0, .int .i64 a0_1, .int .i64 a0_2, .int .i64 a0_3] 50 (0, 0)) (kq BK395.out)) (below_size (Y11)))
     replace HO398 := am (Kd.R_elder' (rq HO398.out) (Kd.R_base ho13) hb)
     replace HO404 := am (Kd.R_elder' (rq HO404.out) (Kd.R_base ho13) hb)
     replace BK395 := am (blk_below (g := gb395) (o := .cells #[.int .i64 a0_0, .int .i64 a0_1, .int .i64 a0_2, .int .i64 a0_3] 50 (0, 0)) (kq BK395.out) hb)
     replace HB := am (below_step (Y11) hb)
     clear hb ho13
     refine hK.out _ _ ⟨(blk_cell BK395.out 0).trans rfl, (blk_cell BK395.out 1).trans rfl, (blk_cell BK395.out 2).trans rfl, (blk_cell BK395.out 3).trans rfl⟩ (fun hHeld => ?_)
     clear hK K
     refine norm_ (a' := ?_) ?_ ?_
     rotate_left
     ·show Act.put _ (some 11) _ = _
      simp only [Act.put, List.setIfInBounds_toArray, List.set_cons_zero, List.set_cons_succ, i64_w, i32_w]
      rfl
     exact norm_ (by simp only [putAll, Act.put, List.setIfInBounds_toArray, List.set_cons_zero, List.set_cons_succ]) (hCont (v400, v403) _ ⟨hHeld, (by (with_reducible repeat (first | apply Kd.R_alloc | apply Kd.R_drewN | apply Kd.R_drew)); exact Kd.R_mono HO398.out (fun _ hk => ⟨hk.2, ⟨hk.1.2, hk.1.1.2⟩⟩)), (by (with_reducible repeat (first | apply Kd.R_alloc | apply Kd.R_drewN | apply Kd.R_drew)); exact Kd.R_mono HO401.out (fun _ hk => ⟨hk.1.1.2, ⟨hk.1.2, hk.2⟩⟩)), (by (with_reducible repeat (first | apply Kd.R_alloc | apply Kd.R_drewN | apply Kd.R_drew)); exact Kd.R_mono HO404.out (fun _ hk => ⟨hk.1.1.2, ⟨hk.2, hk.1.2⟩⟩)), (kq BK395.out), (Y11)⟩)
   rintro ⟨v400, v403⟩ w14 ⟨hS_, h0_, h1_, h2_, h3_, h4_⟩
   have n0_ : Aside0 (Kd.R k50 50 w14 w.heap.size (fun k_ => some k_ ≠ (v400 : Value).ownBlock ∧ some k_ ≠ (v403 : Value).ownBlock ∧ k_ ≠ gb395) (.slice Ao9 y396.length co9) y396) := ⟨h0_⟩
   have n1_ : Aside0 (Kd.R k50 50 w14 w.heap.size (fun k_ => some k_ ≠ (.slice Ao9 y396.length co9 : Value).ownBlock ∧ some k_ ≠ (v403 : Value).ownBlock ∧ k_ ≠ gb395) v400 y399) := ⟨h1_⟩
   have n2_ : Aside0 (Kd.R k50 50 w14 w.heap.size (fun k_ => some k_ ≠ (.slice Ao9 y396.length co9 : Value).ownBlock ∧ some k_ ≠ (v400 : Value).ownBlock ∧ k_ ≠ gb395) v403 t402) := ⟨h2_⟩
   have n3_ : Aside0 (w14.heap[gb395]? = some (.cells #[.int .i64 a0_0, .int .i64 a0_1, .int .i64 a0_2, .int .i64 a0_3] 50 (0, 0))) := ⟨h3_⟩
   have n4_ : Aside0 (Below w.heap.size w w14) := ⟨h4_⟩
   clear HO398
   clear BK395
   clear HB
   clear h0_ h1_ h2_ h3_ h4_
   have HO398 := n0_
   have HO401 := n1_
   have HO404 := n2_
   have BK395 := n3_
   have HB := n4_
   clear n0_ n1_ n2_ n3_ n4_
   have hHeld : w14.cell? ⟨gb395, 0, none⟩ = some (.int .i64 a0_0) ∧ w14.cell? ⟨gb395, 1, none⟩ = some (.int .i64 a0_1) ∧ w14.cell? ⟨gb395, 2, none⟩ = some (.int .i64 a0_2) ∧ w14.cell? ⟨gb395, 3, none⟩ = some (.int .i64 a0_3) := hS_
   obtain ⟨Ao16, co16, eo16⟩ := Kd.R_slice HO404.out
   (first | subst eo16 | (injection eo16 with f1_ f2_ f3_; have f4_ := f1_.symm; have f5_ := f3_.symm; clear f1_ f2_ f3_; subst f4_; subst f5_))
   refine norm_ (a' := ?_) ?_ ?_
   rotate_left
   ·simp only [putAll, Act.put, List.setIfInBounds_toArray, List.set_cons_zero, List.set_cons_succ]
    rfl
   refine one_ (i := 4) (N := some 14) #[true, true, true, true, true, false] rfl rfl (by kernel_rfl) (by decide) (fun K hK => ?_)
   refine Kd.R_append_rows_step k50 (w0 := w) w.heap.size (by rfl) (.tmp 11) (.tmp 13) 28 50 (.agg #[(.int .i64 0), (.int .i64 0), (.int .i64 0), (.int .i64 0)]) 32 rfl Try.underlying28 info50 rfl (by decide) (by omega) v400 y399 t402 _ _ _ (fun k_ => some k_ ≠ (.slice Ao9 y396.length co9 : Value).ownBlock ∧ some k_ ≠ (.slice Ao16 t402.length co16 : Value).ownBlock ∧ k_ ≠ gb395) (fun _ => False) rfl rfl ?aO ?aR (fun _ _ h => h) (fun _ h => h.elim) ?aF ?aB ?aS ?aL ?_
   (case aR => repeat (first | exact (Kd.R_reads' HO404.out).2.2 | (with_reducible refine Kd.C_alloc ?_ _) | (with_reducible refine Kd.C_drewN ?_ _) | (with_reducible refine Kd.C_drew ?_)))
   (case aB => exact (Y11))
   (case aF => exact (fun k_ hk => ⟨Kd.fresh' (Kd.R_lt (rq HO398.out)) k_ hk, Kd.fresh' (Kd.R_lt (rq HO404.out)) k_ hk, Kd.freshB (g := gb395) (o := .cells #[.int .i64 a0_0, .int .i64 a0_1, .int .i64 a0_2, .int .i64 a0_3] 50 (0, 0)) (kq BK395.out) k_ hk⟩))
   (case aO => exact (rq HO401.out))
   (case aS => exact (below_size (Y11)))
   (case aL => have := LMc5.out; omega)
   intro v406 w15 ho hb hg hat
   rw [← Ny405.out] at ho
   have n0_ := am (blk_grown (g := gb395) (o := .cells #[.int .i64 a0_0, .int .i64 a0_1, .int .i64 a0_2, .int .i64 a0_3] 50 (0, 0)) (kq BK395.out) hg (Kd.R_away HO401.out (fun _ hk => hk.2.2)))
   have n1_ := am (Kd.R_after (ok := (fun k_ => some k_ ≠ (.slice Ao16 t402.length co16 : Value).ownBlock ∧ k_ ≠ gb395)) (by (with_reducible repeat (first | apply Kd.R_alloc | apply Kd.R_drewN | apply Kd.R_drew)); exact Kd.R_mono HO398.out (fun _ hk => ⟨⟨hk.2.1, hk.2.2⟩, hk.1⟩)) hg hat)
   have n2_ := am (Kd.R_after (ok := (fun k_ => some k_ ≠ (.slice Ao9 y396.length co9 : Value).ownBlock ∧ k_ ≠ gb395)) (by (with_reducible repeat (first | apply Kd.R_alloc | apply Kd.R_drewN | apply Kd.R_drew)); exact Kd.R_mono HO404.out (fun _ hk => ⟨⟨hk.1, hk.2.2⟩, hk.2.1⟩)) hg hat)
   have n3_ := am (hb)
   have n4_ := am (ho)
   clear BK395
   clear HO398
   clear HO404
   clear HB
   clear HO401
   have BK395 := n0_
   have HO398 := n1_
   have HO404 := n2_
   have HB := n3_
   have HO407 := n4_
   clear n0_ n1_ n2_ n3_ n4_
   clear ho hb hg hat
   refine hK.out _ _ ⟨(blk_cell BK395.out 0).trans rfl, (blk_cell BK395.out 1).trans rfl, (blk_cell BK395.out 2).trans rfl, (blk_cell BK395.out 3).trans rfl⟩ (fun hHeld => ?_)
   clear hK K
   refine norm_ (a' := ?_) ?_ ?_
   rotate_left
   ·show Act.put _ (some 14) _ = _
    simp only [Act.put, List.setIfInBounds_toArray, List.set_cons_zero, List.set_cons_succ, i64_w, i32_w]
    rfl
   refine pure_ (i := 5) (N := some 4) (v := ?_) (a' := ?_) #[true, true, true, true, true, true] rfl rfl (by kernel_rfl) (fun _ _ _ h => h) (Or.inl ⟨by rfl, ?_⟩) ?_ ?_
   rotate_left
   ·exact sb
   rotate_left
   ·exact sa
   refine done_ (by kernel_rfl) ?_
   try go_wp2
   go_ret
   exact ⟨_, Y1, by (with_reducible repeat (first | apply Kd.R_alloc | apply Kd.R_drewN | apply Kd.R_drew)); exact Kd.R_mono HO407.out (fun _ hk => trivial), Y11⟩
  ·rw [if_neg c5] at H
   exact absurd H (by simp)
 ·rw [if_neg c3] at H
  have c3b0 : ((l1.length : Int) == 0) = false := beq_eq_false_iff_ne.mpr c3
  have c3b1 : ((l1.length : Int) != 0) = true := bne_iff_ne.mpr c3
  have c3b2 : ¬ (l1 = []) := fun h_ => c3 (by rw [h_]; rfl)
  obtain ⟨y408, hy408⟩ : ∃ y_ : List (S50), y_ = (([(⟨a0_0, a0_1, a0_2, a0_3⟩ : S50)] : List (S50))) := ⟨_, rfl⟩
  replace H : ((spec_indent.f k l1).bind fun t411 => (if y408.length + t411.length < 4398046511104 then (some (y408 ++ t411)) else (none))) = some r := by first | (rw [hy408]; with_reducible exact H) | (have H2_ := (Option.bind_some _ _).symm.trans H; rw [hy408]; with_reducible exact H2_) | (have H2_ := (Option.bind_some _ _).symm.trans H; with_reducible exact H2_) | with_reducible exact H | (rw [hy408]; exact H) | exact H
  have Ny408 := am hy408
  clear hy408
  replace H := Option.bind_eq_some_iff.mp H
  obtain ⟨t411, A170, H⟩ := H
  replace H : (if y408.length + t411.length < 4398046511104 then (some (y408 ++ t411)) else (none)) = some r := H
  have A17 := am A170
  clear A170
  by_cases c18 : y408.length + t411.length < 4398046511104
  ·rw [if_pos c18] at H
   have LMc18 := am c18
   clear c18
   obtain ⟨y414, hy414⟩ : ∃ y_ : List (S50), y_ = (y408 ++ t411) := ⟨_, rfl⟩
   replace H : (some y414) = some r := by first | (rw [hy414]; with_reducible exact H) | (have H2_ := (Option.bind_some _ _).symm.trans H; rw [hy414]; with_reducible exact H2_) | (have H2_ := (Option.bind_some _ _).symm.trans H; with_reducible exact H2_) | with_reducible exact H | (rw [hy414]; exact H) | exact H
   have Ny414 := am hy414
   clear hy414
   obtain rfl := Option.some.inj H
   go_enter Try.func36, Try.ntmps36
   try go_wp2_with (first | ((with_reducible refine gate_dst (N := 2) rfl ?_); refine bE (N := 2) (cs := #[.int .i64 a0_0, .int .i64 a0_1, .int .i64 a0_2, .int .i64 a0_3]) (t := 50) ?_; intro gb395 hg w19 hbox hb; have BK395 := am (hbox); have GW395 := am ((Y0 : w.heap.size ≤ gb395)); have GE395 := am ((Y0 : w.heap.size ≤ gb395)); replace HB := am (below_step (bq) hb); clear hb hbox hg))
   replace BK395 := am (blk_drew BK395.out)
   replace HB := am (below_drew1 HB.out)
   refine start_ (n := 6) (S := fun w' => w'.cell? ⟨gb395, 0, none⟩ = some (.int .i64 a0_0) ∧ w'.cell? ⟨gb395, 1, none⟩ = some (.int .i64 a0_1) ∧ w'.cell? ⟨gb395, 2, none⟩ = some (.int .i64 a0_2) ∧ w'.cell? ⟨gb395, 3, none⟩ = some (.int .i64 a0_3)) (ds := []) #[false, false, false, false, false, false] (by kernel_rfl) rfl rfl ⟨(blk_cell BK395.out 0).trans rfl, (blk_cell BK395.out 1).trans rfl, (blk_cell BK395.out 2).trans rfl, (blk_cell BK395.out 3).trans rfl⟩ (fun hHeld => ?_)
   generalize w19.drew = w20 at BK395 HB hHeld ⊢
   refine pure_ (i := 2) (N := some 12) (v := ?_) (a' := ?_) #[false, false, true, false, false, false] rfl rfl (by kernel_rfl) (fun _ _ _ h => h) (Or.inl ⟨by rfl, ?_⟩) ?_ ?_
   rotate_left
   ·exact sb
   rotate_left
   ·exact sa
   refine take_ (i := 0) (N := some 10) (v := ?_) (a' := ?_) #[true, false, true, false, false, false] rfl rfl (by kernel_rfl) (fun _ _ _ h => h) (Or.inl ⟨by rfl, ?_⟩) hHeld ?_ ?_
   rotate_left
   ·rintro w' ⟨s0, s1, s2, s3⟩
    go_simp
    with_reducible rfl
   rotate_left
   ·exact sa
   refine join_ (σ := Value × Value) 2 #[true, true, true, true, false, false] (fun s_ => [(11, s_.1), (13, s_.2)]) (fun s_ w' => (w'.cell? ⟨gb395, 0, none⟩ = some (.int .i64 a0_0) ∧ w'.cell? ⟨gb395, 1, none⟩ = some (.int .i64 a0_1) ∧ w'.cell? ⟨gb395, 2, none⟩ = some (.int .i64 a0_2) ∧ w'.cell? ⟨gb395, 3, none⟩ = some (.int .i64 a0_3)) ∧ (Kd.R k50 50 w' w.heap.size (fun k_ => some k_ ≠ (s_.2 : Value).ownBlock ∧ k_ ≠ gb395) s_.1 y408) ∧ (Kd.R k50 50 w' w.heap.size (fun k_ => some k_ ≠ (s_.1 : Value).ownBlock ∧ k_ ≠ gb395) s_.2 t411) ∧ (w'.heap[gb395]? = some (.cells #[.int .i64 a0_0, .int .i64 a0_1, .int .i64 a0_2, .int .i64 a0_3] 50 (0, 0))) ∧ (Below w.heap.size w w')) ?_ ?_
   rotate_left
   ·intro hCont
    refine two_ (i := 1) (j := 3) (Ni := some 11) (Nj := some 13) #[true, true, true, false, false, false] #[true, false, true, true, false, false] rfl rfl rfl rfl (by kernel_rfl) (by decide) (by decide) (fun K hK => ?_) (fun K hK => ?_)
    ·skip
     refine Kd.R_lit_step k50 _ 50 ?hg (N := 11) ?hd (xs := ([(⟨a0_0, a0_1, a0_2, a0_3⟩ : S50)] : List (S50))) (inner := [.int .i64 a0_0, .int .i64 a0_1, .int .i64 a0_2, .int .i64 a0_3]) (ok := fun _ => True) (okp := fun _ => True) ?hr ?hp (fun _ hk => hk) trivial (Below.refl _ _) (Nat.le_refl _) (by simp) ?_; (case hd => rfl); (case hg => rfl); (case hr => exact Y4); (case hp => exact (Reps.c4 (show Kd.M k50 _ _ _ (⟨a0_0, a0_1, a0_2, a0_3⟩ : S50) [.int .i64 a0_0, .int .i64 a0_1, .int .i64 a0_2, .int .i64 a0_3] from (k50_mkM _ _ _ (⟨a0_0, a0_1, a0_2, a0_3⟩ : S50) )) (Reps.none _ _)))
     intro v409 w21 ho22 hb hg_ hnew_
     clear hg_ hnew_
     (first | rw [← Ny408.out] at ho22 | (simp only [Int.reduceToNat] at ho22; rw [← Ny408.out] at ho22))
     have HO410 := am (Kd.R_lower (Kd.R_newB ho22 (g := gb395) (o := .cells #[.int .i64 a0_0, .int .i64 a0_1, .int .i64 a0_2, .int .i64 a0_3] 50 (0, 0)) (kq BK395.out)) (below_size (Y11)))
     replace BK395 := am (blk_below (g := gb395) (o := .cells #[.int .i64 a0_0, .int .i64 a0_1, .int .i64 a0_2, .int .i64 a0_3] 50 (0, 0)) (kq BK395.out) hb)
     replace HB := am (below_step (Y11) hb)
     clear hb ho22
     refine hK.out _ _ ⟨(blk_cell BK395.out 0).trans rfl, (blk_cell BK395.out 1).trans rfl, (blk_cell BK395.out 2).trans rfl, (blk_cell BK395.out 3).trans rfl⟩ (fun hHeld => ?_)
     clear hK K
     refine norm_ (a' := ?_) ?_ ?_
     rotate_left
     ·show Act.put _ (some 11) _ = _
      simp only [Act.put, List.setIfInBounds_toArray, List.set_cons_zero, List.set_cons_succ, i64_w, i32_w]
      rfl
     refine one_ (i := 3) (N := some 13) #[true, true, true, true, false, false] rfl rfl (by kernel_rfl) (by decide) (fun K hK => ?_)
     refine goes_ Try.func47 (by kernel_rfl) rfl #[.slice A1 l1.length c1] (by rfl) rfl rfl (aq) ?_
     with_reducible refine (spec_indent.calls k _ _ l1 t411 _ ?side1 ?side2 A17.out).mono ?_
     (case side1 => exact cq (Kd.C_below HR1.out HB.out))
     (case side2 => exact HC1.out)
     rintro e w23 ⟨v412, rfl, ho0, hb⟩
     refine ⟨_, rfl, ?_⟩
     have HO413 := am (Kd.R_lower (Kd.R_newB (Kd.R_new' ho0 (Kd.R_lt (rq HO410.out))) (g := gb395) (o := .cells #[.int .i64 a0_0, .int .i64 a0_1, .int .i64 a0_2, .int .i64 a0_3] 50 (0, 0)) (kq BK395.out)) (below_size (Y11)))
     replace HO410 := am (Kd.R_elder' (rq HO410.out) (Kd.R_base ho0) hb)
     replace BK395 := am (blk_below (g := gb395) (o := .cells #[.int .i64 a0_0, .int .i64 a0_1, .int .i64 a0_2, .int .i64 a0_3] 50 (0, 0)) (kq BK395.out) hb)
     replace HB := am (below_step (Y11) hb)
     (try clear hb)
     (try clear hb2)
     (try clear hk)
     (try clear hi)
     (try clear ho0)
     refine hK.out _ _ ⟨(blk_cell BK395.out 0).trans rfl, (blk_cell BK395.out 1).trans rfl, (blk_cell BK395.out 2).trans rfl, (blk_cell BK395.out 3).trans rfl⟩ (fun hHeld => ?_)
     clear hK K
     refine norm_ (a' := ?_) ?_ ?_
     rotate_left
     ·show Act.put _ (some 13) _ = _
      simp only [Act.put, List.setIfInBounds_toArray, List.set_cons_zero, List.set_cons_succ, i64_w, i32_w]
      rfl
     exact norm_ (by simp only [putAll, Act.put, List.setIfInBounds_toArray, List.set_cons_zero, List.set_cons_succ]) (hCont (v409, v412) _ ⟨hHeld, (by (with_reducible repeat (first | apply Kd.R_alloc | apply Kd.R_drewN | apply Kd.R_drew)); exact Kd.R_mono HO410.out (fun _ hk => ⟨hk.2, hk.1.2⟩)), (by (with_reducible repeat (first | apply Kd.R_alloc | apply Kd.R_drewN | apply Kd.R_drew)); exact Kd.R_mono HO413.out (fun _ hk => ⟨hk.1.2, hk.2⟩)), (kq BK395.out), (Y11)⟩)
    ·skip
     refine goes_ Try.func47 (by kernel_rfl) rfl #[.slice A1 l1.length c1] (by rfl) rfl rfl (aq) ?_
     with_reducible refine (spec_indent.calls k _ _ l1 t411 _ ?side1 ?side2 A17.out).mono ?_
     (case side1 => exact cq (Kd.C_below HR1.out HB.out))
     (case side2 => exact HC1.out)
     rintro e w21 ⟨v412, rfl, ho0, hb⟩
     refine ⟨_, rfl, ?_⟩
     have HO413 := am (Kd.R_lower (Kd.R_newB ho0 (g := gb395) (o := .cells #[.int .i64 a0_0, .int .i64 a0_1, .int .i64 a0_2, .int .i64 a0_3] 50 (0, 0)) (kq BK395.out)) (below_size (Y11)))
     replace BK395 := am (blk_below (g := gb395) (o := .cells #[.int .i64 a0_0, .int .i64 a0_1, .int .i64 a0_2, .int .i64 a0_3] 50 (0, 0)) (kq BK395.out) hb)
     replace HB := am (below_step (Y11) hb)
     (try clear hb)
     (try clear hb2)
     (try clear hk)
     (try clear hi)
     (try clear ho0)
     refine hK.out _ _ ⟨(blk_cell BK395.out 0).trans rfl, (blk_cell BK395.out 1).trans rfl, (blk_cell BK395.out 2).trans rfl, (blk_cell BK395.out 3).trans rfl⟩ (fun hHeld => ?_)
     clear hK K
     refine norm_ (a' := ?_) ?_ ?_
     rotate_left
     ·show Act.put _ (some 13) _ = _
      simp only [Act.put, List.setIfInBounds_toArray, List.set_cons_zero, List.set_cons_succ, i64_w, i32_w]
      rfl
     refine one_ (i := 1) (N := some 11) #[true, true, true, true, false, false] rfl rfl (by kernel_rfl) (by decide) (fun K hK => ?_)
     refine Kd.R_lit_step k50 _ 50 ?hg (N := 11) ?hd (xs := ([(⟨a0_0, a0_1, a0_2, a0_3⟩ : S50)] : List (S50))) (inner := [.int .i64 a0_0, .int .i64 a0_1, .int .i64 a0_2, .int .i64 a0_3]) (ok := fun _ => True) (okp := fun _ => True) ?hr ?hp (fun _ hk => hk) trivial (Below.refl _ _) (Nat.le_refl _) (by simp) ?_; (case hd => rfl); (case hg => rfl); (case hr => exact Y4); (case hp => exact (Reps.c4 (show Kd.M k50 _ _ _ (⟨a0_0, a0_1, a0_2, a0_3⟩ : S50) [.int .i64 a0_0, .int .i64 a0_1, .int .i64 a0_2, .int .i64 a0_3] from (k50_mkM _ _ _ (⟨a0_0, a0_1, a0_2, a0_3⟩ : S50) )) (Reps.none _ _)))
     intro v409 w22 ho23 hb hg_ hnew_
     clear hg_ hnew_
     (first | rw [← Ny408.out] at ho23 | (simp only [Int.reduceToNat] at ho23; rw [← Ny408.out] at ho23))
     have HO410 := am (Kd.R_lower (Kd.R_newB (Kd.R_new' ho23 (Kd.R_lt (rq HO413.out))) (g := gb395) (o := .cells #[.int .i64 a0_0, .int .i64 a0_1, .int .i64 a0_2, .int .i64 a0_3] 50 (0, 0)) (kq BK395.out)) (below_size (Y11)))
     replace HO413 := am (Kd.R_elder' (rq HO413.out) (Kd.R_base ho23) hb)
     replace BK395 := am (blk_below (g := gb395) (o := .cells #[.int .i64 a0_0, .int .i64 a0_1, .int .i64 a0_2, .int .i64 a0_3] 50 (0, 0)) (kq BK395.out) hb)
     replace HB := am (below_step (Y11) hb)
     clear hb ho23
     refine hK.out _ _ ⟨(blk_cell BK395.out 0).trans rfl, (blk_cell BK395.out 1).trans rfl, (blk_cell BK395.out 2).trans rfl, (blk_cell BK395.out 3).trans rfl⟩ (fun hHeld => ?_)
     clear hK K
     refine norm_ (a' := ?_) ?_ ?_
     rotate_left
     ·show Act.put _ (some 11) _ = _
      simp only [Act.put, List.setIfInBounds_toArray, List.set_cons_zero, List.set_cons_succ, i64_w, i32_w]
      rfl
     exact norm_ (by simp only [putAll, Act.put, List.setIfInBounds_toArray, List.set_cons_zero, List.set_cons_succ]) (hCont (v409, v412) _ ⟨hHeld, (by (with_reducible repeat (first | apply Kd.R_alloc | apply Kd.R_drewN | apply Kd.R_drew)); exact Kd.R_mono HO410.out (fun _ hk => ⟨hk.1.2, hk.2⟩)), (by (with_reducible repeat (first | apply Kd.R_alloc | apply Kd.R_drewN | apply Kd.R_drew)); exact Kd.R_mono HO413.out (fun _ hk => ⟨hk.2, hk.1.2⟩)), (kq BK395.out), (Y11)⟩)
   rintro ⟨v409, v412⟩ w24 ⟨hS_, h0_, h1_, h2_, h3_⟩
   have n0_ : Aside0 (Kd.R k50 50 w24 w.heap.size (fun k_ => some k_ ≠ (v412 : Value).ownBlock ∧ k_ ≠ gb395) v409 y408) := ⟨h0_⟩
   have n1_ : Aside0 (Kd.R k50 50 w24 w.heap.size (fun k_ => some k_ ≠ (v409 : Value).ownBlock ∧ k_ ≠ gb395) v412 t411) := ⟨h1_⟩
   have n2_ : Aside0 (w24.heap[gb395]? = some (.cells #[.int .i64 a0_0, .int .i64 a0_1, .int .i64 a0_2, .int .i64 a0_3] 50 (0, 0))) := ⟨h2_⟩
   have n3_ : Aside0 (Below w.heap.size w w24) := ⟨h3_⟩
   clear BK395
   clear HB
   clear h0_ h1_ h2_ h3_
   have HO410 := n0_
   have HO413 := n1_
   have BK395 := n2_
   have HB := n3_
   clear n0_ n1_ n2_ n3_
   have hHeld : w24.cell? ⟨gb395, 0, none⟩ = some (.int .i64 a0_0) ∧ w24.cell? ⟨gb395, 1, none⟩ = some (.int .i64 a0_1) ∧ w24.cell? ⟨gb395, 2, none⟩ = some (.int .i64 a0_2) ∧ w24.cell? ⟨gb395, 3, none⟩ = some (.int .i64 a0_3) := hS_
   obtain ⟨Ao26, co26, eo26⟩ := Kd.R_slice HO413.out
   (first | subst eo26 | (injection eo26 with f1_ f2_ f3_; have f4_ := f1_.symm; have f5_ := f3_.symm; clear f1_ f2_ f3_; subst f4_; subst f5_))
   refine norm_ (a' := ?_) ?_ ?_
   rotate_left
   ·simp only [putAll, Act.put, List.setIfInBounds_toArray, List.set_cons_zero, List.set_cons_succ]
    rfl
   refine one_ (i := 4) (N := some 14) #[true, true, true, true, true, false] rfl rfl (by kernel_rfl) (by decide) (fun K hK => ?_)
   refine Kd.R_append_rows_step k50 (w0 := w) w.heap.size (by rfl) (.tmp 11) (.tmp 13) 28 50 (.agg #[(.int .i64 0), (.int .i64 0), (.int .i64 0), (.int .i64 0)]) 32 rfl Try.underlying28 info50 rfl (by decide) (by omega) v409 y408 t411 _ _ _ (fun k_ => some k_ ≠ (.slice Ao26 t411.length co26 : Value).ownBlock ∧ k_ ≠ gb395) (fun _ => False) rfl rfl ?aO ?aR (fun _ _ h => h) (fun _ h => h.elim) ?aF ?aB ?aS ?aL ?_
   (case aR => repeat (first | exact (Kd.R_reads' HO413.out).2.2 | (with_reducible refine Kd.C_alloc ?_ _) | (with_reducible refine Kd.C_drewN ?_ _) | (with_reducible refine Kd.C_drew ?_)))
   (case aB => exact (Y11))
   (case aF => exact (fun k_ hk => ⟨Kd.fresh' (Kd.R_lt (rq HO413.out)) k_ hk, Kd.freshB (g := gb395) (o := .cells #[.int .i64 a0_0, .int .i64 a0_1, .int .i64 a0_2, .int .i64 a0_3] 50 (0, 0)) (kq BK395.out) k_ hk⟩))
   (case aO => exact (rq HO410.out))
   (case aS => exact (below_size (Y11)))
   (case aL => have := LMc18.out; omega)
   intro v415 w25 ho hb hg hat
   rw [← Ny414.out] at ho
   have n0_ := am (blk_grown (g := gb395) (o := .cells #[.int .i64 a0_0, .int .i64 a0_1, .int .i64 a0_2, .int .i64 a0_3] 50 (0, 0)) (kq BK395.out) hg (Kd.R_away HO410.out (fun _ hk => hk.2)))
   have n1_ := am (Kd.R_after (ok := (fun k_ => k_ ≠ gb395)) (by (with_reducible repeat (first | apply Kd.R_alloc | apply Kd.R_drewN | apply Kd.R_drew)); exact Kd.R_mono HO413.out (fun _ hk => ⟨hk.2, hk.1⟩)) hg hat)
   have n2_ := am (hb)
   have n3_ := am (ho)
   clear BK395
   clear HO413
   clear HB
   clear HO410
   have BK395 := n0_
   have HO413 := n1_
   have HB := n2_
   have HO416 := n3_
   clear n0_ n1_ n2_ n3_
   clear ho hb hg hat
   refine hK.out _ _ ⟨(blk_cell BK395.out 0).trans rfl, (blk_cell BK395.out 1).trans rfl, (blk_cell BK395.out 2).trans rfl, (blk_cell BK395.out 3).trans rfl⟩ (fun hHeld => ?_)
   clear hK K
   refine norm_ (a' := ?_) ?_ ?_
   rotate_left
   ·show Act.put _ (some 14) _ = _
    simp only [Act.put, List.setIfInBounds_toArray, List.set_cons_zero, List.set_cons_succ, i64_w, i32_w]
    rfl
   refine pure_ (i := 5) (N := some 4) (v := ?_) (a' := ?_) #[true, true, true, true, true, true] rfl rfl (by kernel_rfl) (fun _ _ _ h => h) (Or.inl ⟨by rfl, ?_⟩) ?_ ?_
   rotate_left
   ·exact sb
   rotate_left
   ·exact sa
   refine done_ (by kernel_rfl) ?_
   try go_wp2
   go_ret
   exact ⟨_, Y1, by (with_reducible repeat (first | apply Kd.R_alloc | apply Kd.R_drewN | apply Kd.R_drew)); exact Kd.R_mono HO416.out (fun _ hk => trivial), Y11⟩
  ·rw [if_neg c18] at H
   exact absurd H (by simp)
def impl_inner.l0 : Nat → List (S50) → List (S50) → Int → Int → Option ((List (S50)))
 | 0, _, _, _, _ => none
 | k + 1, x3, x14, x15, x16 => if x16 < x15 then (if 0 ≤ x16 then (if x16 < (x14.length : Int) then (if x3.length < 4398046511104 then (impl_inner.l0 k (x3 ++ [(⟨wrap64 (((rd_T50 x14 x16).f0) + 1), (rd_T50 x14 x16).f1, (rd_T50 x14 x16).f2, (rd_T50 x14 x16).f3⟩ : S50)]) x14 x15 (wrap64 (x16 + 1))) else (none)) else (none)) else (none)) else (some x3)
def impl_inner.f (k : Nat) (l0 : List (S50)) : Option ((List (S50))) := if (l0.length : Int) = 0 then (some (([(⟨1, 0, 0, 0⟩ : S50)] : List (S50)))) else (if 0 ≤ (l0.length : Int) then (if ((l0.length : Int) : Int).toNat ≤ 8796093022208 then (impl_inner.l0 k (([] : List (S50))) l0 (l0.length : Int) 0) else (none)) else (none))
set_option maxHeartbeats 8000000 in
set_option maxRecDepth 100000 in
theorem impl_inner.calls (k : Nat) (A0 : Option Addr) (c0 : Nat) (l0 : List (S50)) (r : List (S50)) (w : World) (hr0 : Kd.C k50 w A0 l0.length l0) (hc0 : l0.length ≤ c0) (h : impl_inner.f k l0 = some r) :
  Calls Try.prog 38 #[.slice A0 l0.length c0] w fun e w' => ∃ v0_ : Value, e = .returned (v0_) ∧ Kd.R k50 50 w' w.heap.size (fun _ => True) v0_ r ∧ Below w.heap.size w w' := by
 have hu50 := Try.underlying50
 have HR0 := am hr0
 have HC0 := am hc0
 clear hr0 hc0
 have HB := am (Below.refl w.heap.size w)
 have H : (if (l0.length : Int) = 0 then (some (([(⟨1, 0, 0, 0⟩ : S50)] : List (S50)))) else (if 0 ≤ (l0.length : Int) then (if ((l0.length : Int) : Int).toNat ≤ 8796093022208 then (impl_inner.l0 k (([] : List (S50))) l0 (l0.length : Int) 0) else (none)) else (none))) = some r := h
 clear h
 by_cases c2 : (l0.length : Int) = 0
 ·rw [if_pos c2] at H
  have c2b0 : ((l0.length : Int) == 0) = true := beq_iff_eq.mpr c2
  have c2b1 : ((l0.length : Int) != 0) = false := bne_eq_false_iff_eq.mpr c2
  clear c2
  obtain ⟨y426, hy426⟩ : ∃ y_ : List (S50), y_ = (([(⟨1, 0, 0, 0⟩ : S50)] : List (S50))) := ⟨_, rfl⟩
  replace H : (some y426) = some r := by first | (rw [hy426]; with_reducible exact H) | (have H2_ := (Option.bind_some _ _).symm.trans H; rw [hy426]; with_reducible exact H2_) | (have H2_ := (Option.bind_some _ _).symm.trans H; with_reducible exact H2_) | with_reducible exact H | (rw [hy426]; exact H) | exact H
  have Ny426 := am hy426
  clear hy426
  obtain rfl := Option.some.inj H
  go_enter Try.func38, Try.ntmps38
  go_wp2_with (first | ((with_reducible refine gate_dst (N := 10) rfl ?_); refine Kd.R_lit k50 _ 50 ?hg (N := 10) ?hd (xs := ([(⟨1, 0, 0, 0⟩ : S50)] : List (S50))) (inner := [.int .i64 1, .int .i64 0, .int .i64 0, .int .i64 0]) (ok := fun _ => True) (okp := fun _ => True) ?hr ?hp (fun _ hk => hk) trivial (Below.refl _ _) (Nat.le_refl _) (by simp) ?_; (case hd => rfl); (case hg => rfl); (case hr => exact Y4); (case hp => exact (Reps.c4 (show Kd.M k50 _ _ _ (⟨1, 0, 0, 0⟩ : S50) [.int .i64 1, .int .i64 0, .int .i64 0, .int .i64 0] from (k50_mkM _ _ _ (⟨1, 0, 0, 0⟩ : S50) )) (Reps.none _ _))); intro v427 w3 ho4 hb hg_ hnew_; clear hg_ hnew_; (first | rw [← Ny426.out] at ho4 | (simp only [Int.reduceToNat] at ho4; rw [← Ny426.out] at ho4)); have HO428 := am (Kd.R_lower ho4 (below_size (bq))); replace HB := am (below_step (bq) hb); clear hb ho4))
  go_ret
  exact ⟨_, Y1, rq HO428.out, bq⟩
 ·rw [if_neg c2] at H
  have c2b0 : ((l0.length : Int) == 0) = false := beq_eq_false_iff_ne.mpr c2
  have c2b1 : ((l0.length : Int) != 0) = true := bne_iff_ne.mpr c2
  have c2b2 : ¬ (l0 = []) := fun h_ => c2 (by rw [h_]; rfl)
  by_cases c5 : 0 ≤ (l0.length : Int)
  ·rw [if_pos c5] at H
   have c5b0 := eq_true c5
   have c5b1 : decide (0 ≤ (l0.length : Int)) = true := decide_eq_true c5
   clear c5
   by_cases c6 : ((l0.length : Int) : Int).toNat ≤ 8796093022208
   ·rw [if_pos c6] at H
    have c6b0 := eq_true c6
    have c6b1 : decide (((l0.length : Int) : Int).toNat ≤ 8796093022208) = true := decide_eq_true c6
    clear c6
    obtain ⟨y429, hy429⟩ : ∃ y_ : List (S50), y_ = (([] : List (S50))) := ⟨_, rfl⟩
    replace H : (impl_inner.l0 k y429 l0 (l0.length : Int) 0) = some r := by first | (rw [hy429]; with_reducible exact H) | (have H2_ := (Option.bind_some _ _).symm.trans H; rw [hy429]; with_reducible exact H2_) | (have H2_ := (Option.bind_some _ _).symm.trans H; with_reducible exact H2_) | with_reducible exact H | (rw [hy429]; exact H) | exact H
    have Ny429 := am hy429
    clear hy429
    have H' := am H
    clear H
    go_enter Try.func38, Try.ntmps38
    go_wp2_with (first | ((with_reducible refine gate_dst (N := 13) rfl ?_); refine Kd.R_mkcap k50 _ 50 rfl (N := 13) rfl 28 _ _ rfl (l0.length : Int) rfl rfl Try.underlying28 (.agg #[(.int .i64 0), (.int .i64 0), (.int .i64 0), (.int .i64 0)]) 32 info50 rfl (by decide) (by omega) (ok := fun _ => True) trivial (of_decide_eq_true (uq)) (Nat.le_trans (Nat.mul_le_mul_right _ (of_decide_eq_true (uq) : (l0.length : Int).toNat ≤ 8796093022208)) (by omega)) (Below.refl _ _) (Nat.le_refl _) ?_; intro v430 w7 ho8 hb hg_ hnew_; clear hg_ hnew_; (first | rw [← Ny429.out] at ho8 | (simp only [Int.reduceToNat] at ho8; rw [← Ny429.out] at ho8)); have HO431 := am (Kd.R_lower ho8 (below_size (bq))); replace HB := am (below_step (bq) hb); clear hb ho8))
    go_loopg [3, 16] k (fun kq v3 v16 w' => ∃ (x3_1 : List (S50)) (x16_1 : Int), v16 = .int .i64 x16_1 ∧ Aside0 (impl_inner.l0 kq x3_1 l0 (l0.length : Int) x16_1 = some r) ∧ Aside0 (kq ≤ k) ∧ Aside0 (Kd.R k50 50 w' w.heap.size (fun _ => True) v3 x3_1) ∧ Aside0 (Below w.heap.size w w'))
    case atStart => exact ⟨(y429), (0), (sq), H', ⟨Nat.le_refl _⟩, ⟨rq HO431.out⟩, ⟨bq⟩⟩
    case round =>
     clear H'
     try clear c2
     try clear c2b0
     try clear c2b1
     try clear c2b2
     try clear p2
     try clear c3
     try clear c4
     try clear c5
     try clear c5b0
     try clear c5b1
     try clear c6
     try clear c6b0
     try clear c6b1
     obtain ⟨x3_1, x16_1, rfl, HA, HK1, HO_3, HB⟩ := hrel
     cases gk with
     | zero => exact absurd HA.out (by simp [impl_inner.l0])
     | succ k1 =>
      have H := HA.out
      clear HA
      simp only [impl_inner.l0] at H
      by_cases c9 : x16_1 < (l0.length : Int)
      ·rw [if_pos c9] at H
       have c9b0 : decide (x16_1 < (l0.length : Int)) = true := decide_eq_true c9
       clear c9
       by_cases c10 : 0 ≤ x16_1
       ·rw [if_pos c10] at H
        have c10b0 : decide (0 ≤ x16_1) = true := decide_eq_true c10
        clear c10
        by_cases c11 : x16_1 < (l0.length : Int)
        ·rw [if_pos c11] at H
         have c11b0 : decide (x16_1 < (l0.length : Int)) = true := decide_eq_true c11
         clear c11
         by_cases c12 : x3_1.length < 4398046511104
         ·rw [if_pos c12] at H
          have LMc12 := am c12
          clear c12
          obtain ⟨y434, hy434⟩ : ∃ y_ : List (S50), y_ = (x3_1 ++ [(⟨wrap64 (((rd_T50 l0 x16_1).f0) + 1), (rd_T50 l0 x16_1).f1, (rd_T50 l0 x16_1).f2, (rd_T50 l0 x16_1).f3⟩ : S50)]) := ⟨_, rfl⟩
          replace H : (impl_inner.l0 k1 y434 l0 (l0.length : Int) (wrap64 (x16_1 + 1))) = some r := by first | (rw [hy434]; with_reducible exact H) | (have H2_ := (Option.bind_some _ _).symm.trans H; rw [hy434]; with_reducible exact H2_) | (have H2_ := (Option.bind_some _ _).symm.trans H; with_reducible exact H2_) | with_reducible exact H | (rw [hy434]; exact H) | exact H
          have Ny434 := am hy434
          clear hy434
          have H' := am H
          clear H
          have p432 : 0 ≤ (x16_1 : Int) := of_decide_eq_true (uq)
          have q432 : x16_1 < (l0.length : Int) := of_decide_eq_true (uq)
          obtain ⟨ad432, e432, hx432_0, hx432_1, hx432_2, hx432_3⟩ := at_T50 HR0.out x16_1 p432 q432
          cases e432
          replace hx432_0 := cb HB.out hx432_0
          replace hx432_1 := cb HB.out hx432_1
          replace hx432_2 := cb HB.out hx432_2
          replace hx432_3 := cb HB.out hx432_3
          replace p432 := eq_true p432
          replace q432 := eq_true q432
          go_wp2_with (first | ((with_reducible refine gate_dst (N := 5) rfl ?_); refine bE (N := 5) (cs := #[.int .i64 0, .int .i64 0, .int .i64 0, .int .i64 0]) (t := 50) ?_; intro gb433 hg w13 hbox hb; have BK433 := am (hbox); have GW433 := am ((Y0 : w.heap.size ≤ gb433)); have GE433 := am ((Y0 : w.heap.size ≤ gb433)); replace HO_3 := am (Kd.R_below (Kd.R_elderB (rq HO_3.out) gb433 (Nat.le_of_eq hg.symm)) hb); replace HB := am (below_step (bq) hb); clear hb hbox hg; have hcz14_0 := bc0 BK433.out; have hcz14_1 := bc1 BK433.out; have hcz14_2 := bc2 BK433.out; have hcz14_3 := bc3 BK433.out; have hfz14_0 := blk_frozen BK433.out 0; have hfz14_1 := blk_frozen BK433.out 1; have hfz14_2 := blk_frozen BK433.out 2; have hfz14_3 := blk_frozen BK433.out 3) | ((with_reducible refine gate_builtin (b := .append) (xs := #[.tmp 24, .tmp 26]) rfl ?_); at_builtin; refine Kd.R_append k50 (w0 := w) w.heap.size rfl (.tmp 24) (.tmp 26) 28 50 (.agg #[(.int .i64 0), (.int .i64 0), (.int .i64 0), (.int .i64 0)]) 32 rfl Try.underlying28 info50 rfl (by decide) (by omega) u3 x3_1 (⟨wrap64 (((rd_T50 l0 x16_1).f0) + 1), (rd_T50 l0 x16_1).f1, (rd_T50 l0 x16_1).f2, (rd_T50 l0 x16_1).f3⟩ : S50) [.int .i64 (wrap64 (((rd_T50 l0 x16_1).f0) + 1)), .int .i64 ((rd_T50 l0 x16_1).f1), .int .i64 ((rd_T50 l0 x16_1).f2), .int .i64 ((rd_T50 l0 x16_1).f3)] (fun k_ => k_ ≠ gb433) (fun _ => False) rfl (Y4) ?aP (fun _ hk => hk.elim) ?aF ?aO ?aB ?aS ?aL ?_; (case aP => exact k50_mkM _ _ _ (⟨wrap64 (((rd_T50 l0 x16_1).f0) + 1), (rd_T50 l0 x16_1).f1, (rd_T50 l0 x16_1).f2, (rd_T50 l0 x16_1).f3⟩ : S50)); (case aB => exact (Y63)); (case aF => exact (fun k_ hk => Kd.freshB (g := gb433) (o := .cells #[.int .i64 (wrap64 (((rd_T50 l0 x16_1).f0) + 1)), .int .i64 ((rd_T50 l0 x16_1).f1), .int .i64 ((rd_T50 l0 x16_1).f2), .int .i64 ((rd_T50 l0 x16_1).f3)] 50 (0, 0)) (Y86) k_ hk)); (case aO => exact (by (with_reducible repeat (first | apply Kd.R_alloc | apply Kd.R_drewN | apply Kd.R_drew)); exact Kd.R_mono (Kd.R_far (p := ⟨gb433, 0, none⟩) (Kd.R_far (p := ⟨gb433, 3, none⟩) (Kd.R_far (p := ⟨gb433, 2, none⟩) (Kd.R_far (p := ⟨gb433, 1, none⟩) (Kd.R_far (p := ⟨gb433, 0, none⟩) (Kd.R_mono HO_3.out (fun k_ hk => (⟨hk, hk.2⟩ : _ ∧ k_ ≠ gb433))) (fun _ hk => hk.2) (.int .i64 ((rd_T50 l0 x16_1).f0))) (fun _ hk => hk.2) (.int .i64 ((rd_T50 l0 x16_1).f1))) (fun _ hk => hk.2) (.int .i64 ((rd_T50 l0 x16_1).f2))) (fun _ hk => hk.2) (.int .i64 ((rd_T50 l0 x16_1).f3))) (fun _ hk => hk.2) (.int .i64 (wrap64 (((rd_T50 l0 x16_1).f0) + 1)))) (fun _ hk => hk.1.2))); (case aS => exact (below_size (Y63))); (case aL => have := LMc12.out; omega); intro v435 w15 ho hb hg hat; rw [← Ny434.out] at ho; have n0_ := am (blk_grown (g := gb433) (o := .cells #[.int .i64 (wrap64 (((rd_T50 l0 x16_1).f0) + 1)), .int .i64 ((rd_T50 l0 x16_1).f1), .int .i64 ((rd_T50 l0 x16_1).f2), .int .i64 ((rd_T50 l0 x16_1).f3)] 50 (0, 0)) (Y86) hg (Kd.R_away HO_3.out (fun _ hk => hk.2))); have n1_ := am (hb); have n2_ := am (ho); clear BK433 HB HO_3; have BK433 := n0_; have HB := n1_; have HO436 := n2_; clear n0_ n1_ n2_ ho hb hg hat))
          go_roundg k1
          case measure => have := HK1.out; omega
          case rel => exact ⟨(y434), (wrap64 (x16_1 + 1)), (sq), H', ⟨by have := HK1.out; omega⟩, ⟨by (with_reducible repeat (first | apply Kd.R_alloc | apply Kd.R_drewN | apply Kd.R_drew)); exact Kd.R_mono HO436.out (fun _ hk => trivial)⟩, ⟨Y63⟩⟩
         ·rw [if_neg c12] at H
          exact absurd H (by simp)
        ·rw [if_neg c11] at H
         exact absurd H (by simp)
       ·rw [if_neg c10] at H
        exact absurd H (by simp)
      ·rw [if_neg c9] at H
       have c9b0 : decide (x16_1 < (l0.length : Int)) = false := decide_eq_false c9
       clear c9
       obtain rfl := Option.some.inj H
       go_wp2
       go_ret
       exact ⟨_, Y1, rq HO_3.out, bq⟩
   ·rw [if_neg c6] at H
    exact absurd H (by simp)
  ·rw [if_neg c5] at H
   exact absurd H (by simp)
end Go.Proofs.Ytgbigghiegiejaa.P
end
