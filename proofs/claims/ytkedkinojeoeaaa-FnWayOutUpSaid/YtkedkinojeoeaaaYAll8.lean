/- One part of the proofs on this program: functions of the program as plain functions, that the code comes to them, and facts on them. -/
import Derived.Test.YtkedkinojeoeaaaYAll1
import Derived.Test.YtkedkinojeoeaaaYAll6
import Derived.Test.YtkedkinojeoeaaaYAll7
import Derived.Test.YtkedkinojeoeaaaYWAuto
section
namespace Go.Proofs.Ytkedkinojeoeaaa.P
open Go.RowKit Go.Proofs.YtkedkinojeoeaaaW.PrintWords Go.Proofs.YtkedkinojeoeaaaW.PrintLast Go.Proofs.YtkedkinojeoeaaaW.PrintMore
attribute [local go_sem] max2_int min2_int max_two min_two max_three min_three max_four min_four isSome_cell_setCell
set_option linter.unusedVariables false
set_option linter.unusedSimpArgs false
def spec_wayOut.l0 : Nat → List (S36) → List Int → List Int → Int → Option (List Int)
 | 0, _, _, _, _ => none
 | k + 1, x0, x1, x5, x6 => if x6 < (x1.length : Int) then (if 0 ≤ x6 then ((spec_lastOf.f k x0 (rd x1 x6)).bind fun t600 => (if t600 ≥ 0 then (if x5.length < 17592186044416 then (spec_wayOut.l0 k x0 x1 (x5 ++ [t600]) (wrap64 (x6 + 1))) else (none)) else (spec_wayOut.l0 k x0 x1 x5 (wrap64 (x6 + 1))))) else (none)) else (some x5)
def spec_wayOut.f (k : Nat) (l0 : List (S36)) (l1 : List Int) : Option (List Int) := spec_wayOut.l0 k l0 l1 (([] : List Int)) 0
set_option maxHeartbeats 8000000 in
set_option maxRecDepth 100000 in
theorem spec_wayOut.calls (k : Nat) (A0 : Option Addr) (c0 : Nat) (l0 : List (S36)) (A1 : Option Addr) (c1 : Nat) (l1 : List Int) (r : List Int) (w : World) (hr0 : Kd.C k36 w A0 l0.length l0) (hc0 : l0.length ≤ c0) (hr1 : Kd.C (Kd.int .i64) w A1 l1.length l1) (hc1 : l1.length ≤ c1) (h : spec_wayOut.f k l0 l1 = some r) :
  Calls Try.prog 34 #[.slice A0 l0.length c0, .slice A1 l1.length c1] w fun e w' => ∃ v0_ : Value, e = .returned (v0_) ∧ Kd.R (Kd.int .i64) 3 w' w.heap.size (fun _ => True) v0_ r ∧ Below w.heap.size w w' := by
 have HR0 := am hr0
 have HC0 := am hc0
 clear hr0 hc0
 have HR1 := am hr1
 have HC1 := am hc1
 clear hr1 hc1
 have HB := am (Below.refl w.heap.size w)
 have H : (spec_wayOut.l0 k l0 l1 (([] : List Int)) 0) = some r := h
 clear h
 obtain ⟨y596, hy596⟩ : ∃ y_ : List Int, y_ = (([] : List Int)) := ⟨_, rfl⟩
 replace H : (spec_wayOut.l0 k l0 l1 y596 0) = some r := by first | (rw [hy596]; with_reducible exact H) | (have H2_ := (Option.bind_some _ _).symm.trans H; rw [hy596]; with_reducible exact H2_) | (have H2_ := (Option.bind_some _ _).symm.trans H; with_reducible exact H2_) | with_reducible exact H | (rw [hy596]; exact H) | exact H
 have Ny596 := am hy596
 clear hy596
 have H' := am H
 clear H
 go_enter Try.func34, Try.ntmps34
 go_wp2_with (first | ((with_reducible refine gate_dst (N := 8) rfl ?_); refine Kd.R_lit (Kd.int .i64) _ 3 ?hg (N := 8) ?hd (xs := ([] : List Int)) (inner := []) (ok := fun _ => True) (okp := fun _ => True) ?hr ?hp (fun _ hk => hk) trivial (Below.refl _ _) (Nat.le_refl _) (by simp) ?_; (case hd => rfl); (case hg => rfl); (case hr => exact Y4); (case hp => exact (Reps.none _ _)); intro v597 w3 ho4 hb hg_ hnew_; clear hg_ hnew_; (first | rw [← Ny596.out] at ho4 | (simp only [Int.reduceToNat] at ho4; rw [← Ny596.out] at ho4)); have HO598 := am (Kd.R_lower ho4 (below_size (bq))); replace HB := am (below_step (bq) hb); clear hb ho4))
 go_loopg [5, 6] k (fun kq v5 v6 w' => ∃ (x5_1 : List Int) (x6_1 : Int), v6 = .int .i64 x6_1 ∧ Aside0 (spec_wayOut.l0 kq l0 l1 x5_1 x6_1 = some r) ∧ Aside0 (kq ≤ k) ∧ Aside0 (Kd.R (Kd.int .i64) 3 w' w.heap.size (fun _ => True) v5 x5_1) ∧ Aside0 (Below w.heap.size w w'))
 case atStart => exact ⟨(y596), (0), (sq), H', ⟨Nat.le_refl _⟩, ⟨rq HO598.out⟩, ⟨bq⟩⟩
 case round =>
  clear H'
  try clear c1
  try clear p2
  try clear c3
  obtain ⟨x5_1, x6_1, rfl, HA, HK1, HO_5, HB⟩ := hrel
  cases gk with
  | zero => exact absurd HA.out (by simp [spec_wayOut.l0])
  | succ k1 =>
   have H := HA.out
   clear HA
   simp only [spec_wayOut.l0] at H
   by_cases c5 : x6_1 < (l1.length : Int)
   ·rw [if_pos c5] at H
    have c5b0 : decide (x6_1 < (l1.length : Int)) = true := decide_eq_true c5
    clear c5
    by_cases c6 : 0 ≤ x6_1
    ·rw [if_pos c6] at H
     have c6b0 : decide (0 ≤ x6_1) = true := decide_eq_true c6
     clear c6
     replace H := Option.bind_eq_some_iff.mp H
     obtain ⟨t600, A70, H⟩ := H
     replace H : (if t600 ≥ 0 then (if x5_1.length < 17592186044416 then (spec_wayOut.l0 k1 l0 l1 (x5_1 ++ [t600]) (wrap64 (x6_1 + 1))) else (none)) else (spec_wayOut.l0 k1 l0 l1 x5_1 (wrap64 (x6_1 + 1)))) = some r := H
     have A7 := am A70
     clear A70
     by_cases c8 : t600 ≥ 0
     ·rw [if_pos c8] at H
      have c8b0 : decide (0 ≤ t600) = true := decide_eq_true c8
      clear c8
      by_cases c9 : x5_1.length < 17592186044416
      ·rw [if_pos c9] at H
       have LMc9 := am c9
       clear c9
       obtain ⟨y601, hy601⟩ : ∃ y_ : List Int, y_ = (x5_1 ++ [t600]) := ⟨_, rfl⟩
       replace H : (spec_wayOut.l0 k1 l0 l1 y601 (wrap64 (x6_1 + 1))) = some r := by first | (rw [hy601]; with_reducible exact H) | (have H2_ := (Option.bind_some _ _).symm.trans H; rw [hy601]; with_reducible exact H2_) | (have H2_ := (Option.bind_some _ _).symm.trans H; with_reducible exact H2_) | with_reducible exact H | (rw [hy601]; exact H) | exact H
       have Ny601 := am hy601
       clear hy601
       have H' := am H
       clear H
       have p599 : 0 ≤ (x6_1 : Int) := of_decide_eq_true (uq)
       have q599 : x6_1 < (l1.length : Int) := of_decide_eq_true (uq)
       obtain ⟨ad599, e599, hx599_0⟩ := Kd.at_int HR1.out x6_1 p599 q599
       cases e599
       replace hx599_0 := cb HB.out hx599_0
       replace p599 := eq_true p599
       replace q599 := eq_true q599
       go_wp2_with (first | ((with_reducible refine gate_callee (f := 62) rfl ?_); refine gL (some 20) Try.func62 #[.slice A0 l0.length c0, .int .i64 (rd l1 x6_1)] ?_; (with_reducible refine (spec_lastOf.calls k1 _ _ l0 (rd l1 x6_1) t600 _ ?side1 ?side2 A7.out).mono ?_); (case side1 => exact cq (Kd.C_below HR0.out HB.out)); (case side2 => exact HC0.out); rintro e w10 ⟨rfl, hb⟩; refine ⟨_, rfl, ?_⟩; replace HO_5 := am (Kd.R_below (rq HO_5.out) hb); replace HB := am (below_step (bq) hb); (try clear hb); (try clear hb2); (try clear hk); (try clear hi)) | ((with_reducible refine gate_builtin (b := .append) (xs := #[.tmp 23, .tmp 25]) rfl ?_); at_builtin; refine Kd.R_append (Kd.int .i64) (w0 := w) w.heap.size rfl (.tmp 23) (.tmp 25) 29 3 (.int .i64 0) 8 rfl Try.underlying29 info3 rfl (by decide) (by omega) u5 x5_1 t600 [.int .i64 t600] (fun _ => True) (fun _ => False) rfl rfl ?aP (fun _ hk => hk.elim) ?aF ?aO ?aB ?aS ?aL ?_; (case aP => exact rfl); (case aB => exact (bq)); (case aF => exact (fun _ _ => trivial)); (case aO => exact (rq HO_5.out)); (case aS => exact (below_size (bq))); (case aL => have := LMc9.out; omega); intro v602 w11 ho hb hg hat; rw [← Ny601.out] at ho; have n0_ := am (hb); have n1_ := am (ho); clear HB HO_5; have HB := n0_; have HO603 := n1_; clear n0_ n1_ ho hb hg hat))
       go_roundg k1
       case measure => have := HK1.out; omega
       case rel => exact ⟨(y601), (wrap64 (x6_1 + 1)), (sq), H', ⟨by have := HK1.out; omega⟩, ⟨rq HO603.out⟩, ⟨bq⟩⟩
      ·rw [if_neg c9] at H
       exact absurd H (by simp)
     ·rw [if_neg c8] at H
      have c8b0 : decide (0 ≤ t600) = false := decide_eq_false c8
      clear c8
      have H' := am H
      clear H
      have p599 : 0 ≤ (x6_1 : Int) := of_decide_eq_true (uq)
      have q599 : x6_1 < (l1.length : Int) := of_decide_eq_true (uq)
      obtain ⟨ad599, e599, hx599_0⟩ := Kd.at_int HR1.out x6_1 p599 q599
      cases e599
      replace hx599_0 := cb HB.out hx599_0
      replace p599 := eq_true p599
      replace q599 := eq_true q599
      go_wp2_with (first | ((with_reducible refine gate_callee (f := 62) rfl ?_); refine gL (some 20) Try.func62 #[.slice A0 l0.length c0, .int .i64 (rd l1 x6_1)] ?_; (with_reducible refine (spec_lastOf.calls k1 _ _ l0 (rd l1 x6_1) t600 _ ?side1 ?side2 A7.out).mono ?_); (case side1 => exact cq (Kd.C_below HR0.out HB.out)); (case side2 => exact HC0.out); rintro e w12 ⟨rfl, hb⟩; refine ⟨_, rfl, ?_⟩; replace HO_5 := am (Kd.R_below (rq HO_5.out) hb); replace HB := am (below_step (bq) hb); (try clear hb); (try clear hb2); (try clear hk); (try clear hi)))
      go_roundg k1
      case measure => have := HK1.out; omega
      case rel => exact ⟨(x5_1), (wrap64 (x6_1 + 1)), (sq), H', ⟨by have := HK1.out; omega⟩, ⟨rq HO_5.out⟩, ⟨bq⟩⟩
    ·rw [if_neg c6] at H
     exact absurd H (by simp)
   ·rw [if_neg c5] at H
    have c5b0 : decide (x6_1 < (l1.length : Int)) = false := decide_eq_false c5
    clear c5
    obtain rfl := Option.some.inj H
    go_wp2
    go_ret
    exact ⟨_, Y0, rq HO_5.out, bq⟩
def spec_enclosing.l0 : Nat → List (S36) → List Int → Int → Int → Option (List Int)
 | 0, _, _, _, _ => none
 | k + 1, x0, x5, x6, x7 => if x7 ≥ 0 then (if 0 ≤ x7 then (if x7 < (x0.length : Int) then (if ((rd_T36 x0 x7).f0) < x6 then (if x5.length < 17592186044416 then (spec_enclosing.l0 k x0 (x5 ++ [x7]) ((rd_T36 x0 x7).f0) (wrap64 (x7 - 1))) else (none)) else (spec_enclosing.l0 k x0 x5 x6 (wrap64 (x7 - 1)))) else (none)) else (none)) else (some x5)
def spec_enclosing.f (k : Nat) (l0 : List (S36)) (a1 : Int) : Option (List Int) := if 0 ≤ a1 then (if a1 < (l0.length : Int) then (spec_enclosing.l0 k l0 (([] : List Int)) ((rd_T36 l0 a1).f0) (wrap64 (a1 - 1))) else (none)) else (none)
set_option maxHeartbeats 8000000 in
set_option maxRecDepth 100000 in
theorem spec_enclosing.calls (k : Nat) (A0 : Option Addr) (c0 : Nat) (l0 : List (S36)) (a1 : Int) (r : List Int) (w : World) (hr0 : Kd.C k36 w A0 l0.length l0) (hc0 : l0.length ≤ c0) (h : spec_enclosing.f k l0 a1 = some r) :
  Calls Try.prog 35 #[.slice A0 l0.length c0, .int .i64 a1] w fun e w' => ∃ v0_ : Value, e = .returned (v0_) ∧ Kd.R (Kd.int .i64) 3 w' w.heap.size (fun _ => True) v0_ r ∧ Below w.heap.size w w' := by
 have HR0 := am hr0
 have HC0 := am hc0
 clear hr0 hc0
 have HB := am (Below.refl w.heap.size w)
 have H : (if 0 ≤ a1 then (if a1 < (l0.length : Int) then (spec_enclosing.l0 k l0 (([] : List Int)) ((rd_T36 l0 a1).f0) (wrap64 (a1 - 1))) else (none)) else (none)) = some r := h
 clear h
 obtain ⟨y604, hy604⟩ : ∃ y_ : List Int, y_ = (([] : List Int)) := ⟨_, rfl⟩
 replace H : (if 0 ≤ a1 then (if a1 < (l0.length : Int) then (spec_enclosing.l0 k l0 y604 ((rd_T36 l0 a1).f0) (wrap64 (a1 - 1))) else (none)) else (none)) = some r := by first | (rw [hy604]; with_reducible exact H) | (have H2_ := (Option.bind_some _ _).symm.trans H; rw [hy604]; with_reducible exact H2_) | (have H2_ := (Option.bind_some _ _).symm.trans H; with_reducible exact H2_) | with_reducible exact H | (rw [hy604]; exact H) | exact H
 have Ny604 := am hy604
 clear hy604
 by_cases c3 : 0 ≤ a1
 ·rw [if_pos c3] at H
  have c3b0 : decide (0 ≤ a1) = true := decide_eq_true c3
  clear c3
  by_cases c4 : a1 < (l0.length : Int)
  ·rw [if_pos c4] at H
   have c4b0 : decide (a1 < (l0.length : Int)) = true := decide_eq_true c4
   clear c4
   have H' := am H
   clear H
   go_enter Try.func35, Try.ntmps35
   go_wp2_with (first | ((with_reducible refine gate_dst (N := 8) rfl ?_); refine Kd.R_lit (Kd.int .i64) _ 3 ?hg (N := 8) ?hd (xs := ([] : List Int)) (inner := []) (ok := fun _ => True) (okp := fun _ => True) ?hr ?hp (fun _ hk => hk) trivial (Below.refl _ _) (Nat.le_refl _) (by simp) ?_; (case hd => rfl); (case hg => rfl); (case hr => exact Y4); (case hp => exact (Reps.none _ _)); intro v605 w5 ho6 hb hg_ hnew_; clear hg_ hnew_; (first | rw [← Ny604.out] at ho6 | (simp only [Int.reduceToNat] at ho6; rw [← Ny604.out] at ho6)); have HO606 := am (Kd.R_lower ho6 (below_size (bq))); replace HB := am (below_step (bq) hb); clear hb ho6; have p607 : 0 ≤ (a1 : Int) := of_decide_eq_true (uq); have q607 : a1 < (l0.length : Int) := of_decide_eq_true (uq); obtain ⟨ad607, e607, hx607_0, hx607_1, hx607_2, hx607_3⟩ := at_T36 HR0.out a1 p607 q607; cases e607; replace hx607_0 := cb HB.out hx607_0; replace hx607_1 := cb HB.out hx607_1; replace hx607_2 := cb HB.out hx607_2; replace hx607_3 := cb HB.out hx607_3; replace p607 := eq_true p607; replace q607 := eq_true q607))
   go_loopg [5, 6, 7] k (fun kq v5 v6 v7 w' => ∃ (x5_1 : List Int) (x6_1 : Int) (x7_1 : Int), v6 = .int .i64 x6_1 ∧ v7 = .int .i64 x7_1 ∧ Aside0 (spec_enclosing.l0 kq l0 x5_1 x6_1 x7_1 = some r) ∧ Aside0 (kq ≤ k) ∧ Aside0 (Kd.R (Kd.int .i64) 3 w' w.heap.size (fun _ => True) v5 x5_1) ∧ Aside0 (Below w.heap.size w w'))
   case atStart => exact ⟨(y604), ((rd_T36 l0 a1).f0), (wrap64 (a1 - 1)), (sq), (sq), H', ⟨Nat.le_refl _⟩, ⟨rq HO606.out⟩, ⟨bq⟩⟩
   case round =>
    clear H'
    try clear p2
    try clear c3
    try clear c3b0
    try clear c4
    try clear c4b0
    try clear p6
    try clear q6
    try clear hx6
    try clear hx607_0
    try clear hx607_1
    try clear hx607_2
    try clear hx607_3
    try clear p607
    try clear q607
    obtain ⟨x5_1, x6_1, x7_1, rfl, rfl, HA, HK1, HO_5, HB⟩ := hrel
    cases gk with
    | zero => exact absurd HA.out (by simp [spec_enclosing.l0])
    | succ k1 =>
     have H := HA.out
     clear HA
     simp only [spec_enclosing.l0] at H
     by_cases c7 : x7_1 ≥ 0
     ·rw [if_pos c7] at H
      have c7b0 : decide (0 ≤ x7_1) = true := decide_eq_true c7
      clear c7
      by_cases c8 : 0 ≤ x7_1
      ·rw [if_pos c8] at H
       have c8b0 : decide (0 ≤ x7_1) = true := decide_eq_true c8
       clear c8
       by_cases c9 : x7_1 < (l0.length : Int)
       ·rw [if_pos c9] at H
        have c9b0 : decide (x7_1 < (l0.length : Int)) = true := decide_eq_true c9
        clear c9
        by_cases c10 : ((rd_T36 l0 x7_1).f0) < x6_1
        ·rw [if_pos c10] at H
         have c10b0 : decide (((rd_T36 l0 x7_1).f0) < x6_1) = true := decide_eq_true c10
         clear c10
         by_cases c11 : x5_1.length < 17592186044416
         ·rw [if_pos c11] at H
          have LMc11 := am c11
          clear c11
          obtain ⟨y610, hy610⟩ : ∃ y_ : List Int, y_ = (x5_1 ++ [x7_1]) := ⟨_, rfl⟩
          replace H : (spec_enclosing.l0 k1 l0 y610 ((rd_T36 l0 x7_1).f0) (wrap64 (x7_1 - 1))) = some r := by first | (rw [hy610]; with_reducible exact H) | (have H2_ := (Option.bind_some _ _).symm.trans H; rw [hy610]; with_reducible exact H2_) | (have H2_ := (Option.bind_some _ _).symm.trans H; with_reducible exact H2_) | with_reducible exact H | (rw [hy610]; exact H) | exact H
          have Ny610 := am hy610
          clear hy610
          have H' := am H
          clear H
          have p608 : 0 ≤ (x7_1 : Int) := of_decide_eq_true (uq)
          have q608 : x7_1 < (l0.length : Int) := of_decide_eq_true (uq)
          obtain ⟨ad608, e608, hx608_0, hx608_1, hx608_2, hx608_3⟩ := at_T36 HR0.out x7_1 p608 q608
          obtain rfl : ad607 = ad608 := (by injection e608)
          replace hx608_0 := cb HB.out hx608_0
          replace hx608_1 := cb HB.out hx608_1
          replace hx608_2 := cb HB.out hx608_2
          replace hx608_3 := cb HB.out hx608_3
          replace p608 := eq_true p608
          replace q608 := eq_true q608
          have p609 : 0 ≤ (x7_1 : Int) := of_decide_eq_true (uq)
          have q609 : x7_1 < (l0.length : Int) := of_decide_eq_true (uq)
          obtain ⟨ad609, e609, hx609_0, hx609_1, hx609_2, hx609_3⟩ := at_T36 HR0.out x7_1 p609 q609
          obtain rfl : ad607 = ad609 := (by injection e609)
          replace hx609_0 := cb HB.out hx609_0
          replace hx609_1 := cb HB.out hx609_1
          replace hx609_2 := cb HB.out hx609_2
          replace hx609_3 := cb HB.out hx609_3
          replace p609 := eq_true p609
          replace q609 := eq_true q609
          go_wp2_with (first | ((with_reducible refine gate_builtin (b := .append) (xs := #[.tmp 32, .tmp 34]) rfl ?_); at_builtin; refine Kd.R_append (Kd.int .i64) (w0 := w) w.heap.size rfl (.tmp 32) (.tmp 34) 29 3 (.int .i64 0) 8 rfl Try.underlying29 info3 rfl (by decide) (by omega) u5 x5_1 x7_1 [.int .i64 x7_1] (fun _ => True) (fun _ => False) rfl rfl ?aP (fun _ hk => hk.elim) ?aF ?aO ?aB ?aS ?aL ?_; (case aP => exact rfl); (case aB => exact (bq)); (case aF => exact (fun _ _ => trivial)); (case aO => exact (rq HO_5.out)); (case aS => exact (below_size (bq))); (case aL => have := LMc11.out; omega); intro v611 w12 ho hb hg hat; rw [← Ny610.out] at ho; have n0_ := am (hb); have n1_ := am (ho); clear HB HO_5; have HB := n0_; have HO612 := n1_; clear n0_ n1_ ho hb hg hat))
          go_roundg k1
          case measure => have := HK1.out; omega
          case rel => exact ⟨(y610), ((rd_T36 l0 x7_1).f0), (wrap64 (x7_1 - 1)), (sq), (sq), H', ⟨by have := HK1.out; omega⟩, ⟨rq HO612.out⟩, ⟨bq⟩⟩
         ·rw [if_neg c11] at H
          exact absurd H (by simp)
        ·rw [if_neg c10] at H
         have c10b0 : decide (((rd_T36 l0 x7_1).f0) < x6_1) = false := decide_eq_false c10
         clear c10
         have H' := am H
         clear H
         have p608 : 0 ≤ (x7_1 : Int) := of_decide_eq_true (uq)
         have q608 : x7_1 < (l0.length : Int) := of_decide_eq_true (uq)
         obtain ⟨ad608, e608, hx608_0, hx608_1, hx608_2, hx608_3⟩ := at_T36 HR0.out x7_1 p608 q608
         obtain rfl : ad607 = ad608 := (by injection e608)
         replace hx608_0 := cb HB.out hx608_0
         replace hx608_1 := cb HB.out hx608_1
         replace hx608_2 := cb HB.out hx608_2
         replace hx608_3 := cb HB.out hx608_3
         replace p608 := eq_true p608
         replace q608 := eq_true q608
         go_wp2
         go_roundg k1
         case measure => have := HK1.out; omega
         case rel => exact ⟨(x5_1), (x6_1), (wrap64 (x7_1 - 1)), (sq), (sq), H', ⟨by have := HK1.out; omega⟩, ⟨rq HO_5.out⟩, ⟨bq⟩⟩
       ·rw [if_neg c9] at H
        exact absurd H (by simp)
      ·rw [if_neg c8] at H
       exact absurd H (by simp)
     ·rw [if_neg c7] at H
      have c7b0 : decide (0 ≤ x7_1) = false := decide_eq_false c7
      clear c7
      obtain rfl := Option.some.inj H
      go_wp2
      go_ret
      exact ⟨_, Y0, rq HO_5.out, bq⟩
  ·rw [if_neg c4] at H
   exact absurd H (by simp)
 ·rw [if_neg c3] at H
  exact absurd H (by simp)
def spec_WayOut.f (k : Nat) (l0_0 : List (S75)) (l1 : List (S36)) (a2 : Int) : Option (List Int) := (spec_goodLine.f k l0_0 l1 a2).bind fun t614 => (if t614 = true then ((spec_enclosing.f k l1 a2).bind fun t615 => ((spec_wayOut.f k l1 t615).bind fun t618 => (some t618))) else (some ([] : List Int)))
set_option maxHeartbeats 8000000 in
set_option maxRecDepth 100000 in
theorem spec_WayOut.calls (k : Nat) (A0_0 : Option Addr) (c0_0 : Nat) (l0_0 : List (S75)) (A1 : Option Addr) (c1 : Nat) (l1 : List (S36)) (a2 : Int) (r : List Int) (w : World) (hr0_0 : Kd.C k75 w A0_0 l0_0.length l0_0) (hc0_0 : l0_0.length ≤ c0_0) (hr1 : Kd.C k36 w A1 l1.length l1) (hc1 : l1.length ≤ c1) (h : spec_WayOut.f k l0_0 l1 a2 = some r) :
  Calls Try.prog 11 #[.agg #[.slice A0_0 l0_0.length c0_0], .slice A1 l1.length c1, .int .i64 a2] w fun e w' => ∃ v0_ : Value, e = .returned (v0_) ∧ Kd.R (Kd.int .i64) 3 w' w.heap.size (fun _ => True) v0_ r ∧ Below w.heap.size w w' := by
 have hu25 := Try.underlying25
 have HR0_0 := am hr0_0
 have HC0_0 := am hc0_0
 clear hr0_0 hc0_0
 have HR1 := am hr1
 have HC1 := am hc1
 clear hr1 hc1
 have HB := am (Below.refl w.heap.size w)
 have H : ((spec_goodLine.f k l0_0 l1 a2).bind fun t614 => (if t614 = true then ((spec_enclosing.f k l1 a2).bind fun t615 => ((spec_wayOut.f k l1 t615).bind fun t618 => (some t618))) else (some ([] : List Int)))) = some r := h
 clear h
 replace H := Option.bind_eq_some_iff.mp H
 obtain ⟨t614, A40, H⟩ := H
 replace H : (if t614 = true then ((spec_enclosing.f k l1 a2).bind fun t615 => ((spec_wayOut.f k l1 t615).bind fun t618 => (some t618))) else (some ([] : List Int))) = some r := H
 have A4 := am A40
 clear A40
 by_cases c5 : t614 = true
 ·subst c5
  have H1 : ((spec_enclosing.f k l1 a2).bind fun t615 => ((spec_wayOut.f k l1 t615).bind fun t618 => (some t618))) = some r := by rw [if_pos rfl] at H; exact H
  clear H
  have H := H1
  clear H1
  replace H := Option.bind_eq_some_iff.mp H
  obtain ⟨t615, A60, H⟩ := H
  replace H : ((spec_wayOut.f k l1 t615).bind fun t618 => (some t618)) = some r := H
  have A6 := am A60
  clear A60
  replace H := Option.bind_eq_some_iff.mp H
  obtain ⟨t618, A70, H⟩ := H
  replace H : (some t618) = some r := H
  have A7 := am A70
  clear A70
  obtain rfl := Option.some.inj H
  go_enter Try.func11, Try.ntmps11
  go_wp2_with (first | ((with_reducible refine gate_dst (N := 3) rfl ?_); refine bE (N := 3) (cs := #[.slice A0_0 l0_0.length c0_0]) (t := 25) ?_; intro gb613 hg w8 hbox hb; have BK613 := am (hbox); have GW613 := am ((Y3 : w.heap.size ≤ gb613)); have GE613 := am ((Y3 : w.heap.size ≤ gb613)); replace HB := am (below_step (bq) hb); clear hb hbox hg; have hcz9_0 := bc0 BK613.out; have hfz9_0 := blk_frozen BK613.out 0) | ((with_reducible refine gate_callee (f := 33) rfl ?_); refine gL (some 10) Try.func33 #[.agg #[.slice A0_0 l0_0.length c0_0], .slice A1 l1.length c1, .int .i64 a2] ?_; (with_reducible refine (spec_goodLine.calls k _ _ l0_0 _ _ l1 a2 true _ ?side1 ?side2 ?side3 ?side4 A4.out).mono ?_); (case side1 => exact cq (Kd.C_below HR0_0.out HB.out)); (case side2 => exact HC0_0.out); (case side3 => exact cq (Kd.C_below HR1.out HB.out)); (case side4 => exact HC1.out); rintro e w10 ⟨rfl, hb⟩; refine ⟨_, rfl, ?_⟩; replace BK613 := am (blk_below (g := gb613) (o := .cells #[.slice A0_0 l0_0.length c0_0] 25 (0, 0)) (kq BK613.out) hb); replace HB := am (below_step (Y63) hb); (try clear hb); (try clear hb2); (try clear hk); (try clear hi)) | ((with_reducible refine gate_callee (f := 35) rfl ?_); refine gL (some 15) Try.func35 #[.slice A1 l1.length c1, .int .i64 a2] ?_; (with_reducible refine (spec_enclosing.calls k _ _ l1 a2 t615 _ ?side1 ?side2 A6.out).mono ?_); (case side1 => exact cq (Kd.C_below HR1.out HB.out)); (case side2 => exact HC1.out); rintro e w11 ⟨v616, rfl, ho0, hb⟩; refine ⟨_, rfl, ?_⟩; have HO617 := am (Kd.R_lower ho0 (below_size (Y63))); replace BK613 := am (blk_below (g := gb613) (o := .cells #[.slice A0_0 l0_0.length c0_0] 25 (0, 0)) (kq BK613.out) hb); replace HB := am (below_step (Y63) hb); (try clear hb); (try clear hb2); (try clear hk); (try clear hi); (try clear ho0); obtain ⟨Ao12, co12, eo12⟩ := Kd.R_slice HO617.out; subst eo12) | ((with_reducible refine gate_callee (f := 34) rfl ?_); refine gL (some 16) Try.func34 #[.slice A1 l1.length c1, .slice Ao12 t615.length co12] ?_; (with_reducible refine (spec_wayOut.calls k _ _ l1 _ _ t615 t618 _ ?side1 ?side2 ?side3 ?side4 A7.out).mono ?_); (case side1 => exact cq (Kd.C_below HR1.out HB.out)); (case side2 => exact HC1.out); (case side3 => exact cq (Kd.R_reads' HO617.out).2.2); (case side4 => exact (Kd.R_reads' HO617.out).2.1); rintro e w13 ⟨v619, rfl, ho0, hb⟩; refine ⟨_, rfl, ?_⟩; have HO620 := am (Kd.R_lower (Kd.R_new' ho0 (Kd.R_lt (rq HO617.out))) (below_size (Y63))); replace HO617 := am (Kd.R_elder' (rq HO617.out) (Kd.R_base ho0) hb); replace BK613 := am (blk_below (g := gb613) (o := .cells #[.slice A0_0 l0_0.length c0_0] 25 (0, 0)) (kq BK613.out) hb); replace HB := am (below_step (Y63) hb); (try clear hb); (try clear hb2); (try clear hk); (try clear hi); (try clear ho0)))
  go_ret
  exact ⟨_, Y0, by (with_reducible repeat (first | apply Kd.R_alloc | apply Kd.R_drewN | apply Kd.R_drew)); exact Kd.R_mono HO620.out (fun _ hk => trivial), Y63⟩
 ·replace c5 := Bool.eq_false_iff.mpr c5
  subst c5
  have H1 : (some ([] : List Int)) = some r := by rw [if_neg (show ¬ (false = true) by decide)] at H; exact H
  clear H
  have H := H1
  clear H1
  obtain rfl := Option.some.inj H
  go_enter Try.func11, Try.ntmps11
  go_wp2_with (first | ((with_reducible refine gate_dst (N := 3) rfl ?_); refine bE (N := 3) (cs := #[.slice A0_0 l0_0.length c0_0]) (t := 25) ?_; intro gb613 hg w14 hbox hb; have BK613 := am (hbox); have GW613 := am ((Y3 : w.heap.size ≤ gb613)); have GE613 := am ((Y3 : w.heap.size ≤ gb613)); replace HB := am (below_step (bq) hb); clear hb hbox hg; have hcz15_0 := bc0 BK613.out; have hfz15_0 := blk_frozen BK613.out 0) | ((with_reducible refine gate_callee (f := 33) rfl ?_); refine gL (some 10) Try.func33 #[.agg #[.slice A0_0 l0_0.length c0_0], .slice A1 l1.length c1, .int .i64 a2] ?_; (with_reducible refine (spec_goodLine.calls k _ _ l0_0 _ _ l1 a2 false _ ?side1 ?side2 ?side3 ?side4 A4.out).mono ?_); (case side1 => exact cq (Kd.C_below HR0_0.out HB.out)); (case side2 => exact HC0_0.out); (case side3 => exact cq (Kd.C_below HR1.out HB.out)); (case side4 => exact HC1.out); rintro e w16 ⟨rfl, hb⟩; refine ⟨_, rfl, ?_⟩; replace BK613 := am (blk_below (g := gb613) (o := .cells #[.slice A0_0 l0_0.length c0_0] 25 (0, 0)) (kq BK613.out) hb); replace HB := am (below_step (Y63) hb); (try clear hb); (try clear hb2); (try clear hk); (try clear hi)))
  go_ret
  exact ⟨_, Y0, Y66, Y63⟩
def impl_EnclosingOf.f (k : Nat) (l0_0 : List (S75)) (l1 : List (S36)) (a2 : Int) : Option (List Int) := (impl_lineIn.f k l0_0 l1 a2).bind fun t622 => (if t622 = true then ((impl_enclosing.f k l1 a2).bind fun t623 => (some t623)) else (some ([] : List Int)))
set_option maxHeartbeats 8000000 in
set_option maxRecDepth 100000 in
theorem impl_EnclosingOf.calls (k : Nat) (A0_0 : Option Addr) (c0_0 : Nat) (l0_0 : List (S75)) (A1 : Option Addr) (c1 : Nat) (l1 : List (S36)) (a2 : Int) (r : List Int) (w : World) (hr0_0 : Kd.C k75 w A0_0 l0_0.length l0_0) (hc0_0 : l0_0.length ≤ c0_0) (hr1 : Kd.C k36 w A1 l1.length l1) (hc1 : l1.length ≤ c1) (h : impl_EnclosingOf.f k l0_0 l1 a2 = some r) :
  Calls Try.prog 13 #[.agg #[.slice A0_0 l0_0.length c0_0], .slice A1 l1.length c1, .int .i64 a2] w fun e w' => ∃ v0_ : Value, e = .returned (v0_) ∧ Kd.R (Kd.int .i64) 3 w' w.heap.size (fun _ => True) v0_ r ∧ Below w.heap.size w w' := by
 have hu25 := Try.underlying25
 have HR0_0 := am hr0_0
 have HC0_0 := am hc0_0
 clear hr0_0 hc0_0
 have HR1 := am hr1
 have HC1 := am hc1
 clear hr1 hc1
 have HB := am (Below.refl w.heap.size w)
 have H : ((impl_lineIn.f k l0_0 l1 a2).bind fun t622 => (if t622 = true then ((impl_enclosing.f k l1 a2).bind fun t623 => (some t623)) else (some ([] : List Int)))) = some r := h
 clear h
 replace H := Option.bind_eq_some_iff.mp H
 obtain ⟨t622, A40, H⟩ := H
 replace H : (if t622 = true then ((impl_enclosing.f k l1 a2).bind fun t623 => (some t623)) else (some ([] : List Int))) = some r := H
 have A4 := am A40
 clear A40
 by_cases c5 : t622 = true
 ·subst c5
  have H1 : ((impl_enclosing.f k l1 a2).bind fun t623 => (some t623)) = some r := by rw [if_pos rfl] at H; exact H
  clear H
  have H := H1
  clear H1
  replace H := Option.bind_eq_some_iff.mp H
  obtain ⟨t623, A60, H⟩ := H
  replace H : (some t623) = some r := H
  have A6 := am A60
  clear A60
  obtain rfl := Option.some.inj H
  go_enter Try.func13, Try.ntmps13
  go_wp2_with (first | ((with_reducible refine gate_dst (N := 3) rfl ?_); refine bE (N := 3) (cs := #[.slice A0_0 l0_0.length c0_0]) (t := 25) ?_; intro gb621 hg w7 hbox hb; have BK621 := am (hbox); have GW621 := am ((Y3 : w.heap.size ≤ gb621)); have GE621 := am ((Y3 : w.heap.size ≤ gb621)); replace HB := am (below_step (bq) hb); clear hb hbox hg; have hcz8_0 := bc0 BK621.out; have hfz8_0 := blk_frozen BK621.out 0) | ((with_reducible refine gate_callee (f := 31) rfl ?_); refine gL (some 10) Try.func31 #[.agg #[.slice A0_0 l0_0.length c0_0], .slice A1 l1.length c1, .int .i64 a2] ?_; (with_reducible refine (impl_lineIn.calls k _ _ l0_0 _ _ l1 a2 true _ ?side1 ?side2 ?side3 ?side4 A4.out).mono ?_); (case side1 => exact cq (Kd.C_below HR0_0.out HB.out)); (case side2 => exact HC0_0.out); (case side3 => exact cq (Kd.C_below HR1.out HB.out)); (case side4 => exact HC1.out); rintro e w9 ⟨rfl, hb⟩; refine ⟨_, rfl, ?_⟩; replace BK621 := am (blk_below (g := gb621) (o := .cells #[.slice A0_0 l0_0.length c0_0] 25 (0, 0)) (kq BK621.out) hb); replace HB := am (below_step (Y80) hb); (try clear hb); (try clear hb2); (try clear hk); (try clear hi)) | ((with_reducible refine gate_callee (f := 41) rfl ?_); refine gL (some 14) Try.func41 #[.slice A1 l1.length c1, .int .i64 a2] ?_; (with_reducible refine (impl_enclosing.calls k _ _ l1 a2 t623 _ ?side1 ?side2 A6.out).mono ?_); (case side1 => exact cq (Kd.C_below HR1.out HB.out)); (case side2 => exact HC1.out); rintro e w10 ⟨v624, rfl, ho0, hb⟩; refine ⟨_, rfl, ?_⟩; have HO625 := am (Kd.R_lower ho0 (below_size (Y80))); replace BK621 := am (blk_below (g := gb621) (o := .cells #[.slice A0_0 l0_0.length c0_0] 25 (0, 0)) (kq BK621.out) hb); replace HB := am (below_step (Y80) hb); (try clear hb); (try clear hb2); (try clear hk); (try clear hi); (try clear ho0)))
  go_ret
  exact ⟨_, Y0, rq HO625.out, Y80⟩
 ·replace c5 := Bool.eq_false_iff.mpr c5
  subst c5
  have H1 : (some ([] : List Int)) = some r := by rw [if_neg (show ¬ (false = true) by decide)] at H; exact H
  clear H
  have H := H1
  clear H1
  obtain rfl := Option.some.inj H
  go_enter Try.func13, Try.ntmps13
  go_wp2_with (first | ((with_reducible refine gate_dst (N := 3) rfl ?_); refine bE (N := 3) (cs := #[.slice A0_0 l0_0.length c0_0]) (t := 25) ?_; intro gb621 hg w11 hbox hb; have BK621 := am (hbox); have GW621 := am ((Y3 : w.heap.size ≤ gb621)); have GE621 := am ((Y3 : w.heap.size ≤ gb621)); replace HB := am (below_step (bq) hb); clear hb hbox hg; have hcz12_0 := bc0 BK621.out; have hfz12_0 := blk_frozen BK621.out 0) | ((with_reducible refine gate_callee (f := 31) rfl ?_); refine gL (some 10) Try.func31 #[.agg #[.slice A0_0 l0_0.length c0_0], .slice A1 l1.length c1, .int .i64 a2] ?_; (with_reducible refine (impl_lineIn.calls k _ _ l0_0 _ _ l1 a2 false _ ?side1 ?side2 ?side3 ?side4 A4.out).mono ?_); (case side1 => exact cq (Kd.C_below HR0_0.out HB.out)); (case side2 => exact HC0_0.out); (case side3 => exact cq (Kd.C_below HR1.out HB.out)); (case side4 => exact HC1.out); rintro e w13 ⟨rfl, hb⟩; refine ⟨_, rfl, ?_⟩; replace BK621 := am (blk_below (g := gb621) (o := .cells #[.slice A0_0 l0_0.length c0_0] 25 (0, 0)) (kq BK621.out) hb); replace HB := am (below_step (Y80) hb); (try clear hb); (try clear hb2); (try clear hk); (try clear hi)))
  go_ret
  exact ⟨_, Y0, Y66, Y80⟩
end Go.Proofs.Ytkedkinojeoeaaa.P
end
