/- One part of the proofs on this program: functions of the program as plain functions, that the code comes to them, and facts on them. -/
import Derived.Test.YtbcjbcjpoddkoaaYAll1
import Derived.Test.YtbcjbcjpoddkoaaYAll2
import Derived.Test.YtbcjbcjpoddkoaaYWAuto
section
namespace Go.Proofs.Ytbcjbcjpoddkoaa.P
open Go.RowKit Go.Proofs.YtbcjbcjpoddkoaaW.PrintWords Go.Proofs.YtbcjbcjpoddkoaaW.PrintLast Go.Proofs.YtbcjbcjpoddkoaaW.PrintMore
attribute [local go_sem] max2_int min2_int max_two min_two max_three min_three max_four min_four isSome_cell_setCell
set_option linter.unusedVariables false
set_option linter.unusedSimpArgs false
def impl_endOf.l0 : Nat → List (S59) → Int → Int → Option (Int)
 | 0, _, _, _ => none
 | k + 1, x0, x1, x5 => if x5 < (x0.length : Int) then (if 0 ≤ x5 then (if 0 ≤ x1 then (if x1 < (x0.length : Int) then (if ((rd_T59 x0 x5).f0) > ((rd_T59 x0 x1).f0) then (impl_endOf.l0 k x0 x1 (wrap64 (x5 + 1))) else (some x5)) else (none)) else (none)) else (none)) else (some x5)
def impl_endOf.f (k : Nat) (l0 : List (S59)) (a1 : Int) : Option (Int) := impl_endOf.l0 k l0 a1 (wrap64 (a1 + 1))
set_option maxHeartbeats 8000000 in
set_option maxRecDepth 100000 in
theorem impl_endOf.calls (k : Nat) (A0 : Option Addr) (c0 : Nat) (l0 : List (S59)) (a1 : Int) (r : Int) (w : World) (hr0 : Kd.C k59 w A0 l0.length l0) (hc0 : l0.length ≤ c0) (h : impl_endOf.f k l0 a1 = some r) :
  Calls Try.prog 34 #[.slice A0 l0.length c0, .int .i64 a1] w fun e w' => e = .returned (.int .i64 r) ∧ Drawn0 w w' := by
 have HR0 := am hr0
 have HC0 := am hc0
 clear hr0 hc0
 have H : (impl_endOf.l0 k l0 a1 (wrap64 (a1 + 1))) = some r := h
 clear h
 have H' := am H
 clear H
 go_enter Try.func34, Try.ntmps34
 go_wp2
 repeat (go_quiet (fail); try go_wp2)
 go_loopg [5] k (fun kq v5 w' => ∃ (x5_1 : Int), v5 = .int .i64 x5_1 ∧ Aside0 (impl_endOf.l0 kq l0 a1 x5_1 = some r) ∧ Aside0 (kq ≤ k) ∧ Drawn0 w w')
 case atStart => exact ⟨(wrap64 (a1 + 1)), (sq), H', ⟨Nat.le_refl _⟩, Y2⟩
 case round =>
  clear H'
  try clear p2
  obtain ⟨x5_1, rfl, HA, HK1, ⟨m1, rfl⟩⟩ := hrel
  cases gk with
  | zero => exact absurd HA.out (by simp [impl_endOf.l0])
  | succ k1 =>
   have H := HA.out
   clear HA
   simp only [impl_endOf.l0] at H
   by_cases c3 : x5_1 < (l0.length : Int)
   ·rw [if_pos c3] at H
    have c3b0 : decide (x5_1 < (l0.length : Int)) = true := decide_eq_true c3
    clear c3
    by_cases c4 : 0 ≤ x5_1
    ·rw [if_pos c4] at H
     have c4b0 : decide (0 ≤ x5_1) = true := decide_eq_true c4
     clear c4
     by_cases c5 : 0 ≤ a1
     ·rw [if_pos c5] at H
      have c5b0 : decide (0 ≤ a1) = true := decide_eq_true c5
      clear c5
      by_cases c6 : a1 < (l0.length : Int)
      ·rw [if_pos c6] at H
       have c6b0 : decide (a1 < (l0.length : Int)) = true := decide_eq_true c6
       clear c6
       by_cases c7 : ((rd_T59 l0 x5_1).f0) > ((rd_T59 l0 a1).f0)
       ·rw [if_pos c7] at H
        have c7b0 : decide (((rd_T59 l0 a1).f0) < ((rd_T59 l0 x5_1).f0)) = true := decide_eq_true c7
        clear c7
        have H' := am H
        clear H
        have p236 : 0 ≤ (x5_1 : Int) := of_decide_eq_true (uq)
        have q236 : x5_1 < (l0.length : Int) := of_decide_eq_true (uq)
        obtain ⟨ad236, e236, hx236_0, hx236_1, hx236_2, hx236_3⟩ := at_T59 HR0.out x5_1 p236 q236
        cases e236
        replace p236 := eq_true p236
        replace q236 := eq_true q236
        have p237 : 0 ≤ (a1 : Int) := of_decide_eq_true (uq)
        have q237 : a1 < (l0.length : Int) := of_decide_eq_true (uq)
        obtain ⟨ad237, e237, hx237_0, hx237_1, hx237_2, hx237_3⟩ := at_T59 HR0.out a1 p237 q237
        obtain rfl : ad236 = ad237 := (by injection e237)
        replace p237 := eq_true p237
        replace q237 := eq_true q237
        go_wp2
        repeat (go_quiet (fail); try go_wp2)
        go_roundg k1
        case measure => have := HK1.out; omega
        case rel => exact ⟨(wrap64 (x5_1 + 1)), (sq), H', ⟨by have := HK1.out; omega⟩, Y2⟩
       ·rw [if_neg c7] at H
        have c7b0 : decide (((rd_T59 l0 a1).f0) < ((rd_T59 l0 x5_1).f0)) = false := decide_eq_false c7
        clear c7
        obtain rfl := Option.some.inj H
        have p236 : 0 ≤ (x5_1 : Int) := of_decide_eq_true (uq)
        have q236 : x5_1 < (l0.length : Int) := of_decide_eq_true (uq)
        obtain ⟨ad236, e236, hx236_0, hx236_1, hx236_2, hx236_3⟩ := at_T59 HR0.out x5_1 p236 q236
        cases e236
        replace p236 := eq_true p236
        replace q236 := eq_true q236
        have p237 : 0 ≤ (a1 : Int) := of_decide_eq_true (uq)
        have q237 : a1 < (l0.length : Int) := of_decide_eq_true (uq)
        obtain ⟨ad237, e237, hx237_0, hx237_1, hx237_2, hx237_3⟩ := at_T59 HR0.out a1 p237 q237
        obtain rfl : ad236 = ad237 := (by injection e237)
        replace p237 := eq_true p237
        replace q237 := eq_true q237
        go_wp2
        repeat (go_quiet (fail); try go_wp2)
        go_ret
        exact ⟨sq, Y2⟩
      ·rw [if_neg c6] at H
       exact absurd H (by simp)
     ·rw [if_neg c5] at H
      exact absurd H (by simp)
    ·rw [if_neg c4] at H
     exact absurd H (by simp)
   ·rw [if_neg c3] at H
    have c3b0 : decide (x5_1 < (l0.length : Int)) = false := decide_eq_false c3
    clear c3
    obtain rfl := Option.some.inj H
    go_wp2
    repeat (go_quiet (fail); try go_wp2)
    go_ret
    exact ⟨sq, Y2⟩
def impl_within.f (a0 : Int) (a1 : Int) (a2 : Int) : Option (Bool) := if a0 ≥ a1 then (some (decide (a0 ≤ a2))) else (some false)
set_option maxHeartbeats 8000000 in
set_option maxRecDepth 100000 in
theorem impl_within.calls (a0 : Int) (a1 : Int) (a2 : Int) (r : Bool) (w : World) (h : impl_within.f a0 a1 a2 = some r) :
  Calls Try.prog 45 #[.int .i64 a0, .int .i64 a1, .int .i64 a2] w fun e w' => e = .returned (.bool r) ∧ Drawn0 w w' := by
 have H : (if a0 ≥ a1 then (some (decide (a0 ≤ a2))) else (some false)) = some r := h
 clear h
 by_cases c4 : a0 ≥ a1
 ·rw [if_pos c4] at H
  have c4b0 : decide (a1 ≤ a0) = true := decide_eq_true c4
  clear c4
  obtain rfl := Option.some.inj H
  go_enter Try.func45, Try.ntmps45
  go_wp2
  go_ret
  exact ⟨sq, Y2⟩
 ·rw [if_neg c4] at H
  have c4b0 : decide (a1 ≤ a0) = false := decide_eq_false c4
  clear c4
  obtain rfl := Option.some.inj H
  go_enter Try.func45, Try.ntmps45
  go_wp2
  go_ret
  exact ⟨sq, Y2⟩
mutual
def impl_tryFrom.l0 : Nat → List (S59) → Int → List Int → Int → Option (List Int)
 | 0, _, _, _, _ => none
 | k + 1, x0, x1, x5, x6 => if x6 < (x0.length : Int) then (if 0 ≤ x6 then (if 0 ≤ x1 then (if x1 < (x0.length : Int) then (if ((rd_T59 x0 x6).f0) = ((rd_T59 x0 x1).f0) then ((impl_within.f ((rd_T59 x0 x6).f1) 8 10).bind fun t245 => (impl_tryFrom.j1 k x0 x1 x5 x6 t245)) else (impl_tryFrom.j1 k x0 x1 x5 x6 false)) else (none)) else (none)) else (none)) else (impl_tryFrom.j1 k x0 x1 x5 x6 false)
def impl_tryFrom.j1 : Nat → List (S59) → Int → List Int → Int → Bool → Option (List Int)
 | 0, _, _, _, _, _ => none
 | k + 1, x0, x1, x5, x6, x36 => if x36 = true then (if x5.length < 17592186044416 then ((impl_endOf.f k x0 x6).bind fun t249 => (impl_tryFrom.l0 k x0 x1 (x5 ++ [x6]) t249)) else (none)) else (some x5)
end
def impl_tryFrom.f (k : Nat) (l0 : List (S59)) (a1 : Int) : Option (List Int) := (impl_endOf.f k l0 a1).bind fun t241 => (impl_tryFrom.l0 k l0 a1 (([a1] : List Int)) t241)
set_option maxHeartbeats 8000000 in
set_option maxRecDepth 100000 in
theorem impl_tryFrom.calls (k : Nat) (A0 : Option Addr) (c0 : Nat) (l0 : List (S59)) (a1 : Int) (r : List Int) (w : World) (hr0 : Kd.C k59 w A0 l0.length l0) (hc0 : l0.length ≤ c0) (h : impl_tryFrom.f k l0 a1 = some r) :
  Calls Try.prog 35 #[.slice A0 l0.length c0, .int .i64 a1] w fun e w' => ∃ v0_ : Value, e = .returned (v0_) ∧ Kd.R (Kd.int .i64) 3 w' w.heap.size (fun _ => True) v0_ r ∧ Below w.heap.size w w' := by
 have HR0 := am hr0
 have HC0 := am hc0
 clear hr0 hc0
 have HB := am (Below.refl w.heap.size w)
 have H : ((impl_endOf.f k l0 a1).bind fun t241 => (impl_tryFrom.l0 k l0 a1 (([a1] : List Int)) t241)) = some r := h
 clear h
 obtain ⟨y238, hy238⟩ : ∃ y_ : List Int, y_ = (([a1] : List Int)) := ⟨_, rfl⟩
 replace H : ((impl_endOf.f k l0 a1).bind fun t241 => (impl_tryFrom.l0 k l0 a1 y238 t241)) = some r := by first | (rw [hy238]; with_reducible exact H) | (have H2_ := (Option.bind_some _ _).symm.trans H; rw [hy238]; with_reducible exact H2_) | (have H2_ := (Option.bind_some _ _).symm.trans H; with_reducible exact H2_) | with_reducible exact H | (rw [hy238]; exact H) | exact H
 have Ny238 := am hy238
 clear hy238
 replace H := Option.bind_eq_some_iff.mp H
 obtain ⟨t241, A30, H⟩ := H
 replace H : (impl_tryFrom.l0 k l0 a1 y238 t241) = some r := H
 have A3 := am A30
 clear A30
 have H' := am H
 clear H
 go_enter Try.func35, Try.ntmps35
 go_wp2_with (first | ((with_reducible refine gate_dst (N := 8) rfl ?_); refine Kd.R_lit (Kd.int .i64) _ 3 ?hg (N := 8) ?hd (xs := ([a1] : List Int)) (inner := [.int .i64 a1]) (ok := fun _ => True) (okp := fun _ => True) ?hr ?hp (fun _ hk => hk) trivial (Below.refl _ _) (Nat.le_refl _) (by simp) ?_; (case hd => rfl); (case hg => rfl); (case hr => exact Y6); (case hp => exact (Reps.one (show Kd.M (Kd.int .i64) _ _ _ a1 [.int .i64 a1] from rfl) (Reps.none _ _))); intro v239 w4 ho5 hb hg_ hnew_; clear hg_ hnew_; (first | rw [← Ny238.out] at ho5 | (simp only [Int.reduceToNat] at ho5; rw [← Ny238.out] at ho5)); have HO240 := am (Kd.R_lower ho5 (below_size (bq))); replace HB := am (below_step (bq) hb); clear hb ho5) | (go_at_call 34; (with_reducible refine (impl_endOf.calls k _ _ l0 a1 t241 _ ?side1 ?side2 A3.out).mono ?_); (case side1 => exact cq (Kd.C_below HR0.out HB.out)); (case side2 => exact HC0.out); rintro e w' ⟨rfl, ⟨nd, rfl⟩⟩; (try first | exact ⟨rfl, _, World.drewN_drewN _ _ _⟩ | exact ⟨rfl, _, Eq.trans (World.drewN_drewN _ _ _) (congrArg (World.drewN _) (Nat.add_assoc _ _ _))⟩)))
 repeat (go_quiet (first | ((with_reducible refine gate_dst (N := 8) rfl ?_); refine Kd.R_lit (Kd.int .i64) _ 3 ?hg (N := 8) ?hd (xs := ([a1] : List Int)) (inner := [.int .i64 a1]) (ok := fun _ => True) (okp := fun _ => True) ?hr ?hp (fun _ hk => hk) trivial (Below.refl _ _) (Nat.le_refl _) (by simp) ?_; (case hd => rfl); (case hg => rfl); (case hr => exact Y6); (case hp => exact (Reps.one (show Kd.M (Kd.int .i64) _ _ _ a1 [.int .i64 a1] from rfl) (Reps.none _ _))); intro v239 w4 ho5 hb hg_ hnew_; clear hg_ hnew_; (first | rw [← Ny238.out] at ho5 | (simp only [Int.reduceToNat] at ho5; rw [← Ny238.out] at ho5)); have HO240 := am (Kd.R_lower ho5 (below_size (bq))); replace HB := am (below_step (bq) hb); clear hb ho5) | (go_at_call 34; (with_reducible refine (impl_endOf.calls k _ _ l0 a1 t241 _ ?side1 ?side2 A3.out).mono ?_); (case side1 => exact cq (Kd.C_below HR0.out HB.out)); (case side2 => exact HC0.out); rintro e w' ⟨rfl, ⟨nd, rfl⟩⟩; (try first | exact ⟨rfl, _, World.drewN_drewN _ _ _⟩ | exact ⟨rfl, _, Eq.trans (World.drewN_drewN _ _ _) (congrArg (World.drewN _) (Nat.add_assoc _ _ _))⟩))); try go_wp2_with (first | ((with_reducible refine gate_dst (N := 8) rfl ?_); refine Kd.R_lit (Kd.int .i64) _ 3 ?hg (N := 8) ?hd (xs := ([a1] : List Int)) (inner := [.int .i64 a1]) (ok := fun _ => True) (okp := fun _ => True) ?hr ?hp (fun _ hk => hk) trivial (Below.refl _ _) (Nat.le_refl _) (by simp) ?_; (case hd => rfl); (case hg => rfl); (case hr => exact Y6); (case hp => exact (Reps.one (show Kd.M (Kd.int .i64) _ _ _ a1 [.int .i64 a1] from rfl) (Reps.none _ _))); intro v239 w4 ho5 hb hg_ hnew_; clear hg_ hnew_; (first | rw [← Ny238.out] at ho5 | (simp only [Int.reduceToNat] at ho5; rw [← Ny238.out] at ho5)); have HO240 := am (Kd.R_lower ho5 (below_size (bq))); replace HB := am (below_step (bq) hb); clear hb ho5) | (go_at_call 34; (with_reducible refine (impl_endOf.calls k _ _ l0 a1 t241 _ ?side1 ?side2 A3.out).mono ?_); (case side1 => exact cq (Kd.C_below HR0.out HB.out)); (case side2 => exact HC0.out); rintro e w' ⟨rfl, ⟨nd, rfl⟩⟩; (try first | exact ⟨rfl, _, World.drewN_drewN _ _ _⟩ | exact ⟨rfl, _, Eq.trans (World.drewN_drewN _ _ _) (congrArg (World.drewN _) (Nat.add_assoc _ _ _))⟩))))
 go_loopg [5, 6] k (fun kq v5 v6 w' => ∃ (x5_1 : List Int) (x6_1 : Int), v6 = .int .i64 x6_1 ∧ Aside0 (impl_tryFrom.l0 kq l0 a1 x5_1 x6_1 = some r) ∧ Aside0 (kq ≤ k) ∧ Aside0 (Kd.R (Kd.int .i64) 3 w' w.heap.size (fun _ => True) v5 x5_1) ∧ Aside0 (Below w.heap.size w w'))
 case atStart => exact ⟨(y238), (t241), (sq), H', ⟨Nat.le_refl _⟩, ⟨rq HO240.out⟩, ⟨bq⟩⟩
 case round =>
  clear H'
  try clear p2
  try clear c3
  obtain ⟨x5_1, x6_1, rfl, HA, HK1, HO_5, HB⟩ := hrel
  cases gk with
  | zero => exact absurd HA.out (by simp [impl_tryFrom.l0])
  | succ k1 =>
   have H := HA.out
   clear HA
   simp only [impl_tryFrom.l0] at H
   have HC6 := am H
   clear H
   go_upto_region 3 with (fail)
   repeat (go_quiet (fail); go_upto_region 3 with (fail))
   go_cut [36] (fun v36 wc => ∃ (kq : Nat) (x36_5 : Bool), v36 = .bool x36_5 ∧ Aside0 (impl_tryFrom.j1 kq l0 a1 x5_1 x6_1 x36_5 = some r) ∧ Aside0 (kq ≤ k1) ∧ Aside0 (Kd.R (Kd.int .i64) 3 wc w.heap.size (fun _ => True) u5 x5_1) ∧ Aside0 (Below w.heap.size w wc))
   case first =>
    have H := HC6.out
    clear HC6
    by_cases c7 : x6_1 < (l0.length : Int)
    ·rw [if_pos c7] at H
     have c7b0 : decide (x6_1 < (l0.length : Int)) = true := decide_eq_true c7
     clear c7
     (first | rw [c7b0] | (simp only [i64_w, i32_w]; rw [c7b0]) | skip)
     by_cases c8 : 0 ≤ x6_1
     ·rw [if_pos c8] at H
      have c8b0 : decide (0 ≤ x6_1) = true := decide_eq_true c8
      clear c8
      by_cases c9 : 0 ≤ a1
      ·rw [if_pos c9] at H
       have c9b0 : decide (0 ≤ a1) = true := decide_eq_true c9
       clear c9
       by_cases c10 : a1 < (l0.length : Int)
       ·rw [if_pos c10] at H
        have c10b0 : decide (a1 < (l0.length : Int)) = true := decide_eq_true c10
        clear c10
        by_cases c11 : ((rd_T59 l0 x6_1).f0) = ((rd_T59 l0 a1).f0)
        ·rw [if_pos c11] at H
         have c11b0 : (((rd_T59 l0 x6_1).f0) == ((rd_T59 l0 a1).f0)) = true := beq_iff_eq.mpr c11
         have c11b1 : (((rd_T59 l0 x6_1).f0) != ((rd_T59 l0 a1).f0)) = false := bne_eq_false_iff_eq.mpr c11
         clear c11
         replace H := Option.bind_eq_some_iff.mp H
         obtain ⟨t245, A120, H⟩ := H
         replace H : (impl_tryFrom.j1 k1 l0 a1 x5_1 x6_1 t245) = some r := H
         have A12 := am A120
         clear A120
         have H' := am H
         clear H
         have p242 : 0 ≤ (x6_1 : Int) := of_decide_eq_true (uq)
         have q242 : x6_1 < (l0.length : Int) := of_decide_eq_true (uq)
         obtain ⟨ad242, e242, hx242_0, hx242_1, hx242_2, hx242_3⟩ := at_T59 HR0.out x6_1 p242 q242
         cases e242
         replace hx242_0 := cb HB.out hx242_0
         replace hx242_1 := cb HB.out hx242_1
         replace hx242_2 := cb HB.out hx242_2
         replace hx242_3 := cb HB.out hx242_3
         replace p242 := eq_true p242
         replace q242 := eq_true q242
         have p243 : 0 ≤ (a1 : Int) := of_decide_eq_true (uq)
         have q243 : a1 < (l0.length : Int) := of_decide_eq_true (uq)
         obtain ⟨ad243, e243, hx243_0, hx243_1, hx243_2, hx243_3⟩ := at_T59 HR0.out a1 p243 q243
         obtain rfl : ad242 = ad243 := (by injection e243)
         replace hx243_0 := cb HB.out hx243_0
         replace hx243_1 := cb HB.out hx243_1
         replace hx243_2 := cb HB.out hx243_2
         replace hx243_3 := cb HB.out hx243_3
         replace p243 := eq_true p243
         replace q243 := eq_true q243
         have p244 : 0 ≤ (x6_1 : Int) := of_decide_eq_true (uq)
         have q244 : x6_1 < (l0.length : Int) := of_decide_eq_true (uq)
         obtain ⟨ad244, e244, hx244_0, hx244_1, hx244_2, hx244_3⟩ := at_T59 HR0.out x6_1 p244 q244
         obtain rfl : ad242 = ad244 := (by injection e244)
         replace hx244_0 := cb HB.out hx244_0
         replace hx244_1 := cb HB.out hx244_1
         replace hx244_2 := cb HB.out hx244_2
         replace hx244_3 := cb HB.out hx244_3
         replace p244 := eq_true p244
         replace q244 := eq_true q244
         go_wp2_with (first | (go_at_call 45; (with_reducible refine (impl_within.calls ((rd_T59 l0 x6_1).f1) 8 10 t245 _ A12.out).mono ?_); rintro e w' ⟨rfl, ⟨nd, rfl⟩⟩; (try first | exact ⟨rfl, _, World.drewN_drewN _ _ _⟩ | exact ⟨rfl, _, Eq.trans (World.drewN_drewN _ _ _) (congrArg (World.drewN _) (Nat.add_assoc _ _ _))⟩)))
         repeat (go_quiet (first | (go_at_call 45; (with_reducible refine (impl_within.calls ((rd_T59 l0 x6_1).f1) 8 10 t245 _ A12.out).mono ?_); rintro e w' ⟨rfl, ⟨nd, rfl⟩⟩; (try first | exact ⟨rfl, _, World.drewN_drewN _ _ _⟩ | exact ⟨rfl, _, Eq.trans (World.drewN_drewN _ _ _) (congrArg (World.drewN _) (Nat.add_assoc _ _ _))⟩))); try go_wp2_with (first | (go_at_call 45; (with_reducible refine (impl_within.calls ((rd_T59 l0 x6_1).f1) 8 10 t245 _ A12.out).mono ?_); rintro e w' ⟨rfl, ⟨nd, rfl⟩⟩; (try first | exact ⟨rfl, _, World.drewN_drewN _ _ _⟩ | exact ⟨rfl, _, Eq.trans (World.drewN_drewN _ _ _) (congrArg (World.drewN _) (Nat.add_assoc _ _ _))⟩))))
         go_meet
         case rel => exact ⟨_, (t245), (sq), H', ⟨by have := HK1.out; first | omega | exact Nat.le_refl _⟩, ⟨rq HO_5.out⟩, ⟨bq⟩⟩
        ·rw [if_neg c11] at H
         have c11b0 : (((rd_T59 l0 x6_1).f0) == ((rd_T59 l0 a1).f0)) = false := beq_eq_false_iff_ne.mpr c11
         have c11b1 : (((rd_T59 l0 x6_1).f0) != ((rd_T59 l0 a1).f0)) = true := bne_iff_ne.mpr c11
         have H' := am H
         clear H
         have p242 : 0 ≤ (x6_1 : Int) := of_decide_eq_true (uq)
         have q242 : x6_1 < (l0.length : Int) := of_decide_eq_true (uq)
         obtain ⟨ad242, e242, hx242_0, hx242_1, hx242_2, hx242_3⟩ := at_T59 HR0.out x6_1 p242 q242
         cases e242
         replace hx242_0 := cb HB.out hx242_0
         replace hx242_1 := cb HB.out hx242_1
         replace hx242_2 := cb HB.out hx242_2
         replace hx242_3 := cb HB.out hx242_3
         replace p242 := eq_true p242
         replace q242 := eq_true q242
         have p243 : 0 ≤ (a1 : Int) := of_decide_eq_true (uq)
         have q243 : a1 < (l0.length : Int) := of_decide_eq_true (uq)
         obtain ⟨ad243, e243, hx243_0, hx243_1, hx243_2, hx243_3⟩ := at_T59 HR0.out a1 p243 q243
         obtain rfl : ad242 = ad243 := (by injection e243)
         replace hx243_0 := cb HB.out hx243_0
         replace hx243_1 := cb HB.out hx243_1
         replace hx243_2 := cb HB.out hx243_2
         replace hx243_3 := cb HB.out hx243_3
         replace p243 := eq_true p243
         replace q243 := eq_true q243
         go_wp2
         repeat (go_quiet (fail); try go_wp2)
         go_meet
         case rel => exact ⟨_, (false), (sq), H', ⟨by have := HK1.out; first | omega | exact Nat.le_refl _⟩, ⟨rq HO_5.out⟩, ⟨bq⟩⟩
       ·rw [if_neg c10] at H
        exact absurd H (by simp)
      ·rw [if_neg c9] at H
       exact absurd H (by simp)
     ·rw [if_neg c8] at H
      exact absurd H (by simp)
    ·rw [if_neg c7] at H
     have c7b0 : decide (x6_1 < (l0.length : Int)) = false := decide_eq_false c7
     clear c7
     (first | rw [c7b0] | (simp only [i64_w, i32_w]; rw [c7b0]) | skip)
     have H' := am H
     clear H
     go_wp2
     repeat (go_quiet (fail); try go_wp2)
     go_meet
     case rel => exact ⟨_, (false), (sq), H', ⟨by have := HK1.out; first | omega | exact Nat.le_refl _⟩, ⟨rq HO_5.out⟩, ⟨bq⟩⟩
   case rest =>
    clear HC6
    try clear c1
    try clear p2
    try clear q2
    try clear hx2
    try clear c3
    try clear c7
    try clear c7b0
    try clear c8
    try clear c8b0
    try clear c9
    try clear c9b0
    try clear c10
    try clear c10b0
    try clear c11
    try clear c11b0
    try clear c11b1
    try clear hx242_0
    try clear hx242_1
    try clear hx242_2
    try clear hx242_3
    try clear hx243_0
    try clear hx243_1
    try clear hx243_2
    try clear hx243_3
    try clear hx244_0
    try clear hx244_1
    try clear hx244_2
    try clear hx244_3
    try clear p2
    try clear p242
    try clear p243
    try clear p244
    try clear q242
    try clear q243
    try clear q244
    obtain ⟨kq, x36_5, rfl, HA, HJ5, HO_5, HB⟩ := hcut
    cases kq with
    | zero => exact absurd HA.out (by simp [impl_tryFrom.j1])
    | succ kj5 =>
     have H := HA.out
     clear HA
     simp only [impl_tryFrom.j1] at H
     by_cases c13 : x36_5 = true
     ·subst c13
      have H1 : (if x5_1.length < 17592186044416 then ((impl_endOf.f kj5 l0 x6_1).bind fun t249 => (impl_tryFrom.l0 kj5 l0 a1 (x5_1 ++ [x6_1]) t249)) else (none)) = some r := by rw [if_pos rfl] at H; exact H
      clear H
      have H := H1
      clear H1
      by_cases c14 : x5_1.length < 17592186044416
      ·rw [if_pos c14] at H
       have LMc14 := am c14
       clear c14
       obtain ⟨y246, hy246⟩ : ∃ y_ : List Int, y_ = (x5_1 ++ [x6_1]) := ⟨_, rfl⟩
       replace H : ((impl_endOf.f kj5 l0 x6_1).bind fun t249 => (impl_tryFrom.l0 kj5 l0 a1 y246 t249)) = some r := by first | (rw [hy246]; with_reducible exact H) | (have H2_ := (Option.bind_some _ _).symm.trans H; rw [hy246]; with_reducible exact H2_) | (have H2_ := (Option.bind_some _ _).symm.trans H; with_reducible exact H2_) | with_reducible exact H | (rw [hy246]; exact H) | exact H
       have Ny246 := am hy246
       clear hy246
       replace H := Option.bind_eq_some_iff.mp H
       obtain ⟨t249, A150, H⟩ := H
       replace H : (impl_tryFrom.l0 kj5 l0 a1 y246 t249) = some r := H
       have A15 := am A150
       clear A150
       have H' := am H
       clear H
       go_wp2_with (first | ((with_reducible refine gate_builtin (b := .append) (xs := #[.tmp 40, .tmp 42]) rfl ?_); at_builtin; refine Kd.R_append (Kd.int .i64) (w0 := w) w.heap.size rfl (.tmp 40) (.tmp 42) 65 3 (.int .i64 0) 8 rfl Try.underlying65 info3 rfl (by decide) (by omega) u5 x5_1 x6_1 [.int .i64 x6_1] (fun _ => True) (fun _ => False) rfl rfl ?aP (fun _ hk => hk.elim) ?aF ?aO ?aB ?aS ?aL ?_; (case aP => exact rfl); (case aB => exact (bq)); (case aF => exact (fun _ _ => trivial)); (case aO => exact (rq HO_5.out)); (case aS => exact (below_size (bq))); (case aL => have := LMc14.out; omega); intro v247 w16 ho hb hg hat; rw [← Ny246.out] at ho; have n0_ := am (hb); have n1_ := am (ho); clear HB HO_5; have HB := n0_; have HO248 := n1_; clear n0_ n1_ ho hb hg hat) | (go_at_call 34; (with_reducible refine (impl_endOf.calls kj5 _ _ l0 x6_1 t249 _ ?side1 ?side2 A15.out).mono ?_); (case side1 => exact cq (Kd.C_below HR0.out HB.out)); (case side2 => exact HC0.out); rintro e w' ⟨rfl, ⟨nd, rfl⟩⟩; (try first | exact ⟨rfl, _, World.drewN_drewN _ _ _⟩ | exact ⟨rfl, _, Eq.trans (World.drewN_drewN _ _ _) (congrArg (World.drewN _) (Nat.add_assoc _ _ _))⟩)))
       repeat (go_quiet (first | ((with_reducible refine gate_builtin (b := .append) (xs := #[.tmp 40, .tmp 42]) rfl ?_); at_builtin; refine Kd.R_append (Kd.int .i64) (w0 := w) w.heap.size rfl (.tmp 40) (.tmp 42) 65 3 (.int .i64 0) 8 rfl Try.underlying65 info3 rfl (by decide) (by omega) u5 x5_1 x6_1 [.int .i64 x6_1] (fun _ => True) (fun _ => False) rfl rfl ?aP (fun _ hk => hk.elim) ?aF ?aO ?aB ?aS ?aL ?_; (case aP => exact rfl); (case aB => exact (bq)); (case aF => exact (fun _ _ => trivial)); (case aO => exact (rq HO_5.out)); (case aS => exact (below_size (bq))); (case aL => have := LMc14.out; omega); intro v247 w16 ho hb hg hat; rw [← Ny246.out] at ho; have n0_ := am (hb); have n1_ := am (ho); clear HB HO_5; have HB := n0_; have HO248 := n1_; clear n0_ n1_ ho hb hg hat) | (go_at_call 34; (with_reducible refine (impl_endOf.calls kj5 _ _ l0 x6_1 t249 _ ?side1 ?side2 A15.out).mono ?_); (case side1 => exact cq (Kd.C_below HR0.out HB.out)); (case side2 => exact HC0.out); rintro e w' ⟨rfl, ⟨nd, rfl⟩⟩; (try first | exact ⟨rfl, _, World.drewN_drewN _ _ _⟩ | exact ⟨rfl, _, Eq.trans (World.drewN_drewN _ _ _) (congrArg (World.drewN _) (Nat.add_assoc _ _ _))⟩))); try go_wp2_with (first | ((with_reducible refine gate_builtin (b := .append) (xs := #[.tmp 40, .tmp 42]) rfl ?_); at_builtin; refine Kd.R_append (Kd.int .i64) (w0 := w) w.heap.size rfl (.tmp 40) (.tmp 42) 65 3 (.int .i64 0) 8 rfl Try.underlying65 info3 rfl (by decide) (by omega) u5 x5_1 x6_1 [.int .i64 x6_1] (fun _ => True) (fun _ => False) rfl rfl ?aP (fun _ hk => hk.elim) ?aF ?aO ?aB ?aS ?aL ?_; (case aP => exact rfl); (case aB => exact (bq)); (case aF => exact (fun _ _ => trivial)); (case aO => exact (rq HO_5.out)); (case aS => exact (below_size (bq))); (case aL => have := LMc14.out; omega); intro v247 w16 ho hb hg hat; rw [← Ny246.out] at ho; have n0_ := am (hb); have n1_ := am (ho); clear HB HO_5; have HB := n0_; have HO248 := n1_; clear n0_ n1_ ho hb hg hat) | (go_at_call 34; (with_reducible refine (impl_endOf.calls kj5 _ _ l0 x6_1 t249 _ ?side1 ?side2 A15.out).mono ?_); (case side1 => exact cq (Kd.C_below HR0.out HB.out)); (case side2 => exact HC0.out); rintro e w' ⟨rfl, ⟨nd, rfl⟩⟩; (try first | exact ⟨rfl, _, World.drewN_drewN _ _ _⟩ | exact ⟨rfl, _, Eq.trans (World.drewN_drewN _ _ _) (congrArg (World.drewN _) (Nat.add_assoc _ _ _))⟩))))
       go_roundg kj5
       case measure => have := HK1.out; have := HJ5.out; omega
       case rel => exact ⟨(y246), (t249), (sq), H', ⟨by have := HK1.out; have := HJ5.out; omega⟩, ⟨rq HO248.out⟩, ⟨bq⟩⟩
      ·rw [if_neg c14] at H
       exact absurd H (by simp)
     ·replace c13 := Bool.eq_false_iff.mpr c13
      subst c13
      have H1 : (some x5_1) = some r := by rw [if_neg (show ¬ (false = true) by decide)] at H; exact H
      clear H
      have H := H1
      clear H1
      obtain rfl := Option.some.inj H
      go_wp2
      repeat (go_quiet (fail); try go_wp2)
      go_ret
      exact ⟨_, Y0, rq HO_5.out, bq⟩
def impl_nameOk.l0 : Nat → ByteArray → Int → Int → Option (Bool)
 | 0, _, _, _ => none
 | k + 1, x0, x5, x6 => if x6 < x5 then (if 0 ≤ x6 then (if x6 < (x0.size : Int) then (if (bt x0 x6) < 97 then (some false) else (if (bt x0 x6) > 122 then (some false) else (impl_nameOk.l0 k x0 x5 (wrap64 (x6 + 1))))) else (none)) else (none)) else ((impl_within.f (x0.size : Int) 1 6).bind fun t212 => (some t212))
def impl_nameOk.f (k : Nat) (a0 : ByteArray) : Option (Bool) := impl_nameOk.l0 k a0 (a0.size : Int) 0
set_option maxHeartbeats 8000000 in
set_option maxRecDepth 100000 in
theorem impl_nameOk.calls (k : Nat) (a0 : ByteArray) (r : Bool) (w : World) (h : impl_nameOk.f k a0 = some r) :
  Calls Try.prog 73 #[.string a0] w fun e w' => e = .returned (.bool r) ∧ Drawn0 w w' := by
 have H : (impl_nameOk.l0 k a0 (a0.size : Int) 0) = some r := h
 clear h
 have H' := am H
 clear H
 go_enter Try.func73, Try.ntmps73
 go_wp2
 go_loopg [6] k (fun kq v6 w' => ∃ (x6_1 : Int), v6 = .int .i64 x6_1 ∧ Aside0 (impl_nameOk.l0 kq a0 (a0.size : Int) x6_1 = some r) ∧ Aside0 (kq ≤ k) ∧ Drawn0 w w')
 case atStart => exact ⟨(0), (sq), H', ⟨Nat.le_refl _⟩, Y2⟩
 case round =>
  clear H'
  obtain ⟨x6_1, rfl, HA, HK1, ⟨m1, rfl⟩⟩ := hrel
  cases gk with
  | zero => exact absurd HA.out (by simp [impl_nameOk.l0])
  | succ k1 =>
   have H := HA.out
   clear HA
   simp only [impl_nameOk.l0] at H
   by_cases c2 : x6_1 < (a0.size : Int)
   ·rw [if_pos c2] at H
    have c2b0 : decide (x6_1 < (a0.size : Int)) = true := decide_eq_true c2
    clear c2
    by_cases c3 : 0 ≤ x6_1
    ·rw [if_pos c3] at H
     have c3b0 : decide (0 ≤ x6_1) = true := decide_eq_true c3
     clear c3
     by_cases c4 : x6_1 < (a0.size : Int)
     ·rw [if_pos c4] at H
      have c4b0 : decide (x6_1 < (a0.size : Int)) = true := decide_eq_true c4
      clear c4
      by_cases c6 : (bt a0 x6_1) < 97
      ·rw [if_pos c6] at H
       have c6b0 : decide ((bt a0 x6_1) < 97) = true := decide_eq_true c6
       clear c6
       obtain rfl := Option.some.inj H
       have p5 : 0 ≤ (x6_1 : Int) := of_decide_eq_true (uq)
       have q5 : x6_1 < (a0.size : Int) := of_decide_eq_true (uq)
       have hx5 := bt_at a0 x6_1
       replace p5 := eq_true p5
       replace q5 := eq_true q5
       go_wp2
       go_ret
       exact ⟨sq, Y2⟩
      ·rw [if_neg c6] at H
       have c6b0 : decide ((bt a0 x6_1) < 97) = false := decide_eq_false c6
       clear c6
       by_cases c8 : (bt a0 x6_1) > 122
       ·rw [if_pos c8] at H
        have c8b0 : decide (122 < (bt a0 x6_1)) = true := decide_eq_true c8
        clear c8
        obtain rfl := Option.some.inj H
        have p5 : 0 ≤ (x6_1 : Int) := of_decide_eq_true (uq)
        have q5 : x6_1 < (a0.size : Int) := of_decide_eq_true (uq)
        have hx5 := bt_at a0 x6_1
        replace p5 := eq_true p5
        replace q5 := eq_true q5
        have p7 : 0 ≤ (x6_1 : Int) := of_decide_eq_true (uq)
        have q7 : x6_1 < (a0.size : Int) := of_decide_eq_true (uq)
        have hx7 := bt_at a0 x6_1
        replace p7 := eq_true p7
        replace q7 := eq_true q7
        go_wp2
        go_ret
        exact ⟨sq, Y2⟩
       ·rw [if_neg c8] at H
        have c8b0 : decide (122 < (bt a0 x6_1)) = false := decide_eq_false c8
        clear c8
        have H' := am H
        clear H
        have p5 : 0 ≤ (x6_1 : Int) := of_decide_eq_true (uq)
        have q5 : x6_1 < (a0.size : Int) := of_decide_eq_true (uq)
        have hx5 := bt_at a0 x6_1
        replace p5 := eq_true p5
        replace q5 := eq_true q5
        have p7 : 0 ≤ (x6_1 : Int) := of_decide_eq_true (uq)
        have q7 : x6_1 < (a0.size : Int) := of_decide_eq_true (uq)
        have hx7 := bt_at a0 x6_1
        replace p7 := eq_true p7
        replace q7 := eq_true q7
        go_wp2
        go_roundg k1
        case measure => have := HK1.out; omega
        case rel => exact ⟨(wrap64 (x6_1 + 1)), (sq), H', ⟨by have := HK1.out; omega⟩, Y2⟩
     ·rw [if_neg c4] at H
      exact absurd H (by simp)
    ·rw [if_neg c3] at H
     exact absurd H (by simp)
   ·rw [if_neg c2] at H
    have c2b0 : decide (x6_1 < (a0.size : Int)) = false := decide_eq_false c2
    clear c2
    replace H := Option.bind_eq_some_iff.mp H
    obtain ⟨t212, A90, H⟩ := H
    replace H : (some t212) = some r := H
    have A9 := am A90
    clear A90
    obtain rfl := Option.some.inj H
    go_wp2_with (first | ((with_reducible refine gate_callee (f := 45) rfl ?_); refine gL (some 22) Try.func45 #[.int .i64 (a0.size : Int), .int .i64 1, .int .i64 6] ?_; (with_reducible refine (impl_within.calls (a0.size : Int) 1 6 t212 _ A9.out).mono ?_); rintro e w' ⟨rfl, ⟨nd, rfl⟩⟩; refine ⟨_, rfl, ?_⟩))
    go_ret
    exact ⟨sq, Y2⟩

theorem impl_named1_calls (a b : ByteArray) (p : Int) (B : Nat) (w : World) (hB : B < w.heap.size) (hc : w.cell? ⟨B, 0, none⟩ = some (.string b)) :
  Calls Try.prog 100 #[.agg #[.string a, .int .i64 p], .pointer (some ⟨B, 0, none⟩)] w fun e w' => e = .returned (.bool (a.toList == b.toList)) ∧ Below w.heap.size w w' := by
 have hne : B ≠ w.heap.size := by omega
 go_enter Try.func100, Try.ntmps100
 go_wp2
 go_ret
 exact ⟨rfl, (Below.refl _ _).alloc (Nat.le_refl _) _⟩
set_option maxHeartbeats 8000000 in
set_option maxRecDepth 100000 in
theorem impl_named_idx (A_ : Option Addr) (c_ : Nat) (l : List (S98)) (B0_ : Nat) (p : S98 → Option Bool) (r : Int) (w : World) (hr : Kd.C k98 w A_ l.length l) (h : idxFrom p l 0 = some r)
  (hp : ∀ W, Below w.heap.size w W → ∀ (x : S98) (b : Bool), p x = some b → Calls Try.prog 100 #[.agg #[.string x.f0, .int .i64 x.f1], .pointer (some ⟨B0_, 0, none⟩)] W fun e w' => e = .returned (.bool b) ∧ Below W.heap.size W w') :
  Calls Try.prog 99 #[.slice A_ l.length c_, .func (.func 100) #[] #[.pointer (some ⟨B0_, 0, none⟩)]] w fun e w' => e = .returned (.int .i64 r) ∧ Below w.heap.size w w' := by
 have hm : l.length ≤ 9223372036854775807 := Kd.C_max hr
 have HR := am hr
 have HP := am hp
 have H0 := am h
 clear hr hp h
 go_enter Try.func99, Try.ntmps99
 go_wp2
 go_loopw [5, 8] (fun i5 i8 wr => ∃ k : Nat, k ≤ l.length ∧ i8 = .int .i64 k ∧ Aside0 (idxFrom p (l.drop k) k = some r) ∧ Below w.heap.size w wr) (fun _ i8 _ => l.length - (intOf i8).toNat)
 case atStart => exact ⟨0, Nat.zero_le _, rfl, H0, Below.refl _ _⟩
 case round =>
  clear H0
  obtain ⟨k, hk, rfl, HA, hb⟩ := hrel
  by_cases hlt : k < l.length
  ·have HB := am (idxFrom_step hlt HA.out)
   clear HA
   obtain ⟨ad, rfl, hx0, hx1⟩ := at_T98 HR.out (k : Int) (by omega) (by omega)
   have hrd : rd_T98 l (k : Int) = l[k] := by simp [rd_T98, List.getD_eq_getElem?_getD, hlt]
   replace hx0 := pw_cell_below hb hx0
   replace hx1 := pw_cell_below hb hx1
   rw [hrd] at hx0 hx1
   simp only [Int.toNat_natCast] at hx0 hx1
   clear hrd
   obtain ⟨b, hb1, hb0⟩ := HB.out
   have HQ := am hb1
   clear hb1 HB
   cases b with
   | true =>
    have HZ := am (by simpa using hb0 : (k : Int) = r)
    clear hb0
    go_wp2_with (go_at_call 100; refine (HP.out _ hb _ _ HQ.out).mono ?_; rintro e w' ⟨rfl, hb2⟩)
    go_ret
    exact ⟨by rw [← HZ.out]; rfl, below_then hb hb.size hb2⟩
   | false =>
    have HZ := am (by simpa using hb0 : idxFrom p (l.drop (k + 1)) (k + 1) = some r)
    clear hb0
    go_wp2_with (go_at_call 100; refine (HP.out _ hb _ _ HQ.out).mono ?_; rintro e w' ⟨rfl, hb2⟩)
    go_roundw
    case rel => exact ⟨k + 1, hlt, by go_num, HZ, below_then hb hb.size hb2⟩
    case measure => simp [intOf]; omega
  ·have HZ := am (idxFrom_end (by omega) HA.out)
   clear HA
   go_wp2
   go_ret
   exact ⟨by rw [HZ.out]; rfl, hb⟩
def impl_Tree_named.f (l0_0 : List S98) (a1 : ByteArray) : Option Int := idxFrom (fun x : S98 => some (x.f0.toList == a1.toList)) l0_0 0
set_option maxHeartbeats 8000000 in
set_option maxRecDepth 100000 in
theorem impl_Tree_named.calls (A0_0 : Option Addr) (c0_0 : Nat) (l0_0 : List (S98)) (a1 : ByteArray) (r : Int) (w : World) (hr0_0 : Kd.C k98 w A0_0 l0_0.length l0_0) (hc0_0 : l0_0.length ≤ c0_0) (h : impl_Tree_named.f l0_0 a1 = some r) :
  Calls Try.prog 74 #[.agg #[.slice A0_0 l0_0.length c0_0], .string a1] w fun e w' => e = .returned (.int .i64 r) ∧ Below w.heap.size w w' := by
 have hu32 := Try.underlying32
 have HF := am (fun W (hb : Below w.heap.size w W) (B : Nat) (hB : B < W.heap.size) (hc : W.cell? ⟨B, 0, none⟩ = some (.string a1)) => impl_named_idx A0_0 c0_0 l0_0 B (fun x : S98 => some (x.f0.toList == a1.toList)) r W (Kd.C_below hr0_0 hb) h (fun W' hb' x b hx => by
  obtain rfl := Option.some.inj hx
  exact impl_named1_calls x.f0 a1 x.f1 B W' (Nat.lt_of_lt_of_le hB hb'.size) (pw_cell_below hb' hc)))
 clear h hr0_0
 go_enter Try.func74, Try.ntmps74
 go_wp2_with (go_at_call 99; refine (HF.out _ (((Below.refl _ _).alloc (Nat.le_refl _) _).alloc (by simp) _) _ (by simp) (by simp)).mono ?_; rintro e w' ⟨rfl, hb2⟩)
 go_ret
 exact ⟨rfl, (((Below.refl _ _).alloc (Nat.le_refl _) _).alloc (by simp) _).trans (hb2.mono (by simp; omega))⟩
mutual
def impl_ValidTree.l0 : Nat → List (S98) → Int → Int → List (S98) → Option (Bool)
 | 0, _, _, _, _ => none
 | k + 1, x6, x7, x8, x214000 => if x8 < x7 then (if 0 ≤ x8 then (if x8 < (x6.length : Int) then ((impl_nameOk.f k ((rd_T98 x6 x8).f0)).bind fun t217 => (if t217 = true then ((impl_Tree_named.f x214000 ((rd_T98 x6 x8).f0)).bind fun t218 => (if t218 = x8 then (if x8 = 0 then (if ((rd_T98 x6 x8).f1) = (-1) then (if x8 > 0 then ((impl_within.f ((rd_T98 x6 x8).f1) 0 (wrap64 (x8 - 1))).bind fun t219 => (impl_ValidTree.j1 k x6 x7 x8 (!t219) x214000)) else (impl_ValidTree.j1 k x6 x7 x8 false x214000)) else (impl_ValidTree.j1 k x6 x7 x8 true x214000)) else (if x8 > 0 then ((impl_within.f ((rd_T98 x6 x8).f1) 0 (wrap64 (x8 - 1))).bind fun t220 => (impl_ValidTree.j1 k x6 x7 x8 (!t220) x214000)) else (impl_ValidTree.j1 k x6 x7 x8 false x214000))) else (impl_ValidTree.j1 k x6 x7 x8 true x214000))) else (impl_ValidTree.j1 k x6 x7 x8 true x214000))) else (none)) else (none)) else ((impl_within.f (x214000.length : Int) 1 8).bind fun t214 => (some t214))
def impl_ValidTree.j1 : Nat → List (S98) → Int → Int → Bool → List (S98) → Option (Bool)
 | 0, _, _, _, _, _ => none
 | k + 1, x6, x7, x8, x45, x214000 => if x45 = true then (some false) else (impl_ValidTree.l0 k x6 x7 (wrap64 (x8 + 1)) x214000)
end
def impl_ValidTree.f (k : Nat) (l0_0 : List (S98)) : Option (Bool) := impl_ValidTree.l0 k l0_0 (l0_0.length : Int) 0 l0_0
set_option maxHeartbeats 8000000 in
set_option maxRecDepth 100000 in
theorem impl_ValidTree.calls (k : Nat) (A0_0 : Option Addr) (c0_0 : Nat) (l0_0 : List (S98)) (r : Bool) (w : World) (hr0_0 : Kd.C k98 w A0_0 l0_0.length l0_0) (hc0_0 : l0_0.length ≤ c0_0) (h : impl_ValidTree.f k l0_0 = some r) :
  Calls Try.prog 43 #[.agg #[.slice A0_0 l0_0.length c0_0]] w fun e w' => e = .returned (.bool r) ∧ Below w.heap.size w w' := by
 have hu32 := Try.underlying32
 have hu98 := Try.underlying98
 have HR0_0 := am hr0_0
 have HC0_0 := am hc0_0
 clear hr0_0 hc0_0
 have HB := am (Below.refl w.heap.size w)
 have H : (impl_ValidTree.l0 k l0_0 (l0_0.length : Int) 0 l0_0) = some r := h
 clear h
 have H' := am H
 clear H
 go_enter Try.func43, Try.ntmps43
 go_wp2_with (first | ((with_reducible refine gate_dst (N := 1) rfl ?_); refine bE (N := 1) (cs := #[.slice A0_0 l0_0.length c0_0]) (t := 32) ?_; intro gb213 hg w2 hbox hb; have BK213 := am (hbox); have GW213 := am ((Y1 : w.heap.size ≤ gb213)); have GE213 := am ((Y1 : w.heap.size ≤ gb213)); replace HB := am (below_step (bq) hb); clear hb hbox hg; have hcz3_0 := bc0 BK213.out; have hfz3_0 := blk_frozen BK213.out 0))
 go_loopg [8] k (fun kq v8 w' => ∃ (x8_1 : Int), v8 = .int .i64 x8_1 ∧ Aside0 (impl_ValidTree.l0 kq l0_0 (l0_0.length : Int) x8_1 l0_0 = some r) ∧ Aside0 (kq ≤ k) ∧ Aside0 (w'.heap[gb213]? = some (.cells #[(.slice A0_0 l0_0.length c0_0)] 32 (0, 0))) ∧ Aside0 (Below w.heap.size w w'))
 case atStart => exact ⟨(0), (sq), H', ⟨Nat.le_refl _⟩, ⟨kq BK213.out⟩, ⟨Y32⟩⟩
 case round =>
  clear H'
  try clear p2
  try clear hcz3_0
  try clear hfz3_0
  obtain ⟨x8_1, rfl, HA, HK1, BK213, HB⟩ := hrel
  cases gk with
  | zero => exact absurd HA.out (by simp [impl_ValidTree.l0])
  | succ k1 =>
   have H := HA.out
   clear HA
   simp only [impl_ValidTree.l0] at H
   by_cases c4 : x8_1 < (l0_0.length : Int)
   ·rw [if_pos c4] at H
    have c4b0 : decide (x8_1 < (l0_0.length : Int)) = true := decide_eq_true c4
    clear c4
    by_cases c5 : 0 ≤ x8_1
    ·rw [if_pos c5] at H
     have c5b0 : decide (0 ≤ x8_1) = true := decide_eq_true c5
     clear c5
     by_cases c6 : x8_1 < (l0_0.length : Int)
     ·rw [if_pos c6] at H
      have c6b0 : decide (x8_1 < (l0_0.length : Int)) = true := decide_eq_true c6
      clear c6
      have HC7 := am H
      clear H
      have p215 : 0 ≤ (x8_1 : Int) := of_decide_eq_true (uq)
      have q215 : x8_1 < (l0_0.length : Int) := of_decide_eq_true (uq)
      obtain ⟨ad215, e215, hx215_0, hx215_1⟩ := at_T98 HR0_0.out x8_1 p215 q215
      cases e215
      replace hx215_0 := cb HB.out hx215_0
      replace hx215_1 := cb HB.out hx215_1
      replace p215 := eq_true p215
      replace q215 := eq_true q215
      go_upto_region 4 with (first | ((with_reducible refine gate_dst (N := 4) rfl ?_); refine bE (N := 4) (cs := #[.string (⟨#[]⟩ : ByteArray), .int .i64 0]) (t := 98) ?_; intro gb216 hg w8 hbox hb; have BK216 := am (hbox); have GW216 := am ((Y48 : w.heap.size ≤ gb216)); have GE216 := am ((Y48 : w.heap.size ≤ gb216)); have NB213_216 := am ((by rw [hg]; exact Nat.ne_of_lt (blk_lt (g := gb213) (o := .cells #[.slice (some ad215) l0_0.length c0_0] 32 (0, 0)) (kq BK213.out)) : gb213 ≠ gb216)); have NB216_213 := am ((by rw [hg]; exact Nat.ne_of_gt (blk_lt (g := gb213) (o := .cells #[.slice (some ad215) l0_0.length c0_0] 32 (0, 0)) (kq BK213.out)) : gb216 ≠ gb213)); replace BK213 := am (blk_below (g := gb213) (o := .cells #[.slice (some ad215) l0_0.length c0_0] 32 (0, 0)) (kq BK213.out) hb); replace HB := am (below_step (Y32) hb); clear hb hbox hg; have hnb9 := NB216_213.out; have hnc9 := NB213_216.out; have hcz10_0 := bc0 BK216.out; have hcz10_1 := bc1 BK216.out; have hfz10_0 := blk_frozen BK216.out 0; have hfz10_1 := blk_frozen BK216.out 1))
      (try simp only [Act.put, List.setIfInBounds_toArray, List.set_cons_zero, List.set_cons_succ])
      go_cut [45] (fun v45 wc => ∃ (kq : Nat) (x45_6 : Bool), v45 = .bool x45_6 ∧ Aside0 (impl_ValidTree.j1 kq l0_0 (l0_0.length : Int) x8_1 x45_6 l0_0 = some r) ∧ Aside0 (kq ≤ k1) ∧ Aside0 (wc.heap[gb213]? = some (.cells #[(.slice (some ad215) l0_0.length c0_0)] 32 (0, 0))) ∧ Aside0 (wc.heap[gb216]? = some (.cells #[.string ((rd_T98 l0_0 x8_1).f0), .int .i64 ((rd_T98 l0_0 x8_1).f1)] 98 (0, 0))) ∧ Aside0 (Below w.heap.size w wc))
      case first =>
       have H := HC7.out
       clear HC7
       replace H := Option.bind_eq_some_iff.mp H
       obtain ⟨t217, A110, H⟩ := H
       replace H : (if t217 = true then ((impl_Tree_named.f l0_0 ((rd_T98 l0_0 x8_1).f0)).bind fun t218 => (if t218 = x8_1 then (if x8_1 = 0 then (if ((rd_T98 l0_0 x8_1).f1) = (-1) then (if x8_1 > 0 then ((impl_within.f ((rd_T98 l0_0 x8_1).f1) 0 (wrap64 (x8_1 - 1))).bind fun t219 => (impl_ValidTree.j1 k1 l0_0 (l0_0.length : Int) x8_1 (!t219) l0_0)) else (impl_ValidTree.j1 k1 l0_0 (l0_0.length : Int) x8_1 false l0_0)) else (impl_ValidTree.j1 k1 l0_0 (l0_0.length : Int) x8_1 true l0_0)) else (if x8_1 > 0 then ((impl_within.f ((rd_T98 l0_0 x8_1).f1) 0 (wrap64 (x8_1 - 1))).bind fun t220 => (impl_ValidTree.j1 k1 l0_0 (l0_0.length : Int) x8_1 (!t220) l0_0)) else (impl_ValidTree.j1 k1 l0_0 (l0_0.length : Int) x8_1 false l0_0))) else (impl_ValidTree.j1 k1 l0_0 (l0_0.length : Int) x8_1 true l0_0))) else (impl_ValidTree.j1 k1 l0_0 (l0_0.length : Int) x8_1 true l0_0)) = some r := H
       have A11 := am A110
       clear A110
       by_cases c12 : t217 = true
       ·subst c12
        have H1 : ((impl_Tree_named.f l0_0 ((rd_T98 l0_0 x8_1).f0)).bind fun t218 => (if t218 = x8_1 then (if x8_1 = 0 then (if ((rd_T98 l0_0 x8_1).f1) = (-1) then (if x8_1 > 0 then ((impl_within.f ((rd_T98 l0_0 x8_1).f1) 0 (wrap64 (x8_1 - 1))).bind fun t219 => (impl_ValidTree.j1 k1 l0_0 (l0_0.length : Int) x8_1 (!t219) l0_0)) else (impl_ValidTree.j1 k1 l0_0 (l0_0.length : Int) x8_1 false l0_0)) else (impl_ValidTree.j1 k1 l0_0 (l0_0.length : Int) x8_1 true l0_0)) else (if x8_1 > 0 then ((impl_within.f ((rd_T98 l0_0 x8_1).f1) 0 (wrap64 (x8_1 - 1))).bind fun t220 => (impl_ValidTree.j1 k1 l0_0 (l0_0.length : Int) x8_1 (!t220) l0_0)) else (impl_ValidTree.j1 k1 l0_0 (l0_0.length : Int) x8_1 false l0_0))) else (impl_ValidTree.j1 k1 l0_0 (l0_0.length : Int) x8_1 true l0_0))) = some r := by rw [if_pos rfl] at H; exact H
        clear H
        have H := H1
        clear H1
        replace H := Option.bind_eq_some_iff.mp H
        obtain ⟨t218, A130, H⟩ := H
        replace H : (if t218 = x8_1 then (if x8_1 = 0 then (if ((rd_T98 l0_0 x8_1).f1) = (-1) then (if x8_1 > 0 then ((impl_within.f ((rd_T98 l0_0 x8_1).f1) 0 (wrap64 (x8_1 - 1))).bind fun t219 => (impl_ValidTree.j1 k1 l0_0 (l0_0.length : Int) x8_1 (!t219) l0_0)) else (impl_ValidTree.j1 k1 l0_0 (l0_0.length : Int) x8_1 false l0_0)) else (impl_ValidTree.j1 k1 l0_0 (l0_0.length : Int) x8_1 true l0_0)) else (if x8_1 > 0 then ((impl_within.f ((rd_T98 l0_0 x8_1).f1) 0 (wrap64 (x8_1 - 1))).bind fun t220 => (impl_ValidTree.j1 k1 l0_0 (l0_0.length : Int) x8_1 (!t220) l0_0)) else (impl_ValidTree.j1 k1 l0_0 (l0_0.length : Int) x8_1 false l0_0))) else (impl_ValidTree.j1 k1 l0_0 (l0_0.length : Int) x8_1 true l0_0)) = some r := H
        have A13 := am A130
        clear A130
        by_cases c14 : t218 = x8_1
        ·rw [if_pos c14] at H
         have c14b0 : (t218 == x8_1) = true := beq_iff_eq.mpr c14
         have c14b1 : (t218 != x8_1) = false := bne_eq_false_iff_eq.mpr c14
         clear c14
         (first | rw [c14b0] | (simp only [i64_w, i32_w]; rw [c14b0]) | skip)
         by_cases c15 : x8_1 = 0
         ·rw [if_pos c15] at H
          have c15b0 : (x8_1 == 0) = true := beq_iff_eq.mpr c15
          have c15b1 : (x8_1 != 0) = false := bne_eq_false_iff_eq.mpr c15
          clear c15
          by_cases c16 : ((rd_T98 l0_0 x8_1).f1) = (-1)
          ·rw [if_pos c16] at H
           have c16b0 : (((rd_T98 l0_0 x8_1).f1) == (-1)) = true := beq_iff_eq.mpr c16
           have c16b1 : (((rd_T98 l0_0 x8_1).f1) != (-1)) = false := bne_eq_false_iff_eq.mpr c16
           clear c16
           by_cases c17 : x8_1 > 0
           ·rw [if_pos c17] at H
            have c17b0 : decide (0 < x8_1) = true := decide_eq_true c17
            clear c17
            replace H := Option.bind_eq_some_iff.mp H
            obtain ⟨t219, A180, H⟩ := H
            replace H : (impl_ValidTree.j1 k1 l0_0 (l0_0.length : Int) x8_1 (!t219) l0_0) = some r := H
            have A18 := am A180
            clear A180
            have H' := am H
            clear H
            have hnb19 := NB216_213.out
            have hnc19 := NB213_216.out
            have hcz20_0 := bc0 BK216.out
            have hcz20_1 := bc1 BK216.out
            have hfz20_0 := blk_frozen BK216.out 0
            have hfz20_1 := blk_frozen BK216.out 1
            go_wp2_with (first | ((with_reducible refine gate_callee (f := 73) rfl ?_); refine gL (some 15) Try.func73 #[.string ((rd_T98 l0_0 x8_1).f0)] ?_; (with_reducible refine (impl_nameOk.calls k1 ((rd_T98 l0_0 x8_1).f0) true _ A11.out).mono ?_); rintro e w' ⟨rfl, ⟨nd, rfl⟩⟩; refine ⟨_, rfl, ?_⟩; have hcz21_0 := bc0 BK213.out; have hfz21_0 := blk_frozen BK213.out 0) | (go_at_call 74; (with_reducible refine (impl_Tree_named.calls _ _ l0_0 ((rd_T98 l0_0 x8_1).f0) t218 _ ?side1 ?side2 A13.out).mono ?_); (case side1 => exact Kd.C_below HR0_0.out (Y5)); (case side2 => exact HC0_0.out); rintro e w22 ⟨rfl, hb⟩; replace BK213 := am (blk_below (g := gb213) (o := .cells #[.slice (some ad215) l0_0.length c0_0] 32 (0, 0)) (Y16) hb); replace BK216 := am (blk_below (g := gb216) (o := .cells #[.string ((rd_T98 l0_0 x8_1).f0), .int .i64 ((rd_T98 l0_0 x8_1).f1)] 98 (0, 0)) (Y17) hb); replace HB := am (below_step (Y5) hb); (try clear hb); (try clear hb2); (try clear hk); (try clear hi); have hcz23_0 := bc0 BK216.out; have hcz23_1 := bc1 BK216.out; have hfz23_0 := blk_frozen BK216.out 0; have hfz23_1 := blk_frozen BK216.out 1) | (go_at_call 45; (with_reducible refine (impl_within.calls ((rd_T98 l0_0 x8_1).f1) 0 (wrap64 (x8_1 - 1)) t219 _ A18.out).mono ?_); rintro e w' ⟨rfl, ⟨nd, rfl⟩⟩))
            go_meet
            case rel => exact ⟨_, (!t219), (sq), H', ⟨by have := HK1.out; first | omega | exact Nat.le_refl _⟩, ⟨kq BK213.out⟩, ⟨kq BK216.out⟩, ⟨Y5⟩⟩
           ·rw [if_neg c17] at H
            have c17b0 : decide (0 < x8_1) = false := decide_eq_false c17
            clear c17
            have H' := am H
            clear H
            have hnb24 := NB216_213.out
            have hnc24 := NB213_216.out
            have hcz25_0 := bc0 BK216.out
            have hcz25_1 := bc1 BK216.out
            have hfz25_0 := blk_frozen BK216.out 0
            have hfz25_1 := blk_frozen BK216.out 1
            go_wp2_with (first | ((with_reducible refine gate_callee (f := 73) rfl ?_); refine gL (some 15) Try.func73 #[.string ((rd_T98 l0_0 x8_1).f0)] ?_; (with_reducible refine (impl_nameOk.calls k1 ((rd_T98 l0_0 x8_1).f0) true _ A11.out).mono ?_); rintro e w' ⟨rfl, ⟨nd, rfl⟩⟩; refine ⟨_, rfl, ?_⟩; have hcz26_0 := bc0 BK213.out; have hfz26_0 := blk_frozen BK213.out 0) | (go_at_call 74; (with_reducible refine (impl_Tree_named.calls _ _ l0_0 ((rd_T98 l0_0 x8_1).f0) t218 _ ?side1 ?side2 A13.out).mono ?_); (case side1 => exact Kd.C_below HR0_0.out (Y5)); (case side2 => exact HC0_0.out); rintro e w27 ⟨rfl, hb⟩; replace BK213 := am (blk_below (g := gb213) (o := .cells #[.slice (some ad215) l0_0.length c0_0] 32 (0, 0)) (Y16) hb); replace BK216 := am (blk_below (g := gb216) (o := .cells #[.string ((rd_T98 l0_0 x8_1).f0), .int .i64 ((rd_T98 l0_0 x8_1).f1)] 98 (0, 0)) (Y17) hb); replace HB := am (below_step (Y5) hb); (try clear hb); (try clear hb2); (try clear hk); (try clear hi); have hcz28_0 := bc0 BK216.out; have hcz28_1 := bc1 BK216.out; have hfz28_0 := blk_frozen BK216.out 0; have hfz28_1 := blk_frozen BK216.out 1))
            go_meet
            case rel => exact ⟨_, (false), (sq), H', ⟨by have := HK1.out; first | omega | exact Nat.le_refl _⟩, ⟨kq BK213.out⟩, ⟨kq BK216.out⟩, ⟨Y5⟩⟩
          ·rw [if_neg c16] at H
           have c16b0 : (((rd_T98 l0_0 x8_1).f1) == (-1)) = false := beq_eq_false_iff_ne.mpr c16
           have c16b1 : (((rd_T98 l0_0 x8_1).f1) != (-1)) = true := bne_iff_ne.mpr c16
           have H' := am H
           clear H
           have hnb29 := NB216_213.out
           have hnc29 := NB213_216.out
           have hcz30_0 := bc0 BK216.out
           have hcz30_1 := bc1 BK216.out
           have hfz30_0 := blk_frozen BK216.out 0
           have hfz30_1 := blk_frozen BK216.out 1
           go_wp2_with (first | ((with_reducible refine gate_callee (f := 73) rfl ?_); refine gL (some 15) Try.func73 #[.string ((rd_T98 l0_0 x8_1).f0)] ?_; (with_reducible refine (impl_nameOk.calls k1 ((rd_T98 l0_0 x8_1).f0) true _ A11.out).mono ?_); rintro e w' ⟨rfl, ⟨nd, rfl⟩⟩; refine ⟨_, rfl, ?_⟩; have hcz31_0 := bc0 BK213.out; have hfz31_0 := blk_frozen BK213.out 0) | (go_at_call 74; (with_reducible refine (impl_Tree_named.calls _ _ l0_0 ((rd_T98 l0_0 x8_1).f0) t218 _ ?side1 ?side2 A13.out).mono ?_); (case side1 => exact Kd.C_below HR0_0.out (Y5)); (case side2 => exact HC0_0.out); rintro e w32 ⟨rfl, hb⟩; replace BK213 := am (blk_below (g := gb213) (o := .cells #[.slice (some ad215) l0_0.length c0_0] 32 (0, 0)) (Y16) hb); replace BK216 := am (blk_below (g := gb216) (o := .cells #[.string ((rd_T98 l0_0 x8_1).f0), .int .i64 ((rd_T98 l0_0 x8_1).f1)] 98 (0, 0)) (Y17) hb); replace HB := am (below_step (Y5) hb); (try clear hb); (try clear hb2); (try clear hk); (try clear hi); have hcz33_0 := bc0 BK216.out; have hcz33_1 := bc1 BK216.out; have hfz33_0 := blk_frozen BK216.out 0; have hfz33_1 := blk_frozen BK216.out 1))
           go_meet
           case rel => exact ⟨_, (true), (sq), H', ⟨by have := HK1.out; first | omega | exact Nat.le_refl _⟩, ⟨kq BK213.out⟩, ⟨kq BK216.out⟩, ⟨Y5⟩⟩
         ·rw [if_neg c15] at H
          have c15b0 : (x8_1 == 0) = false := beq_eq_false_iff_ne.mpr c15
          have c15b1 : (x8_1 != 0) = true := bne_iff_ne.mpr c15
          by_cases c34 : x8_1 > 0
          ·rw [if_pos c34] at H
           have c34b0 : decide (0 < x8_1) = true := decide_eq_true c34
           clear c34
           replace H := Option.bind_eq_some_iff.mp H
           obtain ⟨t220, A350, H⟩ := H
           replace H : (impl_ValidTree.j1 k1 l0_0 (l0_0.length : Int) x8_1 (!t220) l0_0) = some r := H
           have A35 := am A350
           clear A350
           have H' := am H
           clear H
           have hnb36 := NB216_213.out
           have hnc36 := NB213_216.out
           have hcz37_0 := bc0 BK216.out
           have hcz37_1 := bc1 BK216.out
           have hfz37_0 := blk_frozen BK216.out 0
           have hfz37_1 := blk_frozen BK216.out 1
           go_wp2_with (first | ((with_reducible refine gate_callee (f := 73) rfl ?_); refine gL (some 15) Try.func73 #[.string ((rd_T98 l0_0 x8_1).f0)] ?_; (with_reducible refine (impl_nameOk.calls k1 ((rd_T98 l0_0 x8_1).f0) true _ A11.out).mono ?_); rintro e w' ⟨rfl, ⟨nd, rfl⟩⟩; refine ⟨_, rfl, ?_⟩; have hcz38_0 := bc0 BK213.out; have hfz38_0 := blk_frozen BK213.out 0) | (go_at_call 74; (with_reducible refine (impl_Tree_named.calls _ _ l0_0 ((rd_T98 l0_0 x8_1).f0) t218 _ ?side1 ?side2 A13.out).mono ?_); (case side1 => exact Kd.C_below HR0_0.out (Y5)); (case side2 => exact HC0_0.out); rintro e w39 ⟨rfl, hb⟩; replace BK213 := am (blk_below (g := gb213) (o := .cells #[.slice (some ad215) l0_0.length c0_0] 32 (0, 0)) (Y16) hb); replace BK216 := am (blk_below (g := gb216) (o := .cells #[.string ((rd_T98 l0_0 x8_1).f0), .int .i64 ((rd_T98 l0_0 x8_1).f1)] 98 (0, 0)) (Y17) hb); replace HB := am (below_step (Y5) hb); (try clear hb); (try clear hb2); (try clear hk); (try clear hi); have hcz40_0 := bc0 BK216.out; have hcz40_1 := bc1 BK216.out; have hfz40_0 := blk_frozen BK216.out 0; have hfz40_1 := blk_frozen BK216.out 1) | (go_at_call 45; (with_reducible refine (impl_within.calls ((rd_T98 l0_0 x8_1).f1) 0 (wrap64 (x8_1 - 1)) t220 _ A35.out).mono ?_); rintro e w' ⟨rfl, ⟨nd, rfl⟩⟩))
           go_meet
           case rel => exact ⟨_, (!t220), (sq), H', ⟨by have := HK1.out; first | omega | exact Nat.le_refl _⟩, ⟨kq BK213.out⟩, ⟨kq BK216.out⟩, ⟨Y5⟩⟩
          ·rw [if_neg c34] at H
           have c34b0 : decide (0 < x8_1) = false := decide_eq_false c34
           clear c34
           have H' := am H
           clear H
           have hnb41 := NB216_213.out
           have hnc41 := NB213_216.out
           have hcz42_0 := bc0 BK216.out
           have hcz42_1 := bc1 BK216.out
           have hfz42_0 := blk_frozen BK216.out 0
           have hfz42_1 := blk_frozen BK216.out 1
           go_wp2_with (first | ((with_reducible refine gate_callee (f := 73) rfl ?_); refine gL (some 15) Try.func73 #[.string ((rd_T98 l0_0 x8_1).f0)] ?_; (with_reducible refine (impl_nameOk.calls k1 ((rd_T98 l0_0 x8_1).f0) true _ A11.out).mono ?_); rintro e w' ⟨rfl, ⟨nd, rfl⟩⟩; refine ⟨_, rfl, ?_⟩; have hcz43_0 := bc0 BK213.out; have hfz43_0 := blk_frozen BK213.out 0) | (go_at_call 74; (with_reducible refine (impl_Tree_named.calls _ _ l0_0 ((rd_T98 l0_0 x8_1).f0) t218 _ ?side1 ?side2 A13.out).mono ?_); (case side1 => exact Kd.C_below HR0_0.out (Y5)); (case side2 => exact HC0_0.out); rintro e w44 ⟨rfl, hb⟩; replace BK213 := am (blk_below (g := gb213) (o := .cells #[.slice (some ad215) l0_0.length c0_0] 32 (0, 0)) (Y16) hb); replace BK216 := am (blk_below (g := gb216) (o := .cells #[.string ((rd_T98 l0_0 x8_1).f0), .int .i64 ((rd_T98 l0_0 x8_1).f1)] 98 (0, 0)) (Y17) hb); replace HB := am (below_step (Y5) hb); (try clear hb); (try clear hb2); (try clear hk); (try clear hi)))
           go_meet
           case rel => exact ⟨_, (false), (sq), H', ⟨by have := HK1.out; first | omega | exact Nat.le_refl _⟩, ⟨kq BK213.out⟩, ⟨kq BK216.out⟩, ⟨Y5⟩⟩
        ·rw [if_neg c14] at H
         have c14b0 : (t218 == x8_1) = false := beq_eq_false_iff_ne.mpr c14
         have c14b1 : (t218 != x8_1) = true := bne_iff_ne.mpr c14
         (first | rw [c14b0] | (simp only [i64_w, i32_w]; rw [c14b0]) | skip)
         have H' := am H
         clear H
         have hnb45 := NB216_213.out
         have hnc45 := NB213_216.out
         have hcz46_0 := bc0 BK216.out
         have hcz46_1 := bc1 BK216.out
         have hfz46_0 := blk_frozen BK216.out 0
         have hfz46_1 := blk_frozen BK216.out 1
         go_wp2_with (first | ((with_reducible refine gate_callee (f := 73) rfl ?_); refine gL (some 15) Try.func73 #[.string ((rd_T98 l0_0 x8_1).f0)] ?_; (with_reducible refine (impl_nameOk.calls k1 ((rd_T98 l0_0 x8_1).f0) true _ A11.out).mono ?_); rintro e w' ⟨rfl, ⟨nd, rfl⟩⟩; refine ⟨_, rfl, ?_⟩; have hcz47_0 := bc0 BK213.out; have hfz47_0 := blk_frozen BK213.out 0) | (go_at_call 74; (with_reducible refine (impl_Tree_named.calls _ _ l0_0 ((rd_T98 l0_0 x8_1).f0) t218 _ ?side1 ?side2 A13.out).mono ?_); (case side1 => exact Kd.C_below HR0_0.out (Y5)); (case side2 => exact HC0_0.out); rintro e w48 ⟨rfl, hb⟩; replace BK213 := am (blk_below (g := gb213) (o := .cells #[.slice (some ad215) l0_0.length c0_0] 32 (0, 0)) (Y16) hb); replace BK216 := am (blk_below (g := gb216) (o := .cells #[.string ((rd_T98 l0_0 x8_1).f0), .int .i64 ((rd_T98 l0_0 x8_1).f1)] 98 (0, 0)) (Y17) hb); replace HB := am (below_step (Y5) hb); (try clear hb); (try clear hb2); (try clear hk); (try clear hi)))
         go_meet
         case rel => exact ⟨_, (true), (sq), H', ⟨by have := HK1.out; first | omega | exact Nat.le_refl _⟩, ⟨kq BK213.out⟩, ⟨kq BK216.out⟩, ⟨Y5⟩⟩
       ·replace c12 := Bool.eq_false_iff.mpr c12
        subst c12
        have H1 : (impl_ValidTree.j1 k1 l0_0 (l0_0.length : Int) x8_1 true l0_0) = some r := by rw [if_neg (show ¬ (false = true) by decide)] at H; exact H
        clear H
        have H := H1
        clear H1
        have H' := am H
        clear H
        have hnb49 := NB216_213.out
        have hnc49 := NB213_216.out
        have hcz50_0 := bc0 BK216.out
        have hcz50_1 := bc1 BK216.out
        have hfz50_0 := blk_frozen BK216.out 0
        have hfz50_1 := blk_frozen BK216.out 1
        go_wp2_with (first | ((with_reducible refine gate_callee (f := 73) rfl ?_); refine gL (some 15) Try.func73 #[.string ((rd_T98 l0_0 x8_1).f0)] ?_; (with_reducible refine (impl_nameOk.calls k1 ((rd_T98 l0_0 x8_1).f0) false _ A11.out).mono ?_); rintro e w' ⟨rfl, ⟨nd, rfl⟩⟩; refine ⟨_, rfl, ?_⟩))
        go_meet
        case rel => exact ⟨_, (true), (sq), H', ⟨by have := HK1.out; first | omega | exact Nat.le_refl _⟩, ⟨by (with_reducible repeat (first | refine blk_drewN ?_ _ | refine blk_drew ?_ | refine blk_alloc ?_ _)); refine blk_far ?_ NB213_216.out _; (with_reducible repeat (first | refine blk_drewN ?_ _ | refine blk_drew ?_ | refine blk_alloc ?_ _)); refine blk_far ?_ NB213_216.out _; (with_reducible repeat (first | refine blk_drewN ?_ _ | refine blk_drew ?_ | refine blk_alloc ?_ _)); exact BK213.out⟩, ⟨by (with_reducible repeat (first | refine blk_drewN ?_ _ | refine blk_drew ?_ | refine blk_alloc ?_ _)); refine blk_put (cs := #[.string ((rd_T98 l0_0 x8_1).f0), .int .i64 0]) ?_ 1 _ rfl; (with_reducible repeat (first | refine blk_drewN ?_ _ | refine blk_drew ?_ | refine blk_alloc ?_ _)); refine blk_put (cs := #[.string (⟨#[]⟩ : ByteArray), .int .i64 0]) ?_ 0 _ rfl; (with_reducible repeat (first | refine blk_drewN ?_ _ | refine blk_drew ?_ | refine blk_alloc ?_ _)); exact BK216.out⟩, ⟨Y5⟩⟩
      case rest =>
       clear HC7
       try clear c1
       try clear c2
       try clear p2
       try clear q2
       try clear hx2
       try clear c3
       try clear c4
       try clear c4b0
       try clear c5
       try clear c5b0
       try clear c6
       try clear c6b0
       try clear p6
       try clear c7
       try clear c9
       try clear c12
       try clear c14
       try clear c14b0
       try clear c14b1
       try clear c15
       try clear c15b0
       try clear c15b1
       try clear c16
       try clear c16b0
       try clear c16b1
       try clear c17
       try clear c17b0
       try clear c19
       try clear p21
       try clear q21
       try clear hx21
       try clear c24
       try clear c29
       try clear c34
       try clear c34b0
       try clear c36
       try clear c41
       try clear c43
       try clear c45
       try clear c49
       try clear hcz10_0
       try clear hcz10_1
       try clear hcz20_0
       try clear hcz20_1
       try clear hcz21_0
       try clear hcz23_0
       try clear hcz23_1
       try clear hcz25_0
       try clear hcz25_1
       try clear hcz26_0
       try clear hcz28_0
       try clear hcz28_1
       try clear hcz30_0
       try clear hcz30_1
       try clear hcz31_0
       try clear hcz33_0
       try clear hcz33_1
       try clear hcz37_0
       try clear hcz37_1
       try clear hcz38_0
       try clear hcz3_0
       try clear hcz40_0
       try clear hcz40_1
       try clear hcz42_0
       try clear hcz42_1
       try clear hcz43_0
       try clear hcz46_0
       try clear hcz46_1
       try clear hcz47_0
       try clear hcz50_0
       try clear hcz50_1
       try clear hfz10_0
       try clear hfz10_1
       try clear hfz20_0
       try clear hfz20_1
       try clear hfz21_0
       try clear hfz23_0
       try clear hfz23_1
       try clear hfz25_0
       try clear hfz25_1
       try clear hfz26_0
       try clear hfz28_0
       try clear hfz28_1
       try clear hfz30_0
       try clear hfz30_1
       try clear hfz31_0
       try clear hfz33_0
       try clear hfz33_1
       try clear hfz37_0
       try clear hfz37_1
       try clear hfz38_0
       try clear hfz3_0
       try clear hfz40_0
       try clear hfz40_1
       try clear hfz42_0
       try clear hfz42_1
       try clear hfz43_0
       try clear hfz46_0
       try clear hfz46_1
       try clear hfz47_0
       try clear hfz50_0
       try clear hfz50_1
       try clear hx215_0
       try clear hx215_1
       try clear p2
       try clear p215
       try clear q215
       obtain ⟨kq, x45_6, rfl, HA, HJ6, BK213, BK216, HB⟩ := hcut
       cases kq with
       | zero => exact absurd HA.out (by simp [impl_ValidTree.j1])
       | succ kj6 =>
        have H := HA.out
        clear HA
        simp only [impl_ValidTree.j1] at H
        by_cases c51 : x45_6 = true
        ·subst c51
         have H1 : (some false) = some r := by rw [if_pos rfl] at H; exact H
         clear H
         have H := H1
         clear H1
         obtain rfl := Option.some.inj H
         go_wp2
         go_ret
         exact ⟨Y0, Y5⟩
        ·replace c51 := Bool.eq_false_iff.mpr c51
         subst c51
         have H1 : (impl_ValidTree.l0 kj6 l0_0 (l0_0.length : Int) (wrap64 (x8_1 + 1)) l0_0) = some r := by rw [if_neg (show ¬ (false = true) by decide)] at H; exact H
         clear H
         have H := H1
         clear H1
         have H' := am H
         clear H
         go_wp2
         go_roundg kj6
         case measure => have := HK1.out; have := HJ6.out; omega
         case rel => exact ⟨(wrap64 (x8_1 + 1)), (sq), H', ⟨by have := HK1.out; have := HJ6.out; omega⟩, ⟨kq BK213.out⟩, ⟨Y5⟩⟩
     ·rw [if_neg c6] at H
      exact absurd H (by simp)
    ·rw [if_neg c5] at H
     exact absurd H (by simp)
   ·rw [if_neg c4] at H
    have c4b0 : decide (x8_1 < (l0_0.length : Int)) = false := decide_eq_false c4
    clear c4
    replace H := Option.bind_eq_some_iff.mp H
    obtain ⟨t214, A520, H⟩ := H
    replace H : (some t214) = some r := H
    have A52 := am A520
    clear A520
    obtain rfl := Option.some.inj H
    have hcz53_0 := bc0 BK213.out
    have hfz53_0 := blk_frozen BK213.out 0
    go_wp2_with (first | ((with_reducible refine gate_callee (f := 45) rfl ?_); refine gL (some 50) Try.func45 #[.int .i64 (l0_0.length : Int), .int .i64 1, .int .i64 8] ?_; (with_reducible refine (impl_within.calls (l0_0.length : Int) 1 8 t214 _ A52.out).mono ?_); rintro e w' ⟨rfl, ⟨nd, rfl⟩⟩; refine ⟨_, rfl, ?_⟩))
    go_ret
    exact ⟨Y0, Y32⟩
def impl_Tree_has.f (l0_0 : List (S98)) (a1 : Int) : Option (Bool) := (impl_within.f a1 0 (wrap64 ((l0_0.length : Int) - 1))).bind fun t222 => (some t222)
set_option maxHeartbeats 8000000 in
set_option maxRecDepth 100000 in
theorem impl_Tree_has.calls (A0_0 : Option Addr) (c0_0 : Nat) (l0_0 : List (S98)) (a1 : Int) (r : Bool) (w : World) (hr0_0 : Kd.C k98 w A0_0 l0_0.length l0_0) (hc0_0 : l0_0.length ≤ c0_0) (h : impl_Tree_has.f l0_0 a1 = some r) :
  Calls Try.prog 50 #[.agg #[.slice A0_0 l0_0.length c0_0], .int .i64 a1] w fun e w' => e = .returned (.bool r) ∧ Below w.heap.size w w' := by
 have hu32 := Try.underlying32
 have HR0_0 := am hr0_0
 have HC0_0 := am hc0_0
 clear hr0_0 hc0_0
 have HB := am (Below.refl w.heap.size w)
 have H : ((impl_within.f a1 0 (wrap64 ((l0_0.length : Int) - 1))).bind fun t222 => (some t222)) = some r := h
 clear h
 replace H := Option.bind_eq_some_iff.mp H
 obtain ⟨t222, A30, H⟩ := H
 replace H : (some t222) = some r := H
 have A3 := am A30
 clear A30
 obtain rfl := Option.some.inj H
 go_enter Try.func50, Try.ntmps50
 go_wp2_with (first | ((with_reducible refine gate_dst (N := 2) rfl ?_); refine bE (N := 2) (cs := #[.slice A0_0 l0_0.length c0_0]) (t := 32) ?_; intro gb221 hg w4 hbox hb; have BK221 := am (hbox); have GW221 := am ((Y1 : w.heap.size ≤ gb221)); have GE221 := am ((Y1 : w.heap.size ≤ gb221)); replace HB := am (below_step (bq) hb); clear hb hbox hg; have hcz5_0 := bc0 BK221.out; have hfz5_0 := blk_frozen BK221.out 0) | ((with_reducible refine gate_callee (f := 45) rfl ?_); refine gL (some 10) Try.func45 #[.int .i64 a1, .int .i64 0, .int .i64 (wrap64 ((l0_0.length : Int) - 1))] ?_; (with_reducible refine (impl_within.calls a1 0 (wrap64 ((l0_0.length : Int) - 1)) t222 _ A3.out).mono ?_); rintro e w' ⟨rfl, ⟨nd, rfl⟩⟩; refine ⟨_, rfl, ?_⟩))
 go_ret
 exact ⟨Y0, by repeat (first | (with_reducible first | exact HB.out | apply below_alloc | apply pw_below_drewN | apply below_drew1 | refine below_set ?_ GE221.out) | exact HB.out)⟩
def impl_codeOk.f (a0 : Int) : Option (Bool) := (impl_within.f a0 0 99).bind fun t223 => (some t223)
set_option maxHeartbeats 8000000 in
set_option maxRecDepth 100000 in
theorem impl_codeOk.calls (a0 : Int) (r : Bool) (w : World) (h : impl_codeOk.f a0 = some r) :
  Calls Try.prog 75 #[.int .i64 a0] w fun e w' => e = .returned (.bool r) ∧ Drawn0 w w' := by
 have H : ((impl_within.f a0 0 99).bind fun t223 => (some t223)) = some r := h
 clear h
 replace H := Option.bind_eq_some_iff.mp H
 obtain ⟨t223, A20, H⟩ := H
 replace H : (some t223) = some r := H
 have A2 := am A20
 clear A20
 obtain rfl := Option.some.inj H
 go_enter Try.func75, Try.ntmps75
 go_wp2_with (first | ((with_reducible refine gate_callee (f := 45) rfl ?_); refine gL (some 4) Try.func45 #[.int .i64 a0, .int .i64 0, .int .i64 99] ?_; (with_reducible refine (impl_within.calls a0 0 99 t223 _ A2.out).mono ?_); rintro e w' ⟨rfl, ⟨nd, rfl⟩⟩; refine ⟨_, rfl, ?_⟩))
 go_ret
 exact ⟨sq, Y2⟩
def impl_Line_argued.j0 : Nat → Int → Bool → Int → Int → Int → Int → List (S98) → Option (Bool)
 | 0, _, _, _, _, _, _, _ => none
 | k + 1, x6, x7, x225000, x225001, x225002, x225003, x226000 => if x7 = true then ((impl_codeOk.f x225002).bind fun t226 => (if t226 = true then (some (x225003 == 0)) else (some false))) else (if x6 = 2 then ((impl_Tree_has.f x226000 x225002).bind fun t227 => (if t227 = true then ((impl_codeOk.f x225003).bind fun t228 => (some t228)) else (some false))) else (if x6 = 8 then ((impl_Tree_has.f x226000 x225002).bind fun t229 => (if t229 = true then (some (x225003 == 0)) else (some false))) else (if x6 = 11 then ((impl_within.f x225002 0 9).bind fun t230 => (if t230 = true then ((impl_within.f x225003 0 1).bind fun t231 => (some t231)) else (some false))) else (if x6 = 12 then ((impl_within.f x225002 0 3).bind fun t232 => (if t232 = true then (some (x225003 == 0)) else (some false))) else ((impl_within.f x225001 0 12).bind fun t233 => (if t233 = true then (if x225002 = 0 then (some (x225003 == 0)) else (some false)) else (some false)))))))
def impl_Line_argued.f (k : Nat) (a0_0 : Int) (a0_1 : Int) (a0_2 : Int) (a0_3 : Int) (l1_0 : List (S98)) : Option (Bool) := if a0_1 = 1 then (impl_Line_argued.j0 k a0_1 (a0_1 == 1) a0_0 a0_1 a0_2 a0_3 l1_0) else (impl_Line_argued.j0 k a0_1 (a0_1 == 4) a0_0 a0_1 a0_2 a0_3 l1_0)
set_option maxHeartbeats 8000000 in
set_option maxRecDepth 100000 in
theorem impl_Line_argued.calls (k : Nat) (a0_0 : Int) (a0_1 : Int) (a0_2 : Int) (a0_3 : Int) (A1_0 : Option Addr) (c1_0 : Nat) (l1_0 : List (S98)) (r : Bool) (w : World) (hr1_0 : Kd.C k98 w A1_0 l1_0.length l1_0) (hc1_0 : l1_0.length ≤ c1_0) (h : impl_Line_argued.f k a0_0 a0_1 a0_2 a0_3 l1_0 = some r) :
  Calls Try.prog 44 #[.agg #[.int .i64 a0_0, .int .i64 a0_1, .int .i64 a0_2, .int .i64 a0_3], .agg #[.slice A1_0 l1_0.length c1_0]] w fun e w' => e = .returned (.bool r) ∧ Below w.heap.size w w' := by
 have hu59 := Try.underlying59
 have hu32 := Try.underlying32
 have HR1_0 := am hr1_0
 have HC1_0 := am hc1_0
 clear hr1_0 hc1_0
 have HB := am (Below.refl w.heap.size w)
 have H : (if a0_1 = 1 then (impl_Line_argued.j0 k a0_1 (a0_1 == 1) a0_0 a0_1 a0_2 a0_3 l1_0) else (impl_Line_argued.j0 k a0_1 (a0_1 == 4) a0_0 a0_1 a0_2 a0_3 l1_0)) = some r := h
 clear h
 have HC3 := am H
 clear H
 go_enter Try.func44, Try.ntmps44
 go_upto_if 7 with (first | ((with_reducible refine gate_dst (N := 2) rfl ?_); refine bE (N := 2) (cs := #[.int .i64 a0_0, .int .i64 a0_1, .int .i64 a0_2, .int .i64 a0_3]) (t := 59) ?_; intro gb224 hg w4 hbox hb; have BK224 := am (hbox); have GW224 := am ((Y1 : w.heap.size ≤ gb224)); have GE224 := am ((Y1 : w.heap.size ≤ gb224)); replace HB := am (below_step (bq) hb); clear hb hbox hg) | ((with_reducible refine gate_dst (N := 3) rfl ?_); refine bE (N := 3) (cs := #[.slice A1_0 l1_0.length c1_0]) (t := 32) ?_; intro gb225 hg w5 hbox hb; have BK225 := am (hbox); have GW225 := am ((Y49 : w.heap.size ≤ gb225)); have GE225 := am ((Y49 : w.heap.size ≤ gb225)); have NB224_225 := am ((by rw [hg]; exact Nat.ne_of_lt (blk_lt (g := gb224) (o := .cells #[.int .i64 a0_0, .int .i64 a0_1, .int .i64 a0_2, .int .i64 a0_3] 59 (0, 0)) (kq BK224.out)) : gb224 ≠ gb225)); have NB225_224 := am ((by rw [hg]; exact Nat.ne_of_gt (blk_lt (g := gb224) (o := .cells #[.int .i64 a0_0, .int .i64 a0_1, .int .i64 a0_2, .int .i64 a0_3] 59 (0, 0)) (kq BK224.out)) : gb225 ≠ gb224)); replace BK224 := am (blk_below (g := gb224) (o := .cells #[.int .i64 a0_0, .int .i64 a0_1, .int .i64 a0_2, .int .i64 a0_3] 59 (0, 0)) (kq BK224.out) hb); replace HB := am (below_step (by repeat (first | (with_reducible first | exact HB.out | apply below_alloc | apply pw_below_drewN | apply below_drew1 | refine below_set ?_ GE224.out) | exact HB.out)) hb); clear hb hbox hg; have hnb6 := NB224_225.out; have hnc6 := NB225_224.out; have hcz7_0 := bc0 BK224.out; have hcz7_1 := bc1 BK224.out; have hcz7_2 := bc2 BK224.out; have hcz7_3 := bc3 BK224.out; have hfz7_0 := blk_frozen BK224.out 0; have hfz7_1 := blk_frozen BK224.out 1; have hfz7_2 := blk_frozen BK224.out 2; have hfz7_3 := blk_frozen BK224.out 3))
 (try simp only [Act.put, List.setIfInBounds_toArray, List.set_cons_zero, List.set_cons_succ])
 go_cut [7] (fun v7 wc => ∃ (kq : Nat) (x7_2 : Bool), v7 = .bool x7_2 ∧ Aside0 (impl_Line_argued.j0 kq a0_1 x7_2 a0_0 a0_1 a0_2 a0_3 l1_0 = some r) ∧ Aside0 (kq ≤ k) ∧ Aside0 (wc.heap[gb224]? = some (.cells #[.int .i64 a0_0, .int .i64 a0_1, .int .i64 a0_2, .int .i64 a0_3] 59 (0, 0))) ∧ Aside0 (wc.heap[gb225]? = some (.cells #[(.slice A1_0 l1_0.length c1_0)] 32 (0, 0))) ∧ Aside0 (Below w.heap.size w wc))
 case first =>
  have H := HC3.out
  clear HC3
  by_cases c8 : a0_1 = 1
  ·rw [if_pos c8] at H
   have c8b0 : (a0_1 == 1) = true := beq_iff_eq.mpr c8
   have c8b1 : (a0_1 != 1) = false := bne_eq_false_iff_eq.mpr c8
   clear c8
   (first | rw [c8b0] | (simp only [i64_w, i32_w]; rw [c8b0]) | skip)
   have H' := am H
   clear H
   go_wp2
   go_meet
   case rel => exact ⟨_, ((a0_1 == 1)), (sq), H', ⟨Y14⟩, ⟨kq BK224.out⟩, ⟨kq BK225.out⟩, ⟨Y8⟩⟩
  ·rw [if_neg c8] at H
   have c8b0 : (a0_1 == 1) = false := beq_eq_false_iff_ne.mpr c8
   have c8b1 : (a0_1 != 1) = true := bne_iff_ne.mpr c8
   (first | rw [c8b0] | (simp only [i64_w, i32_w]; rw [c8b0]) | skip)
   have H' := am H
   clear H
   go_wp2
   go_meet
   case rel => exact ⟨_, ((a0_1 == 4)), (sq), H', ⟨Y14⟩, ⟨kq BK224.out⟩, ⟨kq BK225.out⟩, ⟨Y8⟩⟩
 case rest =>
  clear HC3
  try clear c1
  try clear p2
  try clear c4
  try clear c6
  try clear c8
  try clear c8b0
  try clear c8b1
  try clear hcz7_0
  try clear hcz7_1
  try clear hcz7_2
  try clear hcz7_3
  try clear hfz7_0
  try clear hfz7_1
  try clear hfz7_2
  try clear hfz7_3
  obtain ⟨kq, x7_2, rfl, HA, HJ2, BK224, BK225, HB⟩ := hcut
  cases kq with
  | zero => exact absurd HA.out (by simp [impl_Line_argued.j0])
  | succ kj2 =>
   have H := HA.out
   clear HA
   simp only [impl_Line_argued.j0] at H
   by_cases c9 : x7_2 = true
   ·subst c9
    have H1 : ((impl_codeOk.f a0_2).bind fun t226 => (if t226 = true then (some (a0_3 == 0)) else (some false))) = some r := by rw [if_pos rfl] at H; exact H
    clear H
    have H := H1
    clear H1
    replace H := Option.bind_eq_some_iff.mp H
    obtain ⟨t226, A100, H⟩ := H
    replace H : (if t226 = true then (some (a0_3 == 0)) else (some false)) = some r := H
    have A10 := am A100
    clear A100
    by_cases c11 : t226 = true
    ·subst c11
     have H1 : (some (a0_3 == 0)) = some r := by rw [if_pos rfl] at H; exact H
     clear H
     have H := H1
     clear H1
     obtain rfl := Option.some.inj H
     have hnb12 := NB224_225.out
     have hnc12 := NB225_224.out
     have hcz13_0 := bc0 BK224.out
     have hcz13_1 := bc1 BK224.out
     have hcz13_2 := bc2 BK224.out
     have hcz13_3 := bc3 BK224.out
     have hfz13_0 := blk_frozen BK224.out 0
     have hfz13_1 := blk_frozen BK224.out 1
     have hfz13_2 := blk_frozen BK224.out 2
     have hfz13_3 := blk_frozen BK224.out 3
     go_wp2_with (first | ((with_reducible refine gate_callee (f := 75) rfl ?_); refine gL (some 12) Try.func75 #[.int .i64 a0_2] ?_; (with_reducible refine (impl_codeOk.calls a0_2 true _ A10.out).mono ?_); rintro e w' ⟨rfl, ⟨nd, rfl⟩⟩; refine ⟨_, rfl, ?_⟩))
     go_ret
     exact ⟨Y0, Y8⟩
    ·replace c11 := Bool.eq_false_iff.mpr c11
     subst c11
     have H1 : (some false) = some r := by rw [if_neg (show ¬ (false = true) by decide)] at H; exact H
     clear H
     have H := H1
     clear H1
     obtain rfl := Option.some.inj H
     have hnb14 := NB224_225.out
     have hnc14 := NB225_224.out
     have hcz15_0 := bc0 BK224.out
     have hcz15_1 := bc1 BK224.out
     have hcz15_2 := bc2 BK224.out
     have hcz15_3 := bc3 BK224.out
     have hfz15_0 := blk_frozen BK224.out 0
     have hfz15_1 := blk_frozen BK224.out 1
     have hfz15_2 := blk_frozen BK224.out 2
     have hfz15_3 := blk_frozen BK224.out 3
     go_wp2_with (first | ((with_reducible refine gate_callee (f := 75) rfl ?_); refine gL (some 12) Try.func75 #[.int .i64 a0_2] ?_; (with_reducible refine (impl_codeOk.calls a0_2 false _ A10.out).mono ?_); rintro e w' ⟨rfl, ⟨nd, rfl⟩⟩; refine ⟨_, rfl, ?_⟩))
     go_ret
     exact ⟨Y0, Y8⟩
   ·replace c9 := Bool.eq_false_iff.mpr c9
    subst c9
    have H1 : (if a0_1 = 2 then ((impl_Tree_has.f l1_0 a0_2).bind fun t227 => (if t227 = true then ((impl_codeOk.f a0_3).bind fun t228 => (some t228)) else (some false))) else (if a0_1 = 8 then ((impl_Tree_has.f l1_0 a0_2).bind fun t229 => (if t229 = true then (some (a0_3 == 0)) else (some false))) else (if a0_1 = 11 then ((impl_within.f a0_2 0 9).bind fun t230 => (if t230 = true then ((impl_within.f a0_3 0 1).bind fun t231 => (some t231)) else (some false))) else (if a0_1 = 12 then ((impl_within.f a0_2 0 3).bind fun t232 => (if t232 = true then (some (a0_3 == 0)) else (some false))) else ((impl_within.f a0_1 0 12).bind fun t233 => (if t233 = true then (if a0_2 = 0 then (some (a0_3 == 0)) else (some false)) else (some false))))))) = some r := by rw [if_neg (show ¬ (false = true) by decide)] at H; exact H
    clear H
    have H := H1
    clear H1
    by_cases c16 : a0_1 = 2
    ·rw [if_pos c16] at H
     have c16b0 : (a0_1 == 2) = true := beq_iff_eq.mpr c16
     have c16b1 : (a0_1 != 2) = false := bne_eq_false_iff_eq.mpr c16
     clear c16
     replace H := Option.bind_eq_some_iff.mp H
     obtain ⟨t227, A170, H⟩ := H
     replace H : (if t227 = true then ((impl_codeOk.f a0_3).bind fun t228 => (some t228)) else (some false)) = some r := H
     have A17 := am A170
     clear A170
     by_cases c18 : t227 = true
     ·subst c18
      have H1 : ((impl_codeOk.f a0_3).bind fun t228 => (some t228)) = some r := by rw [if_pos rfl] at H; exact H
      clear H
      have H := H1
      clear H1
      replace H := Option.bind_eq_some_iff.mp H
      obtain ⟨t228, A190, H⟩ := H
      replace H : (some t228) = some r := H
      have A19 := am A190
      clear A190
      obtain rfl := Option.some.inj H
      have hnb20 := NB225_224.out
      have hnc20 := NB224_225.out
      have hcz21_0 := bc0 BK225.out
      have hfz21_0 := blk_frozen BK225.out 0
      have hcz22_0 := bc0 BK224.out
      have hcz22_1 := bc1 BK224.out
      have hcz22_2 := bc2 BK224.out
      have hcz22_3 := bc3 BK224.out
      have hfz22_0 := blk_frozen BK224.out 0
      have hfz22_1 := blk_frozen BK224.out 1
      have hfz22_2 := blk_frozen BK224.out 2
      have hfz22_3 := blk_frozen BK224.out 3
      go_wp2_with (first | ((with_reducible refine gate_callee (f := 50) rfl ?_); refine gL (some 23) Try.func50 #[.agg #[.slice A1_0 l1_0.length c1_0], .int .i64 a0_2] ?_; (with_reducible refine (impl_Tree_has.calls _ _ l1_0 a0_2 true _ ?side1 ?side2 A17.out).mono ?_); (case side1 => exact cq (Kd.C_below HR1_0.out HB.out)); (case side2 => exact HC1_0.out); rintro e w23 ⟨rfl, hb⟩; refine ⟨_, rfl, ?_⟩; replace BK224 := am (blk_below (g := gb224) (o := .cells #[.int .i64 a0_0, .int .i64 a0_1, .int .i64 a0_2, .int .i64 a0_3] 59 (0, 0)) (kq BK224.out) hb); replace BK225 := am (blk_below (g := gb225) (o := .cells #[.slice A1_0 l1_0.length c1_0] 32 (0, 0)) (kq BK225.out) hb); replace HB := am (below_step (Y8) hb); (try clear hb); (try clear hb2); (try clear hk); (try clear hi); have hcz24_0 := bc0 BK224.out; have hcz24_1 := bc1 BK224.out; have hcz24_2 := bc2 BK224.out; have hcz24_3 := bc3 BK224.out; have hfz24_0 := blk_frozen BK224.out 0; have hfz24_1 := blk_frozen BK224.out 1; have hfz24_2 := blk_frozen BK224.out 2; have hfz24_3 := blk_frozen BK224.out 3) | (go_at_call 75; (with_reducible refine (impl_codeOk.calls a0_3 t228 _ A19.out).mono ?_); rintro e w' ⟨rfl, ⟨nd, rfl⟩⟩))
      go_ret
      exact ⟨Y0, Y8⟩
     ·replace c18 := Bool.eq_false_iff.mpr c18
      subst c18
      have H1 : (some false) = some r := by rw [if_neg (show ¬ (false = true) by decide)] at H; exact H
      clear H
      have H := H1
      clear H1
      obtain rfl := Option.some.inj H
      have hnb25 := NB225_224.out
      have hnc25 := NB224_225.out
      have hcz26_0 := bc0 BK225.out
      have hfz26_0 := blk_frozen BK225.out 0
      have hcz27_0 := bc0 BK224.out
      have hcz27_1 := bc1 BK224.out
      have hcz27_2 := bc2 BK224.out
      have hcz27_3 := bc3 BK224.out
      have hfz27_0 := blk_frozen BK224.out 0
      have hfz27_1 := blk_frozen BK224.out 1
      have hfz27_2 := blk_frozen BK224.out 2
      have hfz27_3 := blk_frozen BK224.out 3
      go_wp2_with (first | ((with_reducible refine gate_callee (f := 50) rfl ?_); refine gL (some 23) Try.func50 #[.agg #[.slice A1_0 l1_0.length c1_0], .int .i64 a0_2] ?_; (with_reducible refine (impl_Tree_has.calls _ _ l1_0 a0_2 false _ ?side1 ?side2 A17.out).mono ?_); (case side1 => exact cq (Kd.C_below HR1_0.out HB.out)); (case side2 => exact HC1_0.out); rintro e w28 ⟨rfl, hb⟩; refine ⟨_, rfl, ?_⟩; replace BK224 := am (blk_below (g := gb224) (o := .cells #[.int .i64 a0_0, .int .i64 a0_1, .int .i64 a0_2, .int .i64 a0_3] 59 (0, 0)) (kq BK224.out) hb); replace BK225 := am (blk_below (g := gb225) (o := .cells #[.slice A1_0 l1_0.length c1_0] 32 (0, 0)) (kq BK225.out) hb); replace HB := am (below_step (Y8) hb); (try clear hb); (try clear hb2); (try clear hk); (try clear hi)))
      go_ret
      exact ⟨Y0, Y8⟩
    ·rw [if_neg c16] at H
     have c16b0 : (a0_1 == 2) = false := beq_eq_false_iff_ne.mpr c16
     have c16b1 : (a0_1 != 2) = true := bne_iff_ne.mpr c16
     by_cases c29 : a0_1 = 8
     ·rw [if_pos c29] at H
      have c29b0 : (a0_1 == 8) = true := beq_iff_eq.mpr c29
      have c29b1 : (a0_1 != 8) = false := bne_eq_false_iff_eq.mpr c29
      clear c29
      replace H := Option.bind_eq_some_iff.mp H
      obtain ⟨t229, A300, H⟩ := H
      replace H : (if t229 = true then (some (a0_3 == 0)) else (some false)) = some r := H
      have A30 := am A300
      clear A300
      by_cases c31 : t229 = true
      ·subst c31
       have H1 : (some (a0_3 == 0)) = some r := by rw [if_pos rfl] at H; exact H
       clear H
       have H := H1
       clear H1
       obtain rfl := Option.some.inj H
       have hnb32 := NB225_224.out
       have hnc32 := NB224_225.out
       have hcz33_0 := bc0 BK225.out
       have hfz33_0 := blk_frozen BK225.out 0
       have hcz34_0 := bc0 BK224.out
       have hcz34_1 := bc1 BK224.out
       have hcz34_2 := bc2 BK224.out
       have hcz34_3 := bc3 BK224.out
       have hfz34_0 := blk_frozen BK224.out 0
       have hfz34_1 := blk_frozen BK224.out 1
       have hfz34_2 := blk_frozen BK224.out 2
       have hfz34_3 := blk_frozen BK224.out 3
       go_wp2_with (first | ((with_reducible refine gate_callee (f := 50) rfl ?_); refine gL (some 34) Try.func50 #[.agg #[.slice A1_0 l1_0.length c1_0], .int .i64 a0_2] ?_; (with_reducible refine (impl_Tree_has.calls _ _ l1_0 a0_2 true _ ?side1 ?side2 A30.out).mono ?_); (case side1 => exact cq (Kd.C_below HR1_0.out HB.out)); (case side2 => exact HC1_0.out); rintro e w35 ⟨rfl, hb⟩; refine ⟨_, rfl, ?_⟩; replace BK224 := am (blk_below (g := gb224) (o := .cells #[.int .i64 a0_0, .int .i64 a0_1, .int .i64 a0_2, .int .i64 a0_3] 59 (0, 0)) (kq BK224.out) hb); replace BK225 := am (blk_below (g := gb225) (o := .cells #[.slice A1_0 l1_0.length c1_0] 32 (0, 0)) (kq BK225.out) hb); replace HB := am (below_step (Y8) hb); (try clear hb); (try clear hb2); (try clear hk); (try clear hi); have hcz36_0 := bc0 BK224.out; have hcz36_1 := bc1 BK224.out; have hcz36_2 := bc2 BK224.out; have hcz36_3 := bc3 BK224.out; have hfz36_0 := blk_frozen BK224.out 0; have hfz36_1 := blk_frozen BK224.out 1; have hfz36_2 := blk_frozen BK224.out 2; have hfz36_3 := blk_frozen BK224.out 3))
       go_ret
       exact ⟨Y0, Y8⟩
      ·replace c31 := Bool.eq_false_iff.mpr c31
       subst c31
       have H1 : (some false) = some r := by rw [if_neg (show ¬ (false = true) by decide)] at H; exact H
       clear H
       have H := H1
       clear H1
       obtain rfl := Option.some.inj H
       have hnb37 := NB225_224.out
       have hnc37 := NB224_225.out
       have hcz38_0 := bc0 BK225.out
       have hfz38_0 := blk_frozen BK225.out 0
       have hcz39_0 := bc0 BK224.out
       have hcz39_1 := bc1 BK224.out
       have hcz39_2 := bc2 BK224.out
       have hcz39_3 := bc3 BK224.out
       have hfz39_0 := blk_frozen BK224.out 0
       have hfz39_1 := blk_frozen BK224.out 1
       have hfz39_2 := blk_frozen BK224.out 2
       have hfz39_3 := blk_frozen BK224.out 3
       go_wp2_with (first | ((with_reducible refine gate_callee (f := 50) rfl ?_); refine gL (some 34) Try.func50 #[.agg #[.slice A1_0 l1_0.length c1_0], .int .i64 a0_2] ?_; (with_reducible refine (impl_Tree_has.calls _ _ l1_0 a0_2 false _ ?side1 ?side2 A30.out).mono ?_); (case side1 => exact cq (Kd.C_below HR1_0.out HB.out)); (case side2 => exact HC1_0.out); rintro e w40 ⟨rfl, hb⟩; refine ⟨_, rfl, ?_⟩; replace BK224 := am (blk_below (g := gb224) (o := .cells #[.int .i64 a0_0, .int .i64 a0_1, .int .i64 a0_2, .int .i64 a0_3] 59 (0, 0)) (kq BK224.out) hb); replace BK225 := am (blk_below (g := gb225) (o := .cells #[.slice A1_0 l1_0.length c1_0] 32 (0, 0)) (kq BK225.out) hb); replace HB := am (below_step (Y8) hb); (try clear hb); (try clear hb2); (try clear hk); (try clear hi)))
       go_ret
       exact ⟨Y0, Y8⟩
     ·rw [if_neg c29] at H
      have c29b0 : (a0_1 == 8) = false := beq_eq_false_iff_ne.mpr c29
      have c29b1 : (a0_1 != 8) = true := bne_iff_ne.mpr c29
      by_cases c41 : a0_1 = 11
      ·rw [if_pos c41] at H
       have c41b0 : (a0_1 == 11) = true := beq_iff_eq.mpr c41
       have c41b1 : (a0_1 != 11) = false := bne_eq_false_iff_eq.mpr c41
       clear c41
       replace H := Option.bind_eq_some_iff.mp H
       obtain ⟨t230, A420, H⟩ := H
       replace H : (if t230 = true then ((impl_within.f a0_3 0 1).bind fun t231 => (some t231)) else (some false)) = some r := H
       have A42 := am A420
       clear A420
       by_cases c43 : t230 = true
       ·subst c43
        have H1 : ((impl_within.f a0_3 0 1).bind fun t231 => (some t231)) = some r := by rw [if_pos rfl] at H; exact H
        clear H
        have H := H1
        clear H1
        replace H := Option.bind_eq_some_iff.mp H
        obtain ⟨t231, A440, H⟩ := H
        replace H : (some t231) = some r := H
        have A44 := am A440
        clear A440
        obtain rfl := Option.some.inj H
        have hnb45 := NB224_225.out
        have hnc45 := NB225_224.out
        have hcz46_0 := bc0 BK224.out
        have hcz46_1 := bc1 BK224.out
        have hcz46_2 := bc2 BK224.out
        have hcz46_3 := bc3 BK224.out
        have hfz46_0 := blk_frozen BK224.out 0
        have hfz46_1 := blk_frozen BK224.out 1
        have hfz46_2 := blk_frozen BK224.out 2
        have hfz46_3 := blk_frozen BK224.out 3
        go_wp2_with (first | ((with_reducible refine gate_callee (f := 45) rfl ?_); refine gL (some 44) Try.func45 #[.int .i64 a0_2, .int .i64 0, .int .i64 9] ?_; (with_reducible refine (impl_within.calls a0_2 0 9 true _ A42.out).mono ?_); rintro e w' ⟨rfl, ⟨nd, rfl⟩⟩; refine ⟨_, rfl, ?_⟩) | (go_at_call 45; (with_reducible refine (impl_within.calls a0_3 0 1 t231 _ A44.out).mono ?_); rintro e w' ⟨rfl, ⟨nd, rfl⟩⟩))
        go_ret
        exact ⟨Y0, Y8⟩
       ·replace c43 := Bool.eq_false_iff.mpr c43
        subst c43
        have H1 : (some false) = some r := by rw [if_neg (show ¬ (false = true) by decide)] at H; exact H
        clear H
        have H := H1
        clear H1
        obtain rfl := Option.some.inj H
        have hnb47 := NB224_225.out
        have hnc47 := NB225_224.out
        have hcz48_0 := bc0 BK224.out
        have hcz48_1 := bc1 BK224.out
        have hcz48_2 := bc2 BK224.out
        have hcz48_3 := bc3 BK224.out
        have hfz48_0 := blk_frozen BK224.out 0
        have hfz48_1 := blk_frozen BK224.out 1
        have hfz48_2 := blk_frozen BK224.out 2
        have hfz48_3 := blk_frozen BK224.out 3
        go_wp2_with (first | ((with_reducible refine gate_callee (f := 45) rfl ?_); refine gL (some 44) Try.func45 #[.int .i64 a0_2, .int .i64 0, .int .i64 9] ?_; (with_reducible refine (impl_within.calls a0_2 0 9 false _ A42.out).mono ?_); rintro e w' ⟨rfl, ⟨nd, rfl⟩⟩; refine ⟨_, rfl, ?_⟩))
        go_ret
        exact ⟨Y0, Y8⟩
      ·rw [if_neg c41] at H
       have c41b0 : (a0_1 == 11) = false := beq_eq_false_iff_ne.mpr c41
       have c41b1 : (a0_1 != 11) = true := bne_iff_ne.mpr c41
       by_cases c49 : a0_1 = 12
       ·rw [if_pos c49] at H
        have c49b0 : (a0_1 == 12) = true := beq_iff_eq.mpr c49
        have c49b1 : (a0_1 != 12) = false := bne_eq_false_iff_eq.mpr c49
        clear c49
        replace H := Option.bind_eq_some_iff.mp H
        obtain ⟨t232, A500, H⟩ := H
        replace H : (if t232 = true then (some (a0_3 == 0)) else (some false)) = some r := H
        have A50 := am A500
        clear A500
        by_cases c51 : t232 = true
        ·subst c51
         have H1 : (some (a0_3 == 0)) = some r := by rw [if_pos rfl] at H; exact H
         clear H
         have H := H1
         clear H1
         obtain rfl := Option.some.inj H
         have hnb52 := NB224_225.out
         have hnc52 := NB225_224.out
         have hcz53_0 := bc0 BK224.out
         have hcz53_1 := bc1 BK224.out
         have hcz53_2 := bc2 BK224.out
         have hcz53_3 := bc3 BK224.out
         have hfz53_0 := blk_frozen BK224.out 0
         have hfz53_1 := blk_frozen BK224.out 1
         have hfz53_2 := blk_frozen BK224.out 2
         have hfz53_3 := blk_frozen BK224.out 3
         go_wp2_with (first | ((with_reducible refine gate_callee (f := 45) rfl ?_); refine gL (some 54) Try.func45 #[.int .i64 a0_2, .int .i64 0, .int .i64 3] ?_; (with_reducible refine (impl_within.calls a0_2 0 3 true _ A50.out).mono ?_); rintro e w' ⟨rfl, ⟨nd, rfl⟩⟩; refine ⟨_, rfl, ?_⟩))
         go_ret
         exact ⟨Y0, Y8⟩
        ·replace c51 := Bool.eq_false_iff.mpr c51
         subst c51
         have H1 : (some false) = some r := by rw [if_neg (show ¬ (false = true) by decide)] at H; exact H
         clear H
         have H := H1
         clear H1
         obtain rfl := Option.some.inj H
         have hnb54 := NB224_225.out
         have hnc54 := NB225_224.out
         have hcz55_0 := bc0 BK224.out
         have hcz55_1 := bc1 BK224.out
         have hcz55_2 := bc2 BK224.out
         have hcz55_3 := bc3 BK224.out
         have hfz55_0 := blk_frozen BK224.out 0
         have hfz55_1 := blk_frozen BK224.out 1
         have hfz55_2 := blk_frozen BK224.out 2
         have hfz55_3 := blk_frozen BK224.out 3
         go_wp2_with (first | ((with_reducible refine gate_callee (f := 45) rfl ?_); refine gL (some 54) Try.func45 #[.int .i64 a0_2, .int .i64 0, .int .i64 3] ?_; (with_reducible refine (impl_within.calls a0_2 0 3 false _ A50.out).mono ?_); rintro e w' ⟨rfl, ⟨nd, rfl⟩⟩; refine ⟨_, rfl, ?_⟩))
         go_ret
         exact ⟨Y0, Y8⟩
       ·rw [if_neg c49] at H
        have c49b0 : (a0_1 == 12) = false := beq_eq_false_iff_ne.mpr c49
        have c49b1 : (a0_1 != 12) = true := bne_iff_ne.mpr c49
        replace H := Option.bind_eq_some_iff.mp H
        obtain ⟨t233, A560, H⟩ := H
        replace H : (if t233 = true then (if a0_2 = 0 then (some (a0_3 == 0)) else (some false)) else (some false)) = some r := H
        have A56 := am A560
        clear A560
        by_cases c57 : t233 = true
        ·subst c57
         have H1 : (if a0_2 = 0 then (some (a0_3 == 0)) else (some false)) = some r := by rw [if_pos rfl] at H; exact H
         clear H
         have H := H1
         clear H1
         by_cases c58 : a0_2 = 0
         ·rw [if_pos c58] at H
          have c58b0 : (a0_2 == 0) = true := beq_iff_eq.mpr c58
          have c58b1 : (a0_2 != 0) = false := bne_eq_false_iff_eq.mpr c58
          clear c58
          obtain rfl := Option.some.inj H
          have hnb59 := NB224_225.out
          have hnc59 := NB225_224.out
          have hcz60_0 := bc0 BK224.out
          have hcz60_1 := bc1 BK224.out
          have hcz60_2 := bc2 BK224.out
          have hcz60_3 := bc3 BK224.out
          have hfz60_0 := blk_frozen BK224.out 0
          have hfz60_1 := blk_frozen BK224.out 1
          have hfz60_2 := blk_frozen BK224.out 2
          have hfz60_3 := blk_frozen BK224.out 3
          go_wp2_with (first | ((with_reducible refine gate_callee (f := 45) rfl ?_); refine gL (some 62) Try.func45 #[.int .i64 a0_1, .int .i64 0, .int .i64 12] ?_; (with_reducible refine (impl_within.calls a0_1 0 12 true _ A56.out).mono ?_); rintro e w' ⟨rfl, ⟨nd, rfl⟩⟩; refine ⟨_, rfl, ?_⟩))
          go_ret
          exact ⟨Y0, Y8⟩
         ·rw [if_neg c58] at H
          have c58b0 : (a0_2 == 0) = false := beq_eq_false_iff_ne.mpr c58
          have c58b1 : (a0_2 != 0) = true := bne_iff_ne.mpr c58
          obtain rfl := Option.some.inj H
          have hnb61 := NB224_225.out
          have hnc61 := NB225_224.out
          have hcz62_0 := bc0 BK224.out
          have hcz62_1 := bc1 BK224.out
          have hcz62_2 := bc2 BK224.out
          have hcz62_3 := bc3 BK224.out
          have hfz62_0 := blk_frozen BK224.out 0
          have hfz62_1 := blk_frozen BK224.out 1
          have hfz62_2 := blk_frozen BK224.out 2
          have hfz62_3 := blk_frozen BK224.out 3
          go_wp2_with (first | ((with_reducible refine gate_callee (f := 45) rfl ?_); refine gL (some 62) Try.func45 #[.int .i64 a0_1, .int .i64 0, .int .i64 12] ?_; (with_reducible refine (impl_within.calls a0_1 0 12 true _ A56.out).mono ?_); rintro e w' ⟨rfl, ⟨nd, rfl⟩⟩; refine ⟨_, rfl, ?_⟩))
          go_ret
          exact ⟨Y0, Y8⟩
        ·replace c57 := Bool.eq_false_iff.mpr c57
         subst c57
         have H1 : (some false) = some r := by rw [if_neg (show ¬ (false = true) by decide)] at H; exact H
         clear H
         have H := H1
         clear H1
         obtain rfl := Option.some.inj H
         have hnb63 := NB224_225.out
         have hnc63 := NB225_224.out
         have hcz64_0 := bc0 BK224.out
         have hcz64_1 := bc1 BK224.out
         have hcz64_2 := bc2 BK224.out
         have hcz64_3 := bc3 BK224.out
         have hfz64_0 := blk_frozen BK224.out 0
         have hfz64_1 := blk_frozen BK224.out 1
         have hfz64_2 := blk_frozen BK224.out 2
         have hfz64_3 := blk_frozen BK224.out 3
         go_wp2_with (first | ((with_reducible refine gate_callee (f := 45) rfl ?_); refine gL (some 62) Try.func45 #[.int .i64 a0_1, .int .i64 0, .int .i64 12] ?_; (with_reducible refine (impl_within.calls a0_1 0 12 false _ A56.out).mono ?_); rintro e w' ⟨rfl, ⟨nd, rfl⟩⟩; refine ⟨_, rfl, ?_⟩))
         go_ret
         exact ⟨Y0, Y8⟩
def impl_Line_opens.f (a0_0 : Int) (a0_1 : Int) (a0_2 : Int) (a0_3 : Int) : Option (Bool) := (impl_within.f a0_1 7 12).bind fun t235 => (some t235)
set_option maxHeartbeats 8000000 in
set_option maxRecDepth 100000 in
theorem impl_Line_opens.calls (a0_0 : Int) (a0_1 : Int) (a0_2 : Int) (a0_3 : Int) (r : Bool) (w : World) (h : impl_Line_opens.f a0_0 a0_1 a0_2 a0_3 = some r) :
  Calls Try.prog 46 #[.agg #[.int .i64 a0_0, .int .i64 a0_1, .int .i64 a0_2, .int .i64 a0_3]] w fun e w' => e = .returned (.bool r) ∧ Below w.heap.size w w' := by
 have hu59 := Try.underlying59
 have HB := am (Below.refl w.heap.size w)
 have H : ((impl_within.f a0_1 7 12).bind fun t235 => (some t235)) = some r := h
 clear h
 replace H := Option.bind_eq_some_iff.mp H
 obtain ⟨t235, A20, H⟩ := H
 replace H : (some t235) = some r := H
 have A2 := am A20
 clear A20
 obtain rfl := Option.some.inj H
 go_enter Try.func46, Try.ntmps46
 go_wp2_with (first | ((with_reducible refine gate_dst (N := 1) rfl ?_); refine bE (N := 1) (cs := #[.int .i64 a0_0, .int .i64 a0_1, .int .i64 a0_2, .int .i64 a0_3]) (t := 59) ?_; intro gb234 hg w3 hbox hb; have BK234 := am (hbox); have GW234 := am ((Y1 : w.heap.size ≤ gb234)); have GE234 := am ((Y1 : w.heap.size ≤ gb234)); replace HB := am (below_step (bq) hb); clear hb hbox hg; have hcz4_0 := bc0 BK234.out; have hcz4_1 := bc1 BK234.out; have hcz4_2 := bc2 BK234.out; have hcz4_3 := bc3 BK234.out; have hfz4_0 := blk_frozen BK234.out 0; have hfz4_1 := blk_frozen BK234.out 1; have hfz4_2 := blk_frozen BK234.out 2; have hfz4_3 := blk_frozen BK234.out 3) | ((with_reducible refine gate_callee (f := 45) rfl ?_); refine gL (some 5) Try.func45 #[.int .i64 a0_1, .int .i64 7, .int .i64 12] ?_; (with_reducible refine (impl_within.calls a0_1 7 12 t235 _ A2.out).mono ?_); rintro e w' ⟨rfl, ⟨nd, rfl⟩⟩; refine ⟨_, rfl, ?_⟩))
 go_ret
 exact ⟨Y0, by repeat (first | (with_reducible first | exact HB.out | apply below_alloc | apply pw_below_drewN | apply below_drew1 | refine below_set ?_ GE234.out) | exact HB.out)⟩
def impl_siblings.l0 : Nat → List (S59) → Int → List Int → Int → Option (List Int)
 | 0, _, _, _, _ => none
 | k + 1, x0, x2, x7, x8 => if x8 < x2 then (if x7.length < 17592186044416 then ((impl_endOf.f k x0 x8).bind fun t256 => (impl_siblings.l0 k x0 x2 (x7 ++ [x8]) t256)) else (none)) else (some x7)
def impl_siblings.f (k : Nat) (l0 : List (S59)) (a1 : Int) (a2 : Int) : Option (List Int) := impl_siblings.l0 k l0 a2 (([] : List Int)) a1
set_option maxHeartbeats 8000000 in
set_option maxRecDepth 100000 in
theorem impl_siblings.calls (k : Nat) (A0 : Option Addr) (c0 : Nat) (l0 : List (S59)) (a1 : Int) (a2 : Int) (r : List Int) (w : World) (hr0 : Kd.C k59 w A0 l0.length l0) (hc0 : l0.length ≤ c0) (h : impl_siblings.f k l0 a1 a2 = some r) :
  Calls Try.prog 76 #[.slice A0 l0.length c0, .int .i64 a1, .int .i64 a2] w fun e w' => ∃ v0_ : Value, e = .returned (v0_) ∧ Kd.R (Kd.int .i64) 3 w' w.heap.size (fun _ => True) v0_ r ∧ Below w.heap.size w w' := by
 have HR0 := am hr0
 have HC0 := am hc0
 clear hr0 hc0
 have HB := am (Below.refl w.heap.size w)
 have H : (impl_siblings.l0 k l0 a2 (([] : List Int)) a1) = some r := h
 clear h
 obtain ⟨y250, hy250⟩ : ∃ y_ : List Int, y_ = (([] : List Int)) := ⟨_, rfl⟩
 replace H : (impl_siblings.l0 k l0 a2 y250 a1) = some r := by first | (rw [hy250]; with_reducible exact H) | (have H2_ := (Option.bind_some _ _).symm.trans H; rw [hy250]; with_reducible exact H2_) | (have H2_ := (Option.bind_some _ _).symm.trans H; with_reducible exact H2_) | with_reducible exact H | (rw [hy250]; exact H) | exact H
 have Ny250 := am hy250
 clear hy250
 have H' := am H
 clear H
 go_enter Try.func76, Try.ntmps76
 go_wp2_with (first | ((with_reducible refine gate_dst (N := 9) rfl ?_); refine Kd.R_lit (Kd.int .i64) _ 3 ?hg (N := 9) ?hd (xs := ([] : List Int)) (inner := []) (ok := fun _ => True) (okp := fun _ => True) ?hr ?hp (fun _ hk => hk) trivial (Below.refl _ _) (Nat.le_refl _) (by simp) ?_; (case hd => rfl); (case hg => rfl); (case hr => exact Y6); (case hp => exact (Reps.none _ _)); intro v251 w4 ho5 hb hg_ hnew_; clear hg_ hnew_; (first | rw [← Ny250.out] at ho5 | (simp only [Int.reduceToNat] at ho5; rw [← Ny250.out] at ho5)); have HO252 := am (Kd.R_lower ho5 (below_size (bq))); replace HB := am (below_step (bq) hb); clear hb ho5))
 go_loopg [7, 8] k (fun kq v7 v8 w' => ∃ (x7_1 : List Int) (x8_1 : Int), v8 = .int .i64 x8_1 ∧ Aside0 (impl_siblings.l0 kq l0 a2 x7_1 x8_1 = some r) ∧ Aside0 (kq ≤ k) ∧ Aside0 (Kd.R (Kd.int .i64) 3 w' w.heap.size (fun _ => True) v7 x7_1) ∧ Aside0 (Below w.heap.size w w'))
 case atStart => exact ⟨(y250), (a1), (sq), H', ⟨Nat.le_refl _⟩, ⟨rq HO252.out⟩, ⟨bq⟩⟩
 case round =>
  clear H'
  try clear p2
  obtain ⟨x7_1, x8_1, rfl, HA, HK1, HO_7, HB⟩ := hrel
  cases gk with
  | zero => exact absurd HA.out (by simp [impl_siblings.l0])
  | succ k1 =>
   have H := HA.out
   clear HA
   simp only [impl_siblings.l0] at H
   by_cases c6 : x8_1 < a2
   ·rw [if_pos c6] at H
    have c6b0 : decide (x8_1 < a2) = true := decide_eq_true c6
    clear c6
    by_cases c7 : x7_1.length < 17592186044416
    ·rw [if_pos c7] at H
     have LMc7 := am c7
     clear c7
     obtain ⟨y253, hy253⟩ : ∃ y_ : List Int, y_ = (x7_1 ++ [x8_1]) := ⟨_, rfl⟩
     replace H : ((impl_endOf.f k1 l0 x8_1).bind fun t256 => (impl_siblings.l0 k1 l0 a2 y253 t256)) = some r := by first | (rw [hy253]; with_reducible exact H) | (have H2_ := (Option.bind_some _ _).symm.trans H; rw [hy253]; with_reducible exact H2_) | (have H2_ := (Option.bind_some _ _).symm.trans H; with_reducible exact H2_) | with_reducible exact H | (rw [hy253]; exact H) | exact H
     have Ny253 := am hy253
     clear hy253
     replace H := Option.bind_eq_some_iff.mp H
     obtain ⟨t256, A80, H⟩ := H
     replace H : (impl_siblings.l0 k1 l0 a2 y253 t256) = some r := H
     have A8 := am A80
     clear A80
     have H' := am H
     clear H
     go_wp2_with (first | ((with_reducible refine gate_builtin (b := .append) (xs := #[.tmp 17, .tmp 19]) rfl ?_); at_builtin; refine Kd.R_append (Kd.int .i64) (w0 := w) w.heap.size rfl (.tmp 17) (.tmp 19) 65 3 (.int .i64 0) 8 rfl Try.underlying65 info3 rfl (by decide) (by omega) u7 x7_1 x8_1 [.int .i64 x8_1] (fun _ => True) (fun _ => False) rfl rfl ?aP (fun _ hk => hk.elim) ?aF ?aO ?aB ?aS ?aL ?_; (case aP => exact rfl); (case aB => exact (bq)); (case aF => exact (fun _ _ => trivial)); (case aO => exact (rq HO_7.out)); (case aS => exact (below_size (bq))); (case aL => have := LMc7.out; omega); intro v254 w9 ho hb hg hat; rw [← Ny253.out] at ho; have n0_ := am (hb); have n1_ := am (ho); clear HB HO_7; have HB := n0_; have HO255 := n1_; clear n0_ n1_ ho hb hg hat) | ((with_reducible refine gate_callee (f := 34) rfl ?_); refine gL (some 16) Try.func34 #[.slice A0 l0.length c0, .int .i64 x8_1] ?_; (with_reducible refine (impl_endOf.calls k1 _ _ l0 x8_1 t256 _ ?side1 ?side2 A8.out).mono ?_); (case side1 => exact cq (Kd.C_below HR0.out HB.out)); (case side2 => exact HC0.out); rintro e w' ⟨rfl, ⟨nd, rfl⟩⟩; refine ⟨_, rfl, ?_⟩))
     go_roundg k1
     case measure => have := HK1.out; omega
     case rel => exact ⟨(y253), (t256), (sq), H', ⟨by have := HK1.out; omega⟩, ⟨rq HO255.out⟩, ⟨bq⟩⟩
    ·rw [if_neg c7] at H
     exact absurd H (by simp)
   ·rw [if_neg c6] at H
    have c6b0 : decide (x8_1 < a2) = false := decide_eq_false c6
    clear c6
    obtain rfl := Option.some.inj H
    go_wp2
    go_ret
    exact ⟨_, Y0, rq HO_7.out, bq⟩
def impl_tryOk.go (p : List S59) : List Int → Int → Int → Option (Option Int)
 | [], ex, _ => some (some ex)
 | k :: ks, ex, last => if 0 ≤ k then if k < (p.length : Int) then
   if (rd_T59 p k).f1 = 8 then if last ≤ 8 then impl_tryOk.go p ks (ex + 1) (rd_T59 p k).f1 else some none
   else if (rd_T59 p k).f1 = 9 then if last = 8 then impl_tryOk.go p ks ex (rd_T59 p k).f1 else some none
   else if (rd_T59 p k).f1 = 10 then if last < 10 then impl_tryOk.go p ks ex (rd_T59 p k).f1 else some none
   else some none
  else none else none
def impl_tryOk.f (l0 : List S59) (l1 : List Int) : Option Bool := if 1 ≤ l1.length then (impl_tryOk.go l0 (l1.drop 1) 0 7).bind fun r => match r with | none => some false | some ex => some (decide (1 < l1.length) && decide (ex ≤ 6)) else none
theorem impl_tryOk.step {p : List S59} {l : List Int} {k : Nat} {ex last : Int} {r : Option Int} (hk : k < l.length) (h : impl_tryOk.go p (l.drop k) ex last = some r) : impl_tryOk.go p (l[k] :: l.drop (k + 1)) ex last = some r := by
 rw [← List.drop_eq_getElem_cons hk]; exact h
set_option maxHeartbeats 8000000 in
set_option maxRecDepth 100000 in
theorem impl_tryOk.calls (A0 : Option Addr) (c0 : Nat) (l0 : List S59) (A1 : Option Addr) (c1 : Nat) (l1 : List Int) (r : Bool) (w : World) (hr0 : Kd.C k59 w A0 l0.length l0) (hc0 : l0.length ≤ c0) (hr1 : Kd.C (Kd.int .i64) w A1 l1.length l1) (hc1 : l1.length ≤ c1) (h : impl_tryOk.f l0 l1 = some r) :
  Calls Try.prog 77 #[.slice A0 l0.length c0, .slice A1 l1.length c1] w fun e w' => e = .returned (.bool r) ∧ Drawn0 w w' := by
 have hu59 := Try.underlying59
 have hm : l1.length ≤ 9223372036854775807 := Kd.C_max hr1
 simp only [impl_tryOk.f] at h
 by_cases h1 : 1 ≤ l1.length
 ·rw [if_pos h1] at h
  obtain ⟨q, hq, h⟩ := Option.bind_eq_some_iff.mp h
  have HR0 := am hr0
  have HR1 := am hr1
  have H0 := am hq
  have HZ := am h
  have h1b : (1 : Int) ≤ (l1.length : Int) := by omega
  obtain ⟨i03, hi03, _, hsz3, _⟩ := info_parts info3
  obtain ⟨A', hcut, hA', hC'⟩ := print_drop_of (P := Try.prog) (Value.int .i64) (0 : Int) 65 3 .i64 Try.underlying65 hi03 hsz3 A1 c1 l1 1 (by omega) h1b hc1
  replace hA' := hA' _ (Kd.reads_of_C hr1)
  rw [show ((1 : Int)).toNat = 1 from rfl] at hcut hA' hC'
  generalize hl2 : l1.drop 1 = l2 at hcut hA' hC' H0
  have hdl : l2.length < l1.length := by rw [← hl2, List.length_drop]; omega
  clear hl2
  have HS := am hA'
  clear hr0 hr1 hq h hA' hi03 hsz3
  go_enter Try.func77, Try.ntmps77
  go_wp2
  go_loop [5, 6, 13] (fun i5 i6 i13 => ∃ (k : Nat) (ex last : Int), i13 = .int .i64 k ∧ i5 = .int .i64 ex ∧ i6 = .int .i64 last ∧ k ≤ l2.length ∧ 0 ≤ ex ∧ ex ≤ (k : Int) ∧ Aside0 (impl_tryOk.go l0 (l2.drop k) ex last = some q)) (fun _ _ i13 => l2.length - (intOf i13).toNat)
  case atStart => exact ⟨0, 0, 7, rfl, rfl, rfl, Nat.zero_le _, by omega, by omega, H0⟩
  case round =>
   clear H0
   obtain ⟨k, ex, last, rfl, rfl, rfl, hk, hx0, hx1, HA⟩ := hrel
   by_cases hlt : k < l2.length
   ·have HB := am (impl_tryOk.step hlt HA.out)
    clear HA
    have HC := HS.out
    obtain ⟨ad, rfl, hx⟩ := Kd.at_int (Kd.C_of_reads (h1 := fun _ => rfl) HC) (k : Int) (by omega) (by omega)
    have hrd : rd l2 (k : Int) = l2[k] := by simp only [rd, Int.toNat_natCast, List.getD_eq_getElem?_getD, List.getElem?_eq_getElem hlt, Option.getD_some]
    rw [hrd, Int.toNat_natCast] at hx
    clear hrd HC
    have hgo := HB.out
    generalize l2[k] = x at hgo hx
    simp only [impl_tryOk.go] at hgo
    clear HB
    by_cases h0 : 0 ≤ x
    ·rw [if_pos h0] at hgo
     by_cases h2 : x < (l0.length : Int)
     ·rw [if_pos h2] at hgo
      obtain ⟨ad0, rfl, hy0, hy1, hy2, hy3⟩ := at_T59 HR0.out x h0 h2
      generalize hkd : (rd_T59 l0 x).f1 = kd at hgo hy1
      clear hkd
      have q2 := eq_true h2
      have q0 := eq_true h0
      clear h0 h2
      by_cases e8 : kd = 8
      ·subst e8
       rw [if_pos rfl] at hgo
       by_cases hl : last ≤ 8
       ·rw [if_pos hl] at hgo
        have hlb := decide_eq_true hl
        clear hl
        have HG := am hgo
        clear hgo HZ
        go_wp2
        go_round
        case rel => exact ⟨k + 1, ex + 1, _, by go_num, rfl, rfl, hlt, by omega, by omega, HG⟩
        case measure => simp [intOf]; omega
       ·rw [if_neg hl] at hgo
        have hlb := decide_eq_false hl
        clear hl
        obtain rfl : none = q := by simpa using hgo
        have HR := am (by simpa using HZ.out : r = false)
        clear hgo HZ
        go_wp2
        go_ret
        exact ⟨by rw [HR.out]; rfl, Drawn0.refl _⟩
      ·rw [if_neg e8] at hgo
       have e8b : (kd == 8) = false := beq_eq_false_iff_ne.2 e8
       clear e8
       by_cases e9 : kd = 9
       ·subst e9
        rw [if_pos rfl] at hgo
        by_cases hl : last = 8
        ·rw [if_pos hl] at hgo
         have hlb : (last == 8) = true := beq_iff_eq.2 hl
         clear hl
         have HG := am hgo
         clear hgo HZ
         go_wp2
         go_round
         case rel => exact ⟨k + 1, ex, _, by go_num, rfl, rfl, hlt, by omega, by omega, HG⟩
         case measure => simp [intOf]; omega
        ·rw [if_neg hl] at hgo
         have hlb : (last == 8) = false := beq_eq_false_iff_ne.2 hl
         clear hl
         obtain rfl : none = q := by simpa using hgo
         have HR := am (by simpa using HZ.out : r = false)
         clear hgo HZ
         go_wp2
         go_ret
         exact ⟨by rw [HR.out]; rfl, Drawn0.refl _⟩
       ·rw [if_neg e9] at hgo
        have e9b : (kd == 9) = false := beq_eq_false_iff_ne.2 e9
        clear e9
        by_cases e10 : kd = 10
        ·subst e10
         rw [if_pos rfl] at hgo
         by_cases hl : last < 10
         ·rw [if_pos hl] at hgo
          have hlb := decide_eq_true hl
          clear hl
          have HG := am hgo
          clear hgo HZ
          go_wp2
          go_round
          case rel => exact ⟨k + 1, ex, _, by go_num, rfl, rfl, hlt, by omega, by omega, HG⟩
          case measure => simp [intOf]; omega
         ·rw [if_neg hl] at hgo
          have hlb := decide_eq_false hl
          clear hl
          obtain rfl : none = q := by simpa using hgo
          have HR := am (by simpa using HZ.out : r = false)
          clear hgo HZ
          go_wp2
          go_ret
          exact ⟨by rw [HR.out]; rfl, Drawn0.refl _⟩
        ·rw [if_neg e10] at hgo
         have e10b : (kd == 10) = false := beq_eq_false_iff_ne.2 e10
         clear e10
         obtain rfl : none = q := by simpa using hgo
         have HR := am (by simpa using HZ.out : r = false)
         clear hgo HZ
         go_wp2
         go_ret
         exact ⟨by rw [HR.out]; rfl, Drawn0.refl _⟩
     ·rw [if_neg h2] at hgo
      cases hgo
    ·rw [if_neg h0] at hgo
     cases hgo
   ·have hgo := HA.out
    rw [List.drop_eq_nil_of_le (by omega)] at hgo
    obtain rfl : some ex = q := by simpa [impl_tryOk.go] using hgo
    clear hgo HA
    have HY := am (Option.some.inj HZ.out)
    clear HZ
    by_cases h1c : 1 < l1.length
    ·have hb1 := decide_eq_true h1c
     go_wp2
     go_ret
     exact ⟨by rw [← HY.out, hb1]; rfl, Drawn0.refl _⟩
    ·have hb1 := decide_eq_false h1c
     go_wp2
     go_ret
     exact ⟨by rw [← HY.out, hb1]; rfl, Drawn0.refl _⟩
 ·rw [if_neg h1] at h
  cases h
end Go.Proofs.Ytbcjbcjpoddkoaa.P
end
