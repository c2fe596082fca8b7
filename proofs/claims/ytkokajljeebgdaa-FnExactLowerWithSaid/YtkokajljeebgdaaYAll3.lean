/- One part of the proofs on this program: functions of the program as plain functions, that the code comes to them, and facts on them. -/
import Derived.Test.YtkokajljeebgdaaYAll1
import Derived.Test.YtkokajljeebgdaaYAll2
import Derived.Test.YtkokajljeebgdaaYWAuto
section
namespace Go.Proofs.Ytkokajljeebgdaa.P
open Go.RowKit Go.Proofs.YtkokajljeebgdaaW.PrintWords Go.Proofs.YtkokajljeebgdaaW.PrintLast Go.Proofs.YtkokajljeebgdaaW.PrintMore
attribute [local go_sem] max2_int min2_int max_two min_two max_three min_three max_four min_four isSome_cell_setCell
set_option linter.unusedVariables false
set_option linter.unusedSimpArgs false
mutual
def impl_tryFrom.l0 : Nat → List (S52) → Int → List Int → Int → Option (List Int)
 | 0, _, _, _, _ => none
 | k + 1, x0, x1, x5, x6 => if x6 < (x0.length : Int) then (if 0 ≤ x6 then (if 0 ≤ x1 then (if x1 < (x0.length : Int) then (if ((rd_T52 x0 x6).f0) = ((rd_T52 x0 x1).f0) then ((impl_within.f ((rd_T52 x0 x6).f1) 8 10).bind fun t300 => (impl_tryFrom.j1 k x0 x1 x5 x6 t300)) else (impl_tryFrom.j1 k x0 x1 x5 x6 false)) else (none)) else (none)) else (none)) else (impl_tryFrom.j1 k x0 x1 x5 x6 false)
def impl_tryFrom.j1 : Nat → List (S52) → Int → List Int → Int → Bool → Option (List Int)
 | 0, _, _, _, _, _ => none
 | k + 1, x0, x1, x5, x6, x36 => if x36 = true then (if x5.length < 17592186044416 then ((impl_endOf.f k x0 x6).bind fun t304 => (impl_tryFrom.l0 k x0 x1 (x5 ++ [x6]) t304)) else (none)) else (some x5)
end
def impl_tryFrom.f (k : Nat) (l0 : List (S52)) (a1 : Int) : Option (List Int) := (impl_endOf.f k l0 a1).bind fun t296 => (impl_tryFrom.l0 k l0 a1 (([a1] : List Int)) t296)
set_option maxHeartbeats 8000000 in
set_option maxRecDepth 100000 in
theorem impl_tryFrom.calls (k : Nat) (A0 : Option Addr) (c0 : Nat) (l0 : List (S52)) (a1 : Int) (r : List Int) (w : World) (hr0 : Kd.C k52 w A0 l0.length l0) (hc0 : l0.length ≤ c0) (h : impl_tryFrom.f k l0 a1 = some r) :
  Calls Try.prog 80 #[.slice A0 l0.length c0, .int .i64 a1] w fun e w' => ∃ v0_ : Value, e = .returned (v0_) ∧ Kd.R (Kd.int .i64) 3 w' w.heap.size (fun _ => True) v0_ r ∧ Below w.heap.size w w' := by
 have HR0 := am hr0
 have HC0 := am hc0
 clear hr0 hc0
 have HB := am (Below.refl w.heap.size w)
 have H : ((impl_endOf.f k l0 a1).bind fun t296 => (impl_tryFrom.l0 k l0 a1 (([a1] : List Int)) t296)) = some r := h
 clear h
 obtain ⟨y293, hy293⟩ : ∃ y_ : List Int, y_ = (([a1] : List Int)) := ⟨_, rfl⟩
 replace H : ((impl_endOf.f k l0 a1).bind fun t296 => (impl_tryFrom.l0 k l0 a1 y293 t296)) = some r := by first | (rw [hy293]; with_reducible exact H) | (have H2_ := (Option.bind_some _ _).symm.trans H; rw [hy293]; with_reducible exact H2_) | (have H2_ := (Option.bind_some _ _).symm.trans H; with_reducible exact H2_) | with_reducible exact H | (rw [hy293]; exact H) | exact H
 have Ny293 := am hy293
 clear hy293
 replace H := Option.bind_eq_some_iff.mp H
 obtain ⟨t296, A30, H⟩ := H
 replace H : (impl_tryFrom.l0 k l0 a1 y293 t296) = some r := H
 have A3 := am A30
 clear A30
 have H' := am H
 clear H
 go_enter Try.func80, Try.ntmps80
 go_wp2_with (first | ((with_reducible refine gate_dst (N := 8) rfl ?_); refine Kd.R_lit (Kd.int .i64) _ 3 ?hg (N := 8) ?hd (xs := ([a1] : List Int)) (inner := [.int .i64 a1]) (ok := fun _ => True) (okp := fun _ => True) ?hr ?hp (fun _ hk => hk) trivial (Below.refl _ _) (Nat.le_refl _) (by simp) ?_; (case hd => rfl); (case hg => rfl); (case hr => exact Y5); (case hp => exact (Reps.one (show Kd.M (Kd.int .i64) _ _ _ a1 [.int .i64 a1] from rfl) (Reps.none _ _))); intro v294 w4 ho5 hb hg_ hnew_; clear hg_ hnew_; (first | rw [← Ny293.out] at ho5 | (simp only [Int.reduceToNat] at ho5; rw [← Ny293.out] at ho5)); have HO295 := am (Kd.R_lower ho5 (below_size (bq))); replace HB := am (below_step (bq) hb); clear hb ho5) | (go_at_call 89; (with_reducible refine (impl_endOf.calls k _ _ l0 a1 t296 _ ?side1 ?side2 A3.out).mono ?_); (case side1 => exact cq (Kd.C_below HR0.out HB.out)); (case side2 => exact HC0.out); rintro e w' ⟨rfl, ⟨nd, rfl⟩⟩; (try first | exact ⟨rfl, _, World.drewN_drewN _ _ _⟩ | exact ⟨rfl, _, Eq.trans (World.drewN_drewN _ _ _) (congrArg (World.drewN _) (Nat.add_assoc _ _ _))⟩)))
 repeat (go_quiet (first | ((with_reducible refine gate_dst (N := 8) rfl ?_); refine Kd.R_lit (Kd.int .i64) _ 3 ?hg (N := 8) ?hd (xs := ([a1] : List Int)) (inner := [.int .i64 a1]) (ok := fun _ => True) (okp := fun _ => True) ?hr ?hp (fun _ hk => hk) trivial (Below.refl _ _) (Nat.le_refl _) (by simp) ?_; (case hd => rfl); (case hg => rfl); (case hr => exact Y5); (case hp => exact (Reps.one (show Kd.M (Kd.int .i64) _ _ _ a1 [.int .i64 a1] from rfl) (Reps.none _ _))); intro v294 w4 ho5 hb hg_ hnew_; clear hg_ hnew_; (first | rw [← Ny293.out] at ho5 | (simp only [Int.reduceToNat] at ho5; rw [← Ny293.out] at ho5)); have HO295 := am (Kd.R_lower ho5 (below_size (bq))); replace HB := am (below_step (bq) hb); clear hb ho5) | (go_at_call 89; (with_reducible refine (impl_endOf.calls k _ _ l0 a1 t296 _ ?side1 ?side2 A3.out).mono ?_); (case side1 => exact cq (Kd.C_below HR0.out HB.out)); (case side2 => exact HC0.out); rintro e w' ⟨rfl, ⟨nd, rfl⟩⟩; (try first | exact ⟨rfl, _, World.drewN_drewN _ _ _⟩ | exact ⟨rfl, _, Eq.trans (World.drewN_drewN _ _ _) (congrArg (World.drewN _) (Nat.add_assoc _ _ _))⟩))); try go_wp2_with (first | ((with_reducible refine gate_dst (N := 8) rfl ?_); refine Kd.R_lit (Kd.int .i64) _ 3 ?hg (N := 8) ?hd (xs := ([a1] : List Int)) (inner := [.int .i64 a1]) (ok := fun _ => True) (okp := fun _ => True) ?hr ?hp (fun _ hk => hk) trivial (Below.refl _ _) (Nat.le_refl _) (by simp) ?_; (case hd => rfl); (case hg => rfl); (case hr => exact Y5); (case hp => exact (Reps.one (show Kd.M (Kd.int .i64) _ _ _ a1 [.int .i64 a1] from rfl) (Reps.none _ _))); intro v294 w4 ho5 hb hg_ hnew_; clear hg_ hnew_; (first | rw [← Ny293.out] at ho5 | (simp only [Int.reduceToNat] at ho5; rw [← Ny293.out] at ho5)); have HO295 := am (Kd.R_lower ho5 (below_size (bq))); replace HB := am (below_step (bq) hb); clear hb ho5) | (go_at_call 89; (with_reducible refine (impl_endOf.calls k _ _ l0 a1 t296 _ ?side1 ?side2 A3.out).mono ?_); (case side1 => exact cq (Kd.C_below HR0.out HB.out)); (case side2 => exact HC0.out); rintro e w' ⟨rfl, ⟨nd, rfl⟩⟩; (try first | exact ⟨rfl, _, World.drewN_drewN _ _ _⟩ | exact ⟨rfl, _, Eq.trans (World.drewN_drewN _ _ _) (congrArg (World.drewN _) (Nat.add_assoc _ _ _))⟩))))
 go_loopg [5, 6] k (fun kq v5 v6 w' => ∃ (x5_1 : List Int) (x6_1 : Int), v6 = .int .i64 x6_1 ∧ Aside0 (impl_tryFrom.l0 kq l0 a1 x5_1 x6_1 = some r) ∧ Aside0 (kq ≤ k) ∧ Aside0 (Kd.R (Kd.int .i64) 3 w' w.heap.size (fun _ => True) v5 x5_1) ∧ Aside0 (Below w.heap.size w w'))
 case atStart => exact ⟨(y293), (t296), (sq), H', ⟨Nat.le_refl _⟩, ⟨rq HO295.out⟩, ⟨bq⟩⟩
 case round =>
  clear H'
  try clear p2
  obtain ⟨x5_1, x6_1, rfl, HA, HK1, HO_5, HB⟩ := hrel
  cases gk with
  | zero => exact absurd HA.out (by simp [impl_tryFrom.l0])
  | succ k1 =>
   have H := HA.out
   clear HA
   simp only [impl_tryFrom.l0] at H
   have HC6 := am H
   clear H
   go_upto_region 3 with (fail)
   repeat (go_quiet (fail); go_upto_region 3 with (fail))
   go_cut [36] (fun v36 wc => ∃ (kq : Nat) (x36_5 : Bool), v36 = .bool x36_5 ∧ Aside0 (impl_tryFrom.j1 kq l0 a1 x5_1 x6_1 x36_5 = some r) ∧ Aside0 (kq ≤ k1) ∧ Aside0 (Kd.R (Kd.int .i64) 3 wc w.heap.size (fun _ => True) u5 x5_1) ∧ Aside0 (Below w.heap.size w wc))
   case first =>
    have H := HC6.out
    clear HC6
    by_cases c7 : x6_1 < (l0.length : Int)
    ·rw [if_pos c7] at H
     have c7b0 : decide (x6_1 < (l0.length : Int)) = true := decide_eq_true c7
     clear c7
     (first | rw [c7b0] | (simp only [i64_w, i32_w]; rw [c7b0]) | skip)
     by_cases c8 : 0 ≤ x6_1
     ·rw [if_pos c8] at H
      have c8b0 : decide (0 ≤ x6_1) = true := decide_eq_true c8
      clear c8
      by_cases c9 : 0 ≤ a1
      ·rw [if_pos c9] at H
       have c9b0 : decide (0 ≤ a1) = true := decide_eq_true c9
       clear c9
       by_cases c10 : a1 < (l0.length : Int)
       ·rw [if_pos c10] at H
        have c10b0 : decide (a1 < (l0.length : Int)) = true := decide_eq_true c10
        clear c10
        by_cases c11 : ((rd_T52 l0 x6_1).f0) = ((rd_T52 l0 a1).f0)
        ·rw [if_pos c11] at H
         have c11b0 : (((rd_T52 l0 x6_1).f0) == ((rd_T52 l0 a1).f0)) = true := beq_iff_eq.mpr c11
         have c11b1 : (((rd_T52 l0 x6_1).f0) != ((rd_T52 l0 a1).f0)) = false := bne_eq_false_iff_eq.mpr c11
         clear c11
         replace H := Option.bind_eq_some_iff.mp H
         obtain ⟨t300, A120, H⟩ := H
         replace H : (impl_tryFrom.j1 k1 l0 a1 x5_1 x6_1 t300) = some r := H
         have A12 := am A120
         clear A120
         have H' := am H
         clear H
         have p297 : 0 ≤ (x6_1 : Int) := of_decide_eq_true (uq)
         have q297 : x6_1 < (l0.length : Int) := of_decide_eq_true (uq)
         obtain ⟨ad297, e297, hx297_0, hx297_1, hx297_2, hx297_3⟩ := at_T52 HR0.out x6_1 p297 q297
         cases e297
         replace hx297_0 := cb HB.out hx297_0
         replace hx297_1 := cb HB.out hx297_1
         replace hx297_2 := cb HB.out hx297_2
         replace hx297_3 := cb HB.out hx297_3
         replace p297 := eq_true p297
         replace q297 := eq_true q297
         have p298 : 0 ≤ (a1 : Int) := of_decide_eq_true (uq)
         have q298 : a1 < (l0.length : Int) := of_decide_eq_true (uq)
         obtain ⟨ad298, e298, hx298_0, hx298_1, hx298_2, hx298_3⟩ := at_T52 HR0.out a1 p298 q298
         obtain rfl : ad297 = ad298 := (by injection e298)
         replace hx298_0 := cb HB.out hx298_0
         replace hx298_1 := cb HB.out hx298_1
         replace hx298_2 := cb HB.out hx298_2
         replace hx298_3 := cb HB.out hx298_3
         replace p298 := eq_true p298
         replace q298 := eq_true q298
         have p299 : 0 ≤ (x6_1 : Int) := of_decide_eq_true (uq)
         have q299 : x6_1 < (l0.length : Int) := of_decide_eq_true (uq)
         obtain ⟨ad299, e299, hx299_0, hx299_1, hx299_2, hx299_3⟩ := at_T52 HR0.out x6_1 p299 q299
         obtain rfl : ad297 = ad299 := (by injection e299)
         replace hx299_0 := cb HB.out hx299_0
         replace hx299_1 := cb HB.out hx299_1
         replace hx299_2 := cb HB.out hx299_2
         replace hx299_3 := cb HB.out hx299_3
         replace p299 := eq_true p299
         replace q299 := eq_true q299
         go_wp2_with (first | (go_at_call 66; (with_reducible refine (impl_within.calls ((rd_T52 l0 x6_1).f1) 8 10 t300 _ A12.out).mono ?_); rintro e w' ⟨rfl, ⟨nd, rfl⟩⟩; (try first | exact ⟨rfl, _, World.drewN_drewN _ _ _⟩ | exact ⟨rfl, _, Eq.trans (World.drewN_drewN _ _ _) (congrArg (World.drewN _) (Nat.add_assoc _ _ _))⟩)))
         repeat (go_quiet (first | (go_at_call 66; (with_reducible refine (impl_within.calls ((rd_T52 l0 x6_1).f1) 8 10 t300 _ A12.out).mono ?_); rintro e w' ⟨rfl, ⟨nd, rfl⟩⟩; (try first | exact ⟨rfl, _, World.drewN_drewN _ _ _⟩ | exact ⟨rfl, _, Eq.trans (World.drewN_drewN _ _ _) (congrArg (World.drewN _) (Nat.add_assoc _ _ _))⟩))); try go_wp2_with (first | (go_at_call 66; (with_reducible refine (impl_within.calls ((rd_T52 l0 x6_1).f1) 8 10 t300 _ A12.out).mono ?_); rintro e w' ⟨rfl, ⟨nd, rfl⟩⟩; (try first | exact ⟨rfl, _, World.drewN_drewN _ _ _⟩ | exact ⟨rfl, _, Eq.trans (World.drewN_drewN _ _ _) (congrArg (World.drewN _) (Nat.add_assoc _ _ _))⟩))))
         go_meet
         case rel => exact ⟨_, (t300), (sq), H', ⟨by have := HK1.out; first | omega | exact Nat.le_refl _⟩, ⟨rq HO_5.out⟩, ⟨bq⟩⟩
        ·rw [if_neg c11] at H
         have c11b0 : (((rd_T52 l0 x6_1).f0) == ((rd_T52 l0 a1).f0)) = false := beq_eq_false_iff_ne.mpr c11
         have c11b1 : (((rd_T52 l0 x6_1).f0) != ((rd_T52 l0 a1).f0)) = true := bne_iff_ne.mpr c11
         have H' := am H
         clear H
         have p297 : 0 ≤ (x6_1 : Int) := of_decide_eq_true (uq)
         have q297 : x6_1 < (l0.length : Int) := of_decide_eq_true (uq)
         obtain ⟨ad297, e297, hx297_0, hx297_1, hx297_2, hx297_3⟩ := at_T52 HR0.out x6_1 p297 q297
         cases e297
         replace hx297_0 := cb HB.out hx297_0
         replace hx297_1 := cb HB.out hx297_1
         replace hx297_2 := cb HB.out hx297_2
         replace hx297_3 := cb HB.out hx297_3
         replace p297 := eq_true p297
         replace q297 := eq_true q297
         have p298 : 0 ≤ (a1 : Int) := of_decide_eq_true (uq)
         have q298 : a1 < (l0.length : Int) := of_decide_eq_true (uq)
         obtain ⟨ad298, e298, hx298_0, hx298_1, hx298_2, hx298_3⟩ := at_T52 HR0.out a1 p298 q298
         obtain rfl : ad297 = ad298 := (by injection e298)
         replace hx298_0 := cb HB.out hx298_0
         replace hx298_1 := cb HB.out hx298_1
         replace hx298_2 := cb HB.out hx298_2
         replace hx298_3 := cb HB.out hx298_3
         replace p298 := eq_true p298
         replace q298 := eq_true q298
         go_wp2
         repeat (go_quiet (fail); try go_wp2)
         go_meet
         case rel => exact ⟨_, (false), (sq), H', ⟨by have := HK1.out; first | omega | exact Nat.le_refl _⟩, ⟨rq HO_5.out⟩, ⟨bq⟩⟩
       ·rw [if_neg c10] at H
        exact absurd H (by simp)
      ·rw [if_neg c9] at H
       exact absurd H (by simp)
     ·rw [if_neg c8] at H
      exact absurd H (by simp)
    ·rw [if_neg c7] at H
     have c7b0 : decide (x6_1 < (l0.length : Int)) = false := decide_eq_false c7
     clear c7
     (first | rw [c7b0] | (simp only [i64_w, i32_w]; rw [c7b0]) | skip)
     have H' := am H
     clear H
     go_wp2
     repeat (go_quiet (fail); try go_wp2)
     go_meet
     case rel => exact ⟨_, (false), (sq), H', ⟨by have := HK1.out; first | omega | exact Nat.le_refl _⟩, ⟨rq HO_5.out⟩, ⟨bq⟩⟩
   case rest =>
    clear HC6
    try clear c1
    try clear p2
    try clear q2
    try clear hx2
    try clear c7
    try clear c7b0
    try clear c8
    try clear c8b0
    try clear c9
    try clear c9b0
    try clear c10
    try clear c10b0
    try clear c11
    try clear c11b0
    try clear c11b1
    try clear hx297_0
    try clear hx297_1
    try clear hx297_2
    try clear hx297_3
    try clear hx298_0
    try clear hx298_1
    try clear hx298_2
    try clear hx298_3
    try clear hx299_0
    try clear hx299_1
    try clear hx299_2
    try clear hx299_3
    try clear p2
    try clear p297
    try clear p298
    try clear p299
    try clear q297
    try clear q298
    try clear q299
    obtain ⟨kq, x36_5, rfl, HA, HJ5, HO_5, HB⟩ := hcut
    cases kq with
    | zero => exact absurd HA.out (by simp [impl_tryFrom.j1])
    | succ kj5 =>
     have H := HA.out
     clear HA
     simp only [impl_tryFrom.j1] at H
     by_cases c13 : x36_5 = true
     ·subst c13
      have H1 : (if x5_1.length < 17592186044416 then ((impl_endOf.f kj5 l0 x6_1).bind fun t304 => (impl_tryFrom.l0 kj5 l0 a1 (x5_1 ++ [x6_1]) t304)) else (none)) = some r := by rw [if_pos rfl] at H; exact H
      clear H
      have H := H1
      clear H1
      by_cases c14 : x5_1.length < 17592186044416
      ·rw [if_pos c14] at H
       have LMc14 := am c14
       clear c14
       obtain ⟨y301, hy301⟩ : ∃ y_ : List Int, y_ = (x5_1 ++ [x6_1]) := ⟨_, rfl⟩
       replace H : ((impl_endOf.f kj5 l0 x6_1).bind fun t304 => (impl_tryFrom.l0 kj5 l0 a1 y301 t304)) = some r := by first | (rw [hy301]; with_reducible exact H) | (have H2_ := (Option.bind_some _ _).symm.trans H; rw [hy301]; with_reducible exact H2_) | (have H2_ := (Option.bind_some _ _).symm.trans H; with_reducible exact H2_) | with_reducible exact H | (rw [hy301]; exact H) | exact H
       have Ny301 := am hy301
       clear hy301
       replace H := Option.bind_eq_some_iff.mp H
       obtain ⟨t304, A150, H⟩ := H
       replace H : (impl_tryFrom.l0 kj5 l0 a1 y301 t304) = some r := H
       have A15 := am A150
       clear A150
       have H' := am H
       clear H
       go_wp2_with (first | ((with_reducible refine gate_builtin (b := .append) (xs := #[.tmp 40, .tmp 42]) rfl ?_); at_builtin; refine Kd.R_append (Kd.int .i64) (w0 := w) w.heap.size rfl (.tmp 40) (.tmp 42) 28 3 (.int .i64 0) 8 rfl Try.underlying28 info3 rfl (by decide) (by omega) u5 x5_1 x6_1 [.int .i64 x6_1] (fun _ => True) (fun _ => False) rfl rfl ?aP (fun _ hk => hk.elim) ?aF ?aO ?aB ?aS ?aL ?_; (case aP => exact rfl); (case aB => exact (bq)); (case aF => exact (fun _ _ => trivial)); (case aO => exact (rq HO_5.out)); (case aS => exact (below_size (bq))); (case aL => have := LMc14.out; omega); intro v302 w16 ho hb hg hat; rw [← Ny301.out] at ho; have n0_ := am (hb); have n1_ := am (ho); clear HB HO_5; have HB := n0_; have HO303 := n1_; clear n0_ n1_ ho hb hg hat) | (go_at_call 89; (with_reducible refine (impl_endOf.calls kj5 _ _ l0 x6_1 t304 _ ?side1 ?side2 A15.out).mono ?_); (case side1 => exact cq (Kd.C_below HR0.out HB.out)); (case side2 => exact HC0.out); rintro e w' ⟨rfl, ⟨nd, rfl⟩⟩; (try first | exact ⟨rfl, _, World.drewN_drewN _ _ _⟩ | exact ⟨rfl, _, Eq.trans (World.drewN_drewN _ _ _) (congrArg (World.drewN _) (Nat.add_assoc _ _ _))⟩)))
       repeat (go_quiet (first | ((with_reducible refine gate_builtin (b := .append) (xs := #[.tmp 40, .tmp 42]) rfl ?_); at_builtin; refine Kd.R_append (Kd.int .i64) (w0 := w) w.heap.size rfl (.tmp 40) (.tmp 42) 28 3 (.int .i64 0) 8 rfl Try.underlying28 info3 rfl (by decide) (by omega) u5 x5_1 x6_1 [.int .i64 x6_1] (fun _ => True) (fun _ => False) rfl rfl ?aP (fun _ hk => hk.elim) ?aF ?aO ?aB ?aS ?aL ?_; (case aP => exact rfl); (case aB => exact (bq)); (case aF => exact (fun _ _ => trivial)); (case aO => exact (rq HO_5.out)); (case aS => exact (below_size (bq))); (case aL => have := LMc14.out; omega); intro v302 w16 ho hb hg hat; rw [← Ny301.out] at ho; have n0_ := am (hb); have n1_ := am (ho); clear HB HO_5; have HB := n0_; have HO303 := n1_; clear n0_ n1_ ho hb hg hat) | (go_at_call 89; (with_reducible refine (impl_endOf.calls kj5 _ _ l0 x6_1 t304 _ ?side1 ?side2 A15.out).mono ?_); (case side1 => exact cq (Kd.C_below HR0.out HB.out)); (case side2 => exact HC0.out); rintro e w' ⟨rfl, ⟨nd, rfl⟩⟩; (try first | exact ⟨rfl, _, World.drewN_drewN _ _ _⟩ | exact ⟨rfl, _, Eq.trans (World.drewN_drewN _ _ _) (congrArg (World.drewN _) (Nat.add_assoc _ _ _))⟩))); try go_wp2_with (first | ((with_reducible refine gate_builtin (b := .append) (xs := #[.tmp 40, .tmp 42]) rfl ?_); at_builtin; refine Kd.R_append (Kd.int .i64) (w0 := w) w.heap.size rfl (.tmp 40) (.tmp 42) 28 3 (.int .i64 0) 8 rfl Try.underlying28 info3 rfl (by decide) (by omega) u5 x5_1 x6_1 [.int .i64 x6_1] (fun _ => True) (fun _ => False) rfl rfl ?aP (fun _ hk => hk.elim) ?aF ?aO ?aB ?aS ?aL ?_; (case aP => exact rfl); (case aB => exact (bq)); (case aF => exact (fun _ _ => trivial)); (case aO => exact (rq HO_5.out)); (case aS => exact (below_size (bq))); (case aL => have := LMc14.out; omega); intro v302 w16 ho hb hg hat; rw [← Ny301.out] at ho; have n0_ := am (hb); have n1_ := am (ho); clear HB HO_5; have HB := n0_; have HO303 := n1_; clear n0_ n1_ ho hb hg hat) | (go_at_call 89; (with_reducible refine (impl_endOf.calls kj5 _ _ l0 x6_1 t304 _ ?side1 ?side2 A15.out).mono ?_); (case side1 => exact cq (Kd.C_below HR0.out HB.out)); (case side2 => exact HC0.out); rintro e w' ⟨rfl, ⟨nd, rfl⟩⟩; (try first | exact ⟨rfl, _, World.drewN_drewN _ _ _⟩ | exact ⟨rfl, _, Eq.trans (World.drewN_drewN _ _ _) (congrArg (World.drewN _) (Nat.add_assoc _ _ _))⟩))))
       go_roundg kj5
       case measure => have := HK1.out; have := HJ5.out; omega
       case rel => exact ⟨(y301), (t304), (sq), H', ⟨by have := HK1.out; have := HJ5.out; omega⟩, ⟨rq HO303.out⟩, ⟨bq⟩⟩
      ·rw [if_neg c14] at H
       exact absurd H (by simp)
     ·replace c13 := Bool.eq_false_iff.mpr c13
      subst c13
      have H1 : (some x5_1) = some r := by rw [if_neg (show ¬ (false = true) by decide)] at H; exact H
      clear H
      have H := H1
      clear H1
      obtain rfl := Option.some.inj H
      go_wp2
      repeat (go_quiet (fail); try go_wp2)
      go_ret
      exact ⟨_, Y0, rq HO_5.out, bq⟩
def impl_siblings.l0 : Nat → List (S52) → Int → List Int → Int → Option (List Int)
 | 0, _, _, _, _ => none
 | k + 1, x0, x2, x7, x8 => if x8 < x2 then (if x7.length < 17592186044416 then ((impl_endOf.f k x0 x8).bind fun t311 => (impl_siblings.l0 k x0 x2 (x7 ++ [x8]) t311)) else (none)) else (some x7)
def impl_siblings.f (k : Nat) (l0 : List (S52)) (a1 : Int) (a2 : Int) : Option (List Int) := impl_siblings.l0 k l0 a2 (([] : List Int)) a1
set_option maxHeartbeats 8000000 in
set_option maxRecDepth 100000 in
theorem impl_siblings.calls (k : Nat) (A0 : Option Addr) (c0 : Nat) (l0 : List (S52)) (a1 : Int) (a2 : Int) (r : List Int) (w : World) (hr0 : Kd.C k52 w A0 l0.length l0) (hc0 : l0.length ≤ c0) (h : impl_siblings.f k l0 a1 a2 = some r) :
  Calls Try.prog 96 #[.slice A0 l0.length c0, .int .i64 a1, .int .i64 a2] w fun e w' => ∃ v0_ : Value, e = .returned (v0_) ∧ Kd.R (Kd.int .i64) 3 w' w.heap.size (fun _ => True) v0_ r ∧ Below w.heap.size w w' := by
 have HR0 := am hr0
 have HC0 := am hc0
 clear hr0 hc0
 have HB := am (Below.refl w.heap.size w)
 have H : (impl_siblings.l0 k l0 a2 (([] : List Int)) a1) = some r := h
 clear h
 obtain ⟨y305, hy305⟩ : ∃ y_ : List Int, y_ = (([] : List Int)) := ⟨_, rfl⟩
 replace H : (impl_siblings.l0 k l0 a2 y305 a1) = some r := by first | (rw [hy305]; with_reducible exact H) | (have H2_ := (Option.bind_some _ _).symm.trans H; rw [hy305]; with_reducible exact H2_) | (have H2_ := (Option.bind_some _ _).symm.trans H; with_reducible exact H2_) | with_reducible exact H | (rw [hy305]; exact H) | exact H
 have Ny305 := am hy305
 clear hy305
 have H' := am H
 clear H
 go_enter Try.func96, Try.ntmps96
 go_wp2_with (first | ((with_reducible refine gate_dst (N := 9) rfl ?_); refine Kd.R_lit (Kd.int .i64) _ 3 ?hg (N := 9) ?hd (xs := ([] : List Int)) (inner := []) (ok := fun _ => True) (okp := fun _ => True) ?hr ?hp (fun _ hk => hk) trivial (Below.refl _ _) (Nat.le_refl _) (by simp) ?_; (case hd => rfl); (case hg => rfl); (case hr => exact Y5); (case hp => exact (Reps.none _ _)); intro v306 w4 ho5 hb hg_ hnew_; clear hg_ hnew_; (first | rw [← Ny305.out] at ho5 | (simp only [Int.reduceToNat] at ho5; rw [← Ny305.out] at ho5)); have HO307 := am (Kd.R_lower ho5 (below_size (bq))); replace HB := am (below_step (bq) hb); clear hb ho5))
 go_loopg [7, 8] k (fun kq v7 v8 w' => ∃ (x7_1 : List Int) (x8_1 : Int), v8 = .int .i64 x8_1 ∧ Aside0 (impl_siblings.l0 kq l0 a2 x7_1 x8_1 = some r) ∧ Aside0 (kq ≤ k) ∧ Aside0 (Kd.R (Kd.int .i64) 3 w' w.heap.size (fun _ => True) v7 x7_1) ∧ Aside0 (Below w.heap.size w w'))
 case atStart => exact ⟨(y305), (a1), (sq), H', ⟨Nat.le_refl _⟩, ⟨rq HO307.out⟩, ⟨bq⟩⟩
 case round =>
  clear H'
  try clear p2
  obtain ⟨x7_1, x8_1, rfl, HA, HK1, HO_7, HB⟩ := hrel
  cases gk with
  | zero => exact absurd HA.out (by simp [impl_siblings.l0])
  | succ k1 =>
   have H := HA.out
   clear HA
   simp only [impl_siblings.l0] at H
   by_cases c6 : x8_1 < a2
   ·rw [if_pos c6] at H
    have c6b0 : decide (x8_1 < a2) = true := decide_eq_true c6
    clear c6
    by_cases c7 : x7_1.length < 17592186044416
    ·rw [if_pos c7] at H
     have LMc7 := am c7
     clear c7
     obtain ⟨y308, hy308⟩ : ∃ y_ : List Int, y_ = (x7_1 ++ [x8_1]) := ⟨_, rfl⟩
     replace H : ((impl_endOf.f k1 l0 x8_1).bind fun t311 => (impl_siblings.l0 k1 l0 a2 y308 t311)) = some r := by first | (rw [hy308]; with_reducible exact H) | (have H2_ := (Option.bind_some _ _).symm.trans H; rw [hy308]; with_reducible exact H2_) | (have H2_ := (Option.bind_some _ _).symm.trans H; with_reducible exact H2_) | with_reducible exact H | (rw [hy308]; exact H) | exact H
     have Ny308 := am hy308
     clear hy308
     replace H := Option.bind_eq_some_iff.mp H
     obtain ⟨t311, A80, H⟩ := H
     replace H : (impl_siblings.l0 k1 l0 a2 y308 t311) = some r := H
     have A8 := am A80
     clear A80
     have H' := am H
     clear H
     go_wp2_with (first | ((with_reducible refine gate_builtin (b := .append) (xs := #[.tmp 17, .tmp 19]) rfl ?_); at_builtin; refine Kd.R_append (Kd.int .i64) (w0 := w) w.heap.size rfl (.tmp 17) (.tmp 19) 28 3 (.int .i64 0) 8 rfl Try.underlying28 info3 rfl (by decide) (by omega) u7 x7_1 x8_1 [.int .i64 x8_1] (fun _ => True) (fun _ => False) rfl rfl ?aP (fun _ hk => hk.elim) ?aF ?aO ?aB ?aS ?aL ?_; (case aP => exact rfl); (case aB => exact (bq)); (case aF => exact (fun _ _ => trivial)); (case aO => exact (rq HO_7.out)); (case aS => exact (below_size (bq))); (case aL => have := LMc7.out; omega); intro v309 w9 ho hb hg hat; rw [← Ny308.out] at ho; have n0_ := am (hb); have n1_ := am (ho); clear HB HO_7; have HB := n0_; have HO310 := n1_; clear n0_ n1_ ho hb hg hat) | ((with_reducible refine gate_callee (f := 89) rfl ?_); refine gL (some 16) Try.func89 #[.slice A0 l0.length c0, .int .i64 x8_1] ?_; (with_reducible refine (impl_endOf.calls k1 _ _ l0 x8_1 t311 _ ?side1 ?side2 A8.out).mono ?_); (case side1 => exact cq (Kd.C_below HR0.out HB.out)); (case side2 => exact HC0.out); rintro e w' ⟨rfl, ⟨nd, rfl⟩⟩; refine ⟨_, rfl, ?_⟩))
     go_roundg k1
     case measure => have := HK1.out; omega
     case rel => exact ⟨(y308), (t311), (sq), H', ⟨by have := HK1.out; omega⟩, ⟨rq HO310.out⟩, ⟨bq⟩⟩
    ·rw [if_neg c7] at H
     exact absurd H (by simp)
   ·rw [if_neg c6] at H
    have c6b0 : decide (x8_1 < a2) = false := decide_eq_false c6
    clear c6
    obtain rfl := Option.some.inj H
    go_wp2
    go_ret
    exact ⟨_, Y0, rq HO_7.out, bq⟩
def impl_tryOk.go (p : List S52) : List Int → Int → Int → Option (Option Int)
 | [], ex, _ => some (some ex)
 | k :: ks, ex, last => if 0 ≤ k then if k < (p.length : Int) then
   if (rd_T52 p k).f1 = 8 then if last ≤ 8 then impl_tryOk.go p ks (ex + 1) (rd_T52 p k).f1 else some none
   else if (rd_T52 p k).f1 = 9 then if last = 8 then impl_tryOk.go p ks ex (rd_T52 p k).f1 else some none
   else if (rd_T52 p k).f1 = 10 then if last < 10 then impl_tryOk.go p ks ex (rd_T52 p k).f1 else some none
   else some none
  else none else none
def impl_tryOk.f (l0 : List S52) (l1 : List Int) : Option Bool := if 1 ≤ l1.length then (impl_tryOk.go l0 (l1.drop 1) 0 7).bind fun r => match r with | none => some false | some ex => some (decide (1 < l1.length) && decide (ex ≤ 6)) else none
theorem impl_tryOk.step {p : List S52} {l : List Int} {k : Nat} {ex last : Int} {r : Option Int} (hk : k < l.length) (h : impl_tryOk.go p (l.drop k) ex last = some r) : impl_tryOk.go p (l[k] :: l.drop (k + 1)) ex last = some r := by
 rw [← List.drop_eq_getElem_cons hk]; exact h
set_option maxHeartbeats 8000000 in
set_option maxRecDepth 100000 in
theorem impl_tryOk.calls (A0 : Option Addr) (c0 : Nat) (l0 : List S52) (A1 : Option Addr) (c1 : Nat) (l1 : List Int) (r : Bool) (w : World) (hr0 : Kd.C k52 w A0 l0.length l0) (hc0 : l0.length ≤ c0) (hr1 : Kd.C (Kd.int .i64) w A1 l1.length l1) (hc1 : l1.length ≤ c1) (h : impl_tryOk.f l0 l1 = some r) :
  Calls Try.prog 97 #[.slice A0 l0.length c0, .slice A1 l1.length c1] w fun e w' => e = .returned (.bool r) ∧ Drawn0 w w' := by
 have hu52 := Try.underlying52
 have hm : l1.length ≤ 9223372036854775807 := Kd.C_max hr1
 simp only [impl_tryOk.f] at h
 by_cases h1 : 1 ≤ l1.length
 ·rw [if_pos h1] at h
  obtain ⟨q, hq, h⟩ := Option.bind_eq_some_iff.mp h
  have HR0 := am hr0
  have HR1 := am hr1
  have H0 := am hq
  have HZ := am h
  have h1b : (1 : Int) ≤ (l1.length : Int) := by omega
  obtain ⟨i03, hi03, _, hsz3, _⟩ := info_parts info3
  obtain ⟨A', hcut, hA', hC'⟩ := print_drop_of (P := Try.prog) (Value.int .i64) (0 : Int) 28 3 .i64 Try.underlying28 hi03 hsz3 A1 c1 l1 1 (by omega) h1b hc1
  replace hA' := hA' _ (Kd.reads_of_C hr1)
  rw [show ((1 : Int)).toNat = 1 from rfl] at hcut hA' hC'
  generalize hl2 : l1.drop 1 = l2 at hcut hA' hC' H0
  have hdl : l2.length < l1.length := by rw [← hl2, List.length_drop]; omega
  clear hl2
  have HS := am hA'
  clear hr0 hr1 hq h hA' hi03 hsz3
  go_enter Try.func97, Try.ntmps97
  go_wp2
  go_loop [5, 6, 13] (fun i5 i6 i13 => ∃ (k : Nat) (ex last : Int), i13 = .int .i64 k ∧ i5 = .int .i64 ex ∧ i6 = .int .i64 last ∧ k ≤ l2.length ∧ 0 ≤ ex ∧ ex ≤ (k : Int) ∧ Aside0 (impl_tryOk.go l0 (l2.drop k) ex last = some q)) (fun _ _ i13 => l2.length - (intOf i13).toNat)
  case atStart => exact ⟨0, 0, 7, rfl, rfl, rfl, Nat.zero_le _, by omega, by omega, H0⟩
  case round =>
   clear H0
   obtain ⟨k, ex, last, rfl, rfl, rfl, hk, hx0, hx1, HA⟩ := hrel
   by_cases hlt : k < l2.length
   ·have HB := am (impl_tryOk.step hlt HA.out)
    clear HA
    have HC := HS.out
    obtain ⟨ad, rfl, hx⟩ := Kd.at_int (Kd.C_of_reads (h1 := fun _ => rfl) HC) (k : Int) (by omega) (by omega)
    have hrd : rd l2 (k : Int) = l2[k] := by simp only [rd, Int.toNat_natCast, List.getD_eq_getElem?_getD, List.getElem?_eq_getElem hlt, Option.getD_some]
    rw [hrd, Int.toNat_natCast] at hx
    clear hrd HC
    have hgo := HB.out
    generalize l2[k] = x at hgo hx
    simp only [impl_tryOk.go] at hgo
    clear HB
    by_cases h0 : 0 ≤ x
    ·rw [if_pos h0] at hgo
     by_cases h2 : x < (l0.length : Int)
     ·rw [if_pos h2] at hgo
      obtain ⟨ad0, rfl, hy0, hy1, hy2, hy3⟩ := at_T52 HR0.out x h0 h2
      generalize hkd : (rd_T52 l0 x).f1 = kd at hgo hy1
      clear hkd
      have q2 := eq_true h2
      have q0 := eq_true h0
      clear h0 h2
      by_cases e8 : kd = 8
      ·subst e8
       rw [if_pos rfl] at hgo
       by_cases hl : last ≤ 8
       ·rw [if_pos hl] at hgo
        have hlb := decide_eq_true hl
        clear hl
        have HG := am hgo
        clear hgo HZ
        go_wp2
        go_round
        case rel => exact ⟨k + 1, ex + 1, _, by go_num, rfl, rfl, hlt, by omega, by omega, HG⟩
        case measure => simp [intOf]; omega
       ·rw [if_neg hl] at hgo
        have hlb := decide_eq_false hl
        clear hl
        obtain rfl : none = q := by simpa using hgo
        have HR := am (by simpa using HZ.out : r = false)
        clear hgo HZ
        go_wp2
        go_ret
        exact ⟨by rw [HR.out]; rfl, Drawn0.refl _⟩
      ·rw [if_neg e8] at hgo
       have e8b : (kd == 8) = false := beq_eq_false_iff_ne.2 e8
       clear e8
       by_cases e9 : kd = 9
       ·subst e9
        rw [if_pos rfl] at hgo
        by_cases hl : last = 8
        ·rw [if_pos hl] at hgo
         have hlb : (last == 8) = true := beq_iff_eq.2 hl
         clear hl
         have HG := am hgo
         clear hgo HZ
         go_wp2
         go_round
         case rel => exact ⟨k + 1, ex, _, by go_num, rfl, rfl, hlt, by omega, by omega, HG⟩
         case measure => simp [intOf]; omega
        ·rw [if_neg hl] at hgo
         have hlb : (last == 8) = false := beq_eq_false_iff_ne.2 hl
         clear hl
         obtain rfl : none = q := by simpa using hgo
         have HR := am (by simpa using HZ.out : r = false)
         clear hgo HZ
         go_wp2
         go_ret
         exact ⟨by rw [HR.out]; rfl, Drawn0.refl _⟩
       ·rw [if_neg e9] at hgo
        have e9b : (kd == 9) = false := beq_eq_false_iff_ne.2 e9
        clear e9
        by_cases e10 : kd = 10
        ·subst e10
         rw [if_pos rfl] at hgo
         by_cases hl : last < 10
         ·rw [if_pos hl] at hgo
          have hlb := decide_eq_true hl
          clear hl
          have HG := am hgo
          clear hgo HZ
          go_wp2
          go_round
          case rel => exact ⟨k + 1, ex, _, by go_num, rfl, rfl, hlt, by omega, by omega, HG⟩
          case measure => simp [intOf]; omega
         ·rw [if_neg hl] at hgo
          have hlb := decide_eq_false hl
          clear hl
          obtain rfl : none = q := by simpa using hgo
          have HR := am (by simpa using HZ.out : r = false)
          clear hgo HZ
          go_wp2
          go_ret
          exact ⟨by rw [HR.out]; rfl, Drawn0.refl _⟩
        ·rw [if_neg e10] at hgo
         have e10b : (kd == 10) = false := beq_eq_false_iff_ne.2 e10
         clear e10
         obtain rfl : none = q := by simpa using hgo
         have HR := am (by simpa using HZ.out : r = false)
         clear hgo HZ
         go_wp2
         go_ret
         exact ⟨by rw [HR.out]; rfl, Drawn0.refl _⟩
     ·rw [if_neg h2] at hgo
      cases hgo
    ·rw [if_neg h0] at hgo
     cases hgo
   ·have hgo := HA.out
    rw [List.drop_eq_nil_of_le (by omega)] at hgo
    obtain rfl : some ex = q := by simpa [impl_tryOk.go] using hgo
    clear hgo HA
    have HY := am (Option.some.inj HZ.out)
    clear HZ
    by_cases h1c : 1 < l1.length
    ·have hb1 := decide_eq_true h1c
     go_wp2
     go_ret
     exact ⟨by rw [← HY.out, hb1]; rfl, Drawn0.refl _⟩
    ·have hb1 := decide_eq_false h1c
     go_wp2
     go_ret
     exact ⟨by rw [← HY.out, hb1]; rfl, Drawn0.refl _⟩
 ·rw [if_neg h1] at h
  cases h
mutual
def impl_blockOk.l0 : Nat → List (S52) → Bool → List Int → Int → Option (Bool)
 | 0, _, _, _, _ => none
 | k + 1, x0, x3, x9, x10 => if x10 < (x9.length : Int) then (if 0 ≤ x10 then (if 0 ≤ (rd x9 x10) then (if (rd x9 x10) < (x0.length : Int) then (if ((rd_T52 x0 (rd x9 x10)).f1) = 5 then (impl_blockOk.j1 k x0 x3 x9 x10 (rd x9 x10) ((rd_T52 x0 (rd x9 x10)).f1) ((rd_T52 x0 (rd x9 x10)).f1) (((rd_T52 x0 (rd x9 x10)).f1) == 5)) else (impl_blockOk.j1 k x0 x3 x9 x10 (rd x9 x10) ((rd_T52 x0 (rd x9 x10)).f1) ((rd_T52 x0 (rd x9 x10)).f1) (((rd_T52 x0 (rd x9 x10)).f1) == 6))) else (none)) else (none)) else (none)) else (some true)
def impl_blockOk.j1 : Nat → List (S52) → Bool → List Int → Int → Int → Int → Int → Bool → Option (Bool)
 | 0, _, _, _, _, _, _, _, _ => none
 | k + 1, x0, x3, x9, x10, x11, x12, x35, x36 => if x36 = true then (if x3 = true then (impl_blockOk.l0 k x0 x3 x9 (wrap64 (x10 + 1))) else (some false)) else (if x35 = 8 then (impl_blockOk.j2 k x0 x3 x9 x10 x11 x12 x35 (x35 == 8)) else (if x35 = 9 then (impl_blockOk.j2 k x0 x3 x9 x10 x11 x12 x35 (x35 == 9)) else (impl_blockOk.j2 k x0 x3 x9 x10 x11 x12 x35 (x35 == 10))))
def impl_blockOk.j2 : Nat → List (S52) → Bool → List Int → Int → Int → Int → Int → Bool → Option (Bool)
 | 0, _, _, _, _, _, _, _, _ => none
 | k + 1, x0, x3, x9, x10, x11, x12, x35, x41 => if x41 = true then (some false) else (if x35 = 7 then ((impl_tryFrom.f k x0 x11).bind fun t317 => ((impl_tryOk.f x0 t317).bind fun t320 => (if t320 = true then (impl_blockOk.l1 k x0 x3 x9 x10 t317 t317 (t317.length : Int) 0) else (some false)))) else (if x35 = 11 then (impl_blockOk.j4 k x0 x3 x9 x10 x11 x12 (x35 == 11)) else (impl_blockOk.j4 k x0 x3 x9 x10 x11 x12 (x35 == 12))))
def impl_blockOk.l1 : Nat → List (S52) → Bool → List Int → Int → List Int → List Int → Int → Int → Option (Bool)
 | 0, _, _, _, _, _, _, _, _ => none
 | k + 1, x0, x3, x9, x10, x13, x54, x55, x56 => if x56 < x55 then (if 0 ≤ x56 then (if x56 < (x54.length : Int) then ((impl_endOf.f k x0 (rd x54 x56)).bind fun t322 => ((impl_blockOk.f k x0 (wrap64 ((rd x54 x56) + 1)) t322 x3).bind fun t323 => (if t323 = true then (impl_blockOk.l1 k x0 x3 x9 x10 x13 x54 x55 (wrap64 (x56 + 1))) else (some false)))) else (none)) else (none)) else (impl_blockOk.l0 k x0 x3 x9 (wrap64 ((wrap64 (x10 + (wrap64 ((x13.length : Int) - 1)))) + 1)))
def impl_blockOk.j4 : Nat → List (S52) → Bool → List Int → Int → Int → Int → Bool → Option (Bool)
 | 0, _, _, _, _, _, _, _ => none
 | k + 1, x0, x3, x9, x10, x11, x12, x75 => if x75 = true then ((impl_endOf.f k x0 x11).bind fun t324 => (if x3 = true then ((impl_blockOk.f k x0 (wrap64 (x11 + 1)) t324 true).bind fun t325 => (if t325 = true then (impl_blockOk.l0 k x0 x3 x9 (wrap64 (x10 + 1))) else (some false))) else ((impl_blockOk.f k x0 (wrap64 (x11 + 1)) t324 (x12 == 12)).bind fun t326 => (if t326 = true then (impl_blockOk.l0 k x0 x3 x9 (wrap64 (x10 + 1))) else (some false))))) else (impl_blockOk.l0 k x0 x3 x9 (wrap64 (x10 + 1)))
def impl_blockOk.f : Nat → List (S52) → Int → Int → Bool → Option (Bool)
 | 0, _, _, _, _ => none
 | k + 1, l0, a1, a2, a3 => (impl_siblings.f k l0 a1 a2).bind fun t312 => (impl_blockOk.l0 k l0 a3 t312 0)
end
set_option maxHeartbeats 8000000 in
set_option maxRecDepth 100000 in
theorem impl_blockOk.calls (k : Nat) : ∀ (A0 : Option Addr) (c0 : Nat) (l0 : List (S52)) (a1 : Int) (a2 : Int) (a3 : Bool) (r : Bool) (w : World) (hr0 : Kd.C k52 w A0 l0.length l0) (hc0 : l0.length ≤ c0) (h : impl_blockOk.f k l0 a1 a2 a3 = some r),
  Calls Try.prog 68 #[.slice A0 l0.length c0, .int .i64 a1, .int .i64 a2, .bool a3] w fun e w' => e = .returned (.bool r) ∧ Below w.heap.size w w' := by
 induction k using Nat.strongRecOn with
 | _ k ih =>
 intro A0 c0 l0 a1 a2 a3 r w hr0 hc0 h
 cases k with
 | zero => exact absurd h (by simp [impl_blockOk.f])
 | succ k =>
 simp only [impl_blockOk.f] at h
 have HR0 := am hr0
 have HC0 := am hc0
 clear hr0 hc0
 have HB := am (Below.refl w.heap.size w)
 have H : ((impl_siblings.f k l0 a1 a2).bind fun t312 => (impl_blockOk.l0 k l0 a3 t312 0)) = some r := h
 clear h
 replace H := Option.bind_eq_some_iff.mp H
 obtain ⟨t312, A50, H⟩ := H
 replace H : (impl_blockOk.l0 k l0 a3 t312 0) = some r := H
 have A5 := am A50
 clear A50
 have H' := am H
 clear H
 go_enter Try.func68, Try.ntmps68
 go_wp2_with (first | ((with_reducible refine gate_callee (f := 96) rfl ?_); refine gL (some 19) Try.func96 #[.slice A0 l0.length c0, .int .i64 a1, .int .i64 a2] ?_; (with_reducible refine (impl_siblings.calls k _ _ l0 a1 a2 t312 _ ?side1 ?side2 A5.out).mono ?_); (case side1 => exact Y38); (case side2 => exact HC0.out); rintro e w6 ⟨v313, rfl, ho0, hb⟩; refine ⟨_, rfl, ?_⟩; have HO314 := am (Kd.R_lower ho0 (below_size (bq))); replace HB := am (below_step (bq) hb); (try clear hb); (try clear hb2); (try clear hk); (try clear hi); (try clear ho0)))
 go_loopg [10] k (fun kq v10 w' => ∃ (x10_1 : Int), v10 = .int .i64 x10_1 ∧ Aside0 (impl_blockOk.l0 kq l0 a3 t312 x10_1 = some r) ∧ Aside0 (kq ≤ k) ∧ Aside0 (Kd.R (Kd.int .i64) 3 w' w.heap.size (fun _ => True) v313 t312) ∧ Aside0 (Below w.heap.size w w'))
 case atStart => exact ⟨(0), (sq), H', ⟨Nat.le_refl _⟩, ⟨rq HO314.out⟩, ⟨bq⟩⟩
 case round =>
  clear H'
  try clear p2
  try clear c6
  obtain ⟨x10_1, rfl, HA, HK1, HO_9, HB⟩ := hrel
  cases gk with
  | zero => exact absurd HA.out (by simp [impl_blockOk.l0])
  | succ k1 =>
   have H := HA.out
   clear HA
   simp only [impl_blockOk.l0] at H
   by_cases c7 : x10_1 < (t312.length : Int)
   ·rw [if_pos c7] at H
    have c7b0 : decide (x10_1 < (t312.length : Int)) = true := decide_eq_true c7
    clear c7
    by_cases c8 : 0 ≤ x10_1
    ·rw [if_pos c8] at H
     have c8b0 : decide (0 ≤ x10_1) = true := decide_eq_true c8
     clear c8
     by_cases c9 : 0 ≤ (rd t312 x10_1)
     ·rw [if_pos c9] at H
      have c9b0 : decide (0 ≤ (rd t312 x10_1)) = true := decide_eq_true c9
      clear c9
      by_cases c10 : (rd t312 x10_1) < (l0.length : Int)
      ·rw [if_pos c10] at H
       have c10b0 : decide ((rd t312 x10_1) < (l0.length : Int)) = true := decide_eq_true c10
       clear c10
       have HC11 := am H
       clear H
       obtain ⟨Ao12, co12, eo12⟩ := Kd.R_slice HO_9.out
       subst eo12
       have p315 : 0 ≤ (x10_1 : Int) := of_decide_eq_true (uq)
       have q315 : x10_1 < (t312.length : Int) := of_decide_eq_true (uq)
       obtain ⟨ad315, e315, hx315_0⟩ := Kd.at_int (Kd.R_reads' HO_9.out).2.2 x10_1 p315 q315
       cases e315
       replace p315 := eq_true p315
       replace q315 := eq_true q315
       have p316 : 0 ≤ ((rd t312 x10_1) : Int) := of_decide_eq_true (uq)
       have q316 : (rd t312 x10_1) < (l0.length : Int) := of_decide_eq_true (uq)
       obtain ⟨ad316, e316, hx316_0, hx316_1, hx316_2, hx316_3⟩ := at_T52 HR0.out (rd t312 x10_1) p316 q316
       cases e316
       replace hx316_0 := cb HB.out hx316_0
       replace hx316_1 := cb HB.out hx316_1
       replace hx316_2 := cb HB.out hx316_2
       replace hx316_3 := cb HB.out hx316_3
       replace p316 := eq_true p316
       replace q316 := eq_true q316
       go_upto_if 36 with (fail)
       go_cut [36] (fun v36 wc => ∃ (kq : Nat) (x36_10 : Bool), v36 = .bool x36_10 ∧ Aside0 (impl_blockOk.j1 kq l0 a3 t312 x10_1 (rd t312 x10_1) ((rd_T52 l0 (rd t312 x10_1)).f1) ((rd_T52 l0 (rd t312 x10_1)).f1) x36_10 = some r) ∧ Aside0 (kq ≤ k1) ∧ Aside0 (Kd.R (Kd.int .i64) 3 wc w.heap.size (fun _ => True) (.slice (some ad315) t312.length co12) t312) ∧ Aside0 (Below w.heap.size w wc))
       case first =>
        have H := HC11.out
        clear HC11
        by_cases c13 : ((rd_T52 l0 (rd t312 x10_1)).f1) = 5
        ·rw [if_pos c13] at H
         have c13b0 : (((rd_T52 l0 (rd t312 x10_1)).f1) == 5) = true := beq_iff_eq.mpr c13
         have c13b1 : (((rd_T52 l0 (rd t312 x10_1)).f1) != 5) = false := bne_eq_false_iff_eq.mpr c13
         clear c13
         (first | rw [c13b0] | (simp only [i64_w, i32_w]; rw [c13b0]) | skip)
         have H' := am H
         clear H
         go_wp2
         go_meet
         case rel => exact ⟨_, ((((rd_T52 l0 (rd t312 x10_1)).f1) == 5)), (sq), H', ⟨by have := HK1.out; first | omega | exact Nat.le_refl _⟩, ⟨rq HO_9.out⟩, ⟨bq⟩⟩
        ·rw [if_neg c13] at H
         have c13b0 : (((rd_T52 l0 (rd t312 x10_1)).f1) == 5) = false := beq_eq_false_iff_ne.mpr c13
         have c13b1 : (((rd_T52 l0 (rd t312 x10_1)).f1) != 5) = true := bne_iff_ne.mpr c13
         (first | rw [c13b0] | (simp only [i64_w, i32_w]; rw [c13b0]) | skip)
         have H' := am H
         clear H
         go_wp2
         go_meet
         case rel => exact ⟨_, ((((rd_T52 l0 (rd t312 x10_1)).f1) == 6)), (sq), H', ⟨by have := HK1.out; first | omega | exact Nat.le_refl _⟩, ⟨rq HO_9.out⟩, ⟨bq⟩⟩
       case rest =>
        clear HC11
        try clear c1
        try clear p2
        try clear p3
        try clear q3
        try clear hx3
        try clear c6
        try clear c7
        try clear c7b0
        try clear c8
        try clear c8b0
        try clear c9
        try clear c9b0
        try clear c10
        try clear c10b0
        try clear c13
        try clear c13b0
        try clear c13b1
        try clear hx315_0
        try clear hx316_0
        try clear hx316_1
        try clear hx316_2
        try clear hx316_3
        try clear p2
        try clear p315
        try clear p316
        try clear q315
        try clear q316
        obtain ⟨kq, x36_10, rfl, HA, HJ10, HO_9, HB⟩ := hcut
        cases kq with
        | zero => exact absurd HA.out (by simp [impl_blockOk.j1])
        | succ kj10 =>
         have H := HA.out
         clear HA
         simp only [impl_blockOk.j1] at H
         by_cases c14 : x36_10 = true
         ·subst c14
          have H1 : (if a3 = true then (impl_blockOk.l0 kj10 l0 a3 t312 (wrap64 (x10_1 + 1))) else (some false)) = some r := by rw [if_pos rfl] at H; exact H
          clear H
          have H := H1
          clear H1
          by_cases c15 : a3 = true
          ·subst c15
           have H1 : (impl_blockOk.l0 kj10 l0 true t312 (wrap64 (x10_1 + 1))) = some r := by rw [if_pos rfl] at H; exact H
           clear H
           have H := H1
           clear H1
           have H' := am H
           clear H
           go_wp2
           go_roundg kj10
           case measure => have := HK1.out; have := HJ10.out; omega
           case rel => exact ⟨(wrap64 (x10_1 + 1)), (sq), H', ⟨by have := HK1.out; have := HJ10.out; omega⟩, ⟨rq HO_9.out⟩, ⟨bq⟩⟩
          ·replace c15 := Bool.eq_false_iff.mpr c15
           subst c15
           have H1 : (some false) = some r := by rw [if_neg (show ¬ (false = true) by decide)] at H; exact H
           clear H
           have H := H1
           clear H1
           obtain rfl := Option.some.inj H
           go_wp2
           go_ret
           exact ⟨Y0, bq⟩
         ·replace c14 := Bool.eq_false_iff.mpr c14
          subst c14
          have H1 : (if ((rd_T52 l0 (rd t312 x10_1)).f1) = 8 then (impl_blockOk.j2 kj10 l0 a3 t312 x10_1 (rd t312 x10_1) ((rd_T52 l0 (rd t312 x10_1)).f1) ((rd_T52 l0 (rd t312 x10_1)).f1) (((rd_T52 l0 (rd t312 x10_1)).f1) == 8)) else (if ((rd_T52 l0 (rd t312 x10_1)).f1) = 9 then (impl_blockOk.j2 kj10 l0 a3 t312 x10_1 (rd t312 x10_1) ((rd_T52 l0 (rd t312 x10_1)).f1) ((rd_T52 l0 (rd t312 x10_1)).f1) (((rd_T52 l0 (rd t312 x10_1)).f1) == 9)) else (impl_blockOk.j2 kj10 l0 a3 t312 x10_1 (rd t312 x10_1) ((rd_T52 l0 (rd t312 x10_1)).f1) ((rd_T52 l0 (rd t312 x10_1)).f1) (((rd_T52 l0 (rd t312 x10_1)).f1) == 10)))) = some r := by rw [if_neg (show ¬ (false = true) by decide)] at H; exact H
          clear H
          have H := H1
          clear H1
          have HC16 := am H
          clear H
          go_upto_if 41 with (fail)
          go_cut [41] (fun v41 wc => ∃ (kq : Nat) (x41_15 : Bool), v41 = .bool x41_15 ∧ Aside0 (impl_blockOk.j2 kq l0 a3 t312 x10_1 (rd t312 x10_1) ((rd_T52 l0 (rd t312 x10_1)).f1) ((rd_T52 l0 (rd t312 x10_1)).f1) x41_15 = some r) ∧ Aside0 (kq ≤ kj10) ∧ Aside0 (Kd.R (Kd.int .i64) 3 wc w.heap.size (fun _ => True) (.slice (some ad315) t312.length co12) t312) ∧ Aside0 (Below w.heap.size w wc))
          case first =>
           have H := HC16.out
           clear HC16
           by_cases c17 : ((rd_T52 l0 (rd t312 x10_1)).f1) = 8
           ·rw [if_pos c17] at H
            have c17b0 : (((rd_T52 l0 (rd t312 x10_1)).f1) == 8) = true := beq_iff_eq.mpr c17
            have c17b1 : (((rd_T52 l0 (rd t312 x10_1)).f1) != 8) = false := bne_eq_false_iff_eq.mpr c17
            clear c17
            (first | rw [c17b0] | (simp only [i64_w, i32_w]; rw [c17b0]) | skip)
            have H' := am H
            clear H
            go_wp2
            go_meet
            case rel => exact ⟨_, ((((rd_T52 l0 (rd t312 x10_1)).f1) == 8)), (sq), H', ⟨by have := HK1.out; have := HJ10.out; first | omega | exact Nat.le_refl _⟩, ⟨rq HO_9.out⟩, ⟨bq⟩⟩
           ·rw [if_neg c17] at H
            have c17b0 : (((rd_T52 l0 (rd t312 x10_1)).f1) == 8) = false := beq_eq_false_iff_ne.mpr c17
            have c17b1 : (((rd_T52 l0 (rd t312 x10_1)).f1) != 8) = true := bne_iff_ne.mpr c17
            (first | rw [c17b0] | (simp only [i64_w, i32_w]; rw [c17b0]) | skip)
            by_cases c18 : ((rd_T52 l0 (rd t312 x10_1)).f1) = 9
            ·rw [if_pos c18] at H
             have c18b0 : (((rd_T52 l0 (rd t312 x10_1)).f1) == 9) = true := beq_iff_eq.mpr c18
             have c18b1 : (((rd_T52 l0 (rd t312 x10_1)).f1) != 9) = false := bne_eq_false_iff_eq.mpr c18
             clear c18
             have H' := am H
             clear H
             go_wp2
             go_meet
             case rel => exact ⟨_, ((((rd_T52 l0 (rd t312 x10_1)).f1) == 9)), (sq), H', ⟨by have := HK1.out; have := HJ10.out; first | omega | exact Nat.le_refl _⟩, ⟨rq HO_9.out⟩, ⟨bq⟩⟩
            ·rw [if_neg c18] at H
             have c18b0 : (((rd_T52 l0 (rd t312 x10_1)).f1) == 9) = false := beq_eq_false_iff_ne.mpr c18
             have c18b1 : (((rd_T52 l0 (rd t312 x10_1)).f1) != 9) = true := bne_iff_ne.mpr c18
             have H' := am H
             clear H
             go_wp2
             go_meet
             case rel => exact ⟨_, ((((rd_T52 l0 (rd t312 x10_1)).f1) == 10)), (sq), H', ⟨by have := HK1.out; have := HJ10.out; first | omega | exact Nat.le_refl _⟩, ⟨rq HO_9.out⟩, ⟨bq⟩⟩
          case rest =>
           clear HC16
           try clear c1
           try clear p2
           try clear p3
           try clear q3
           try clear hx3
           try clear c6
           try clear p6
           try clear c7
           try clear c7b0
           try clear c8
           try clear c8b0
           try clear c9
           try clear c9b0
           try clear c10
           try clear c10b0
           try clear c13
           try clear c13b0
           try clear c13b1
           try clear c14
           try clear c15
           try clear c17
           try clear c17b0
           try clear c17b1
           try clear c18
           try clear c18b0
           try clear c18b1
           try clear hx315_0
           try clear hx316_0
           try clear hx316_1
           try clear hx316_2
           try clear hx316_3
           try clear p2
           try clear p3
           try clear p315
           try clear p316
           try clear q3
           try clear q315
           try clear q316
           obtain ⟨kq, x41_15, rfl, HA, HJ15, HO_9, HB⟩ := hcut
           cases kq with
           | zero => exact absurd HA.out (by simp [impl_blockOk.j2])
           | succ kj15 =>
            have H := HA.out
            clear HA
            simp only [impl_blockOk.j2] at H
            by_cases c19 : x41_15 = true
            ·subst c19
             have H1 : (some false) = some r := by rw [if_pos rfl] at H; exact H
             clear H
             have H := H1
             clear H1
             obtain rfl := Option.some.inj H
             go_wp2
             go_ret
             exact ⟨Y0, bq⟩
            ·replace c19 := Bool.eq_false_iff.mpr c19
             subst c19
             have H1 : (if ((rd_T52 l0 (rd t312 x10_1)).f1) = 7 then ((impl_tryFrom.f kj15 l0 (rd t312 x10_1)).bind fun t317 => ((impl_tryOk.f l0 t317).bind fun t320 => (if t320 = true then (impl_blockOk.l1 kj15 l0 a3 t312 x10_1 t317 t317 (t317.length : Int) 0) else (some false)))) else (if ((rd_T52 l0 (rd t312 x10_1)).f1) = 11 then (impl_blockOk.j4 kj15 l0 a3 t312 x10_1 (rd t312 x10_1) ((rd_T52 l0 (rd t312 x10_1)).f1) (((rd_T52 l0 (rd t312 x10_1)).f1) == 11)) else (impl_blockOk.j4 kj15 l0 a3 t312 x10_1 (rd t312 x10_1) ((rd_T52 l0 (rd t312 x10_1)).f1) (((rd_T52 l0 (rd t312 x10_1)).f1) == 12)))) = some r := by rw [if_neg (show ¬ (false = true) by decide)] at H; exact H
             clear H
             have H := H1
             clear H1
             by_cases c20 : ((rd_T52 l0 (rd t312 x10_1)).f1) = 7
             ·rw [if_pos c20] at H
              have c20b0 : (((rd_T52 l0 (rd t312 x10_1)).f1) == 7) = true := beq_iff_eq.mpr c20
              have c20b1 : (((rd_T52 l0 (rd t312 x10_1)).f1) != 7) = false := bne_eq_false_iff_eq.mpr c20
              clear c20
              replace H := Option.bind_eq_some_iff.mp H
              obtain ⟨t317, A210, H⟩ := H
              replace H : ((impl_tryOk.f l0 t317).bind fun t320 => (if t320 = true then (impl_blockOk.l1 kj15 l0 a3 t312 x10_1 t317 t317 (t317.length : Int) 0) else (some false))) = some r := H
              have A21 := am A210
              clear A210
              replace H := Option.bind_eq_some_iff.mp H
              obtain ⟨t320, A220, H⟩ := H
              replace H : (if t320 = true then (impl_blockOk.l1 kj15 l0 a3 t312 x10_1 t317 t317 (t317.length : Int) 0) else (some false)) = some r := H
              have A22 := am A220
              clear A220
              by_cases c23 : t320 = true
              ·subst c23
               have H1 : (impl_blockOk.l1 kj15 l0 a3 t312 x10_1 t317 t317 (t317.length : Int) 0) = some r := by rw [if_pos rfl] at H; exact H
               clear H
               have H := H1
               clear H1
               have H' := am H
               clear H
               go_wp2_with (first | ((with_reducible refine gate_callee (f := 80) rfl ?_); refine gL (some 49) Try.func80 #[.slice (some ad316) l0.length c0, .int .i64 (rd t312 x10_1)] ?_; (with_reducible refine (impl_tryFrom.calls kj15 _ _ l0 (rd t312 x10_1) t317 _ ?side1 ?side2 A21.out).mono ?_); (case side1 => exact cq (Kd.C_below HR0.out HB.out)); (case side2 => exact HC0.out); rintro e w24 ⟨v318, rfl, ho0, hb⟩; refine ⟨_, rfl, ?_⟩; have HO319 := am (Kd.R_lower (Kd.R_new' ho0 (Kd.R_lt (rq HO_9.out))) (below_size (bq))); replace HO_9 := am (Kd.R_elder' (rq HO_9.out) (Kd.R_base ho0) hb); replace HB := am (below_step (bq) hb); (try clear hb); (try clear hb2); (try clear hk); (try clear hi); (try clear ho0); obtain ⟨Ao25, co25, eo25⟩ := Kd.R_slice HO319.out; subst eo25) | ((with_reducible refine gate_callee (f := 97) rfl ?_); refine gL (some 52) Try.func97 #[.slice (some ad316) l0.length c0, .slice Ao25 t317.length co25] ?_; (with_reducible refine (impl_tryOk.calls _ _ l0 _ _ t317 true _ ?side1 ?side2 ?side3 ?side4 A22.out).mono ?_); (case side1 => exact cq (Kd.C_below HR0.out HB.out)); (case side2 => exact HC0.out); (case side3 => exact cq (Kd.R_reads' HO319.out).2.2); (case side4 => exact (Kd.R_reads' HO319.out).2.1); rintro e w' ⟨rfl, ⟨nd, rfl⟩⟩; refine ⟨_, rfl, ?_⟩))
               go_loopg [56] kj15 (fun kq v56 w' => ∃ (x56_4 : Int), v56 = .int .i64 x56_4 ∧ Aside0 (impl_blockOk.l1 kq l0 a3 t312 x10_1 t317 t317 (t317.length : Int) x56_4 = some r) ∧ Aside0 (kq ≤ kj15) ∧ Aside0 (Kd.R (Kd.int .i64) 3 w' w.heap.size (fun k_ => some k_ ≠ ((.slice Ao25 t317.length co25) : Value).ownBlock ∧ some k_ ≠ ((.slice Ao25 t317.length co25) : Value).ownBlock) (.slice (some ad315) t312.length co12) t312) ∧ Aside0 (Kd.R (Kd.int .i64) 3 w' w.heap.size (fun k_ => some k_ ≠ ((.slice (some ad315) t312.length co12) : Value).ownBlock) (.slice Ao25 t317.length co25) t317) ∧ Aside0 (Kd.R (Kd.int .i64) 3 w' w.heap.size (fun k_ => some k_ ≠ ((.slice (some ad315) t312.length co12) : Value).ownBlock) (.slice Ao25 t317.length co25) t317) ∧ Aside0 (Below w.heap.size w w'))
               case atStart => exact ⟨(0), (sq), H', ⟨Nat.le_refl _⟩, ⟨by (with_reducible repeat (first | apply Kd.R_alloc | apply Kd.R_drewN | apply Kd.R_drew)); exact Kd.R_mono HO_9.out (fun _ hk => ⟨hk.2, hk.2⟩)⟩, ⟨by (with_reducible repeat (first | apply Kd.R_alloc | apply Kd.R_drewN | apply Kd.R_drew)); exact Kd.R_mono HO319.out (fun _ hk => hk.2)⟩, ⟨by (with_reducible repeat (first | apply Kd.R_alloc | apply Kd.R_drewN | apply Kd.R_drew)); exact Kd.R_mono HO319.out (fun _ hk => hk.2)⟩, ⟨bq⟩⟩
               case round =>
                clear H'
                try clear c1
                try clear c2
                try clear p2
                try clear p3
                try clear q3
                try clear hx3
                try clear c6
                try clear p6
                try clear c7
                try clear c7b0
                try clear c8
                try clear c8b0
                try clear c9
                try clear c9b0
                try clear c10
                try clear c10b0
                try clear c13
                try clear c13b0
                try clear c13b1
                try clear c14
                try clear c15
                try clear c17
                try clear c17b0
                try clear c17b1
                try clear c18
                try clear c18b0
                try clear c18b1
                try clear c19
                try clear c20
                try clear c20b0
                try clear c20b1
                try clear c23
                try clear hx315_0
                try clear hx316_0
                try clear hx316_1
                try clear hx316_2
                try clear hx316_3
                try clear p2
                try clear p3
                try clear p315
                try clear p316
                try clear p6
                try clear q3
                try clear q315
                try clear q316
                obtain ⟨x56_4, rfl, HA, HK4, HO_9, HO_13, HO_54, HB⟩ := hrel
                cases gk with
                | zero => exact absurd HA.out (by simp [impl_blockOk.l1])
                | succ k4 =>
                 have H := HA.out
                 clear HA
                 simp only [impl_blockOk.l1] at H
                 by_cases c26 : x56_4 < (t317.length : Int)
                 ·rw [if_pos c26] at H
                  have c26b0 : decide (x56_4 < (t317.length : Int)) = true := decide_eq_true c26
                  clear c26
                  by_cases c27 : 0 ≤ x56_4
                  ·rw [if_pos c27] at H
                   have c27b0 : decide (0 ≤ x56_4) = true := decide_eq_true c27
                   clear c27
                   by_cases c28 : x56_4 < (t317.length : Int)
                   ·rw [if_pos c28] at H
                    have c28b0 : decide (x56_4 < (t317.length : Int)) = true := decide_eq_true c28
                    clear c28
                    replace H := Option.bind_eq_some_iff.mp H
                    obtain ⟨t322, A290, H⟩ := H
                    replace H : ((impl_blockOk.f k4 l0 (wrap64 ((rd t317 x56_4) + 1)) t322 a3).bind fun t323 => (if t323 = true then (impl_blockOk.l1 k4 l0 a3 t312 x10_1 t317 t317 (t317.length : Int) (wrap64 (x56_4 + 1))) else (some false))) = some r := H
                    have A29 := am A290
                    clear A290
                    replace H := Option.bind_eq_some_iff.mp H
                    obtain ⟨t323, A300, H⟩ := H
                    replace H : (if t323 = true then (impl_blockOk.l1 k4 l0 a3 t312 x10_1 t317 t317 (t317.length : Int) (wrap64 (x56_4 + 1))) else (some false)) = some r := H
                    have A30 := am A300
                    clear A300
                    by_cases c31 : t323 = true
                    ·subst c31
                     have H1 : (impl_blockOk.l1 k4 l0 a3 t312 x10_1 t317 t317 (t317.length : Int) (wrap64 (x56_4 + 1))) = some r := by rw [if_pos rfl] at H; exact H
                     clear H
                     have H := H1
                     clear H1
                     have H' := am H
                     clear H
                     have p321 : 0 ≤ (x56_4 : Int) := of_decide_eq_true (uq)
                     have q321 : x56_4 < (t317.length : Int) := of_decide_eq_true (uq)
                     obtain ⟨ad321, e321, hx321_0⟩ := Kd.at_int (Kd.R_reads' HO_54.out).2.2 x56_4 p321 q321
                     cases e321
                     replace p321 := eq_true p321
                     replace q321 := eq_true q321
                     go_wp2_with (first | ((with_reducible refine gate_callee (f := 89) rfl ?_); refine gL (some 65) Try.func89 #[.slice (some ad316) l0.length c0, .int .i64 (rd t317 x56_4)] ?_; (with_reducible refine (impl_endOf.calls k4 _ _ l0 (rd t317 x56_4) t322 _ ?side1 ?side2 A29.out).mono ?_); (case side1 => exact cq (Kd.C_below HR0.out HB.out)); (case side2 => exact HC0.out); rintro e w' ⟨rfl, ⟨nd, rfl⟩⟩; refine ⟨_, rfl, ?_⟩) | ((with_reducible refine gate_callee (f := 68) rfl ?_); refine gL (some 67) Try.func68 #[.slice (some ad316) l0.length c0, .int .i64 (wrap64 ((rd t317 x56_4) + 1)), .int .i64 t322, .bool a3] ?_; (with_reducible refine (ih k4 (by have := HK1.out; have := HJ10.out; have := HJ15.out; have := HK4.out; omega) _ _ l0 (wrap64 ((rd t317 x56_4) + 1)) t322 a3 true _ ?side1 ?side2 A30.out).mono ?_); (case side1 => exact cq (Kd.C_below HR0.out (bq))); (case side2 => exact HC0.out); rintro e w32 ⟨rfl, hb⟩; refine ⟨_, rfl, ?_⟩; replace HO_9 := am (Kd.R_below (rq HO_9.out) hb); replace HO_13 := am (Kd.R_below (rq HO_13.out) hb); replace HO_54 := am (Kd.R_below (rq HO_54.out) hb); replace HB := am (below_step (bq) hb); (try clear hb); (try clear hb2); (try clear hk); (try clear hi)))
                     go_roundg k4
                     case measure => have := HK1.out; have := HJ10.out; have := HJ15.out; have := HK4.out; omega
                     case rel => exact ⟨(wrap64 (x56_4 + 1)), (sq), H', ⟨by have := HK1.out; have := HJ10.out; have := HJ15.out; have := HK4.out; omega⟩, ⟨rq HO_9.out⟩, ⟨rq HO_13.out⟩, ⟨rq HO_54.out⟩, ⟨bq⟩⟩
                    ·replace c31 := Bool.eq_false_iff.mpr c31
                     subst c31
                     have H1 : (some false) = some r := by rw [if_neg (show ¬ (false = true) by decide)] at H; exact H
                     clear H
                     have H := H1
                     clear H1
                     obtain rfl := Option.some.inj H
                     have p321 : 0 ≤ (x56_4 : Int) := of_decide_eq_true (uq)
                     have q321 : x56_4 < (t317.length : Int) := of_decide_eq_true (uq)
                     obtain ⟨ad321, e321, hx321_0⟩ := Kd.at_int (Kd.R_reads' HO_54.out).2.2 x56_4 p321 q321
                     cases e321
                     replace p321 := eq_true p321
                     replace q321 := eq_true q321
                     go_wp2_with (first | ((with_reducible refine gate_callee (f := 89) rfl ?_); refine gL (some 65) Try.func89 #[.slice (some ad316) l0.length c0, .int .i64 (rd t317 x56_4)] ?_; (with_reducible refine (impl_endOf.calls k4 _ _ l0 (rd t317 x56_4) t322 _ ?side1 ?side2 A29.out).mono ?_); (case side1 => exact cq (Kd.C_below HR0.out HB.out)); (case side2 => exact HC0.out); rintro e w' ⟨rfl, ⟨nd, rfl⟩⟩; refine ⟨_, rfl, ?_⟩) | ((with_reducible refine gate_callee (f := 68) rfl ?_); refine gL (some 67) Try.func68 #[.slice (some ad316) l0.length c0, .int .i64 (wrap64 ((rd t317 x56_4) + 1)), .int .i64 t322, .bool a3] ?_; (with_reducible refine (ih k4 (by have := HK1.out; have := HJ10.out; have := HJ15.out; have := HK4.out; omega) _ _ l0 (wrap64 ((rd t317 x56_4) + 1)) t322 a3 false _ ?side1 ?side2 A30.out).mono ?_); (case side1 => exact cq (Kd.C_below HR0.out (bq))); (case side2 => exact HC0.out); rintro e w33 ⟨rfl, hb⟩; refine ⟨_, rfl, ?_⟩; replace HO_9 := am (Kd.R_below (rq HO_9.out) hb); replace HO_13 := am (Kd.R_below (rq HO_13.out) hb); replace HO_54 := am (Kd.R_below (rq HO_54.out) hb); replace HB := am (below_step (bq) hb); (try clear hb); (try clear hb2); (try clear hk); (try clear hi)))
                     go_ret
                     exact ⟨Y0, bq⟩
                   ·rw [if_neg c28] at H
                    exact absurd H (by simp)
                  ·rw [if_neg c27] at H
                   exact absurd H (by simp)
                 ·rw [if_neg c26] at H
                  have c26b0 : decide (x56_4 < (t317.length : Int)) = false := decide_eq_false c26
                  clear c26
                  have H' := am H
                  clear H
                  go_wp2
                  go_roundg k4
                  case measure => have := HK1.out; have := HJ10.out; have := HJ15.out; have := HK4.out; omega
                  case rel => exact ⟨(wrap64 ((wrap64 (x10_1 + (wrap64 ((t317.length : Int) - 1)))) + 1)), (sq), H', ⟨by have := HK1.out; have := HJ10.out; have := HJ15.out; have := HK4.out; omega⟩, ⟨by (with_reducible repeat (first | apply Kd.R_alloc | apply Kd.R_drewN | apply Kd.R_drew)); exact Kd.R_mono HO_9.out (fun _ hk => trivial)⟩, ⟨bq⟩⟩
              ·replace c23 := Bool.eq_false_iff.mpr c23
               subst c23
               have H1 : (some false) = some r := by rw [if_neg (show ¬ (false = true) by decide)] at H; exact H
               clear H
               have H := H1
               clear H1
               obtain rfl := Option.some.inj H
               go_wp2_with (first | ((with_reducible refine gate_callee (f := 80) rfl ?_); refine gL (some 49) Try.func80 #[.slice (some ad316) l0.length c0, .int .i64 (rd t312 x10_1)] ?_; (with_reducible refine (impl_tryFrom.calls kj15 _ _ l0 (rd t312 x10_1) t317 _ ?side1 ?side2 A21.out).mono ?_); (case side1 => exact cq (Kd.C_below HR0.out HB.out)); (case side2 => exact HC0.out); rintro e w34 ⟨v318, rfl, ho0, hb⟩; refine ⟨_, rfl, ?_⟩; have HO319 := am (Kd.R_lower (Kd.R_new' ho0 (Kd.R_lt (rq HO_9.out))) (below_size (bq))); replace HO_9 := am (Kd.R_elder' (rq HO_9.out) (Kd.R_base ho0) hb); replace HB := am (below_step (bq) hb); (try clear hb); (try clear hb2); (try clear hk); (try clear hi); (try clear ho0); obtain ⟨Ao35, co35, eo35⟩ := Kd.R_slice HO319.out; subst eo35) | ((with_reducible refine gate_callee (f := 97) rfl ?_); refine gL (some 52) Try.func97 #[.slice (some ad316) l0.length c0, .slice Ao35 t317.length co35] ?_; (with_reducible refine (impl_tryOk.calls _ _ l0 _ _ t317 false _ ?side1 ?side2 ?side3 ?side4 A22.out).mono ?_); (case side1 => exact cq (Kd.C_below HR0.out HB.out)); (case side2 => exact HC0.out); (case side3 => exact cq (Kd.R_reads' HO319.out).2.2); (case side4 => exact (Kd.R_reads' HO319.out).2.1); rintro e w' ⟨rfl, ⟨nd, rfl⟩⟩; refine ⟨_, rfl, ?_⟩))
               go_ret
               exact ⟨Y0, bq⟩
             ·rw [if_neg c20] at H
              have c20b0 : (((rd_T52 l0 (rd t312 x10_1)).f1) == 7) = false := beq_eq_false_iff_ne.mpr c20
              have c20b1 : (((rd_T52 l0 (rd t312 x10_1)).f1) != 7) = true := bne_iff_ne.mpr c20
              have HC36 := am H
              clear H
              go_upto_if 75 with (fail)
              go_cut [75] (fun v75 wc => ∃ (kq : Nat) (x75_35 : Bool), v75 = .bool x75_35 ∧ Aside0 (impl_blockOk.j4 kq l0 a3 t312 x10_1 (rd t312 x10_1) ((rd_T52 l0 (rd t312 x10_1)).f1) x75_35 = some r) ∧ Aside0 (kq ≤ kj15) ∧ Aside0 (Kd.R (Kd.int .i64) 3 wc w.heap.size (fun _ => True) (.slice (some ad315) t312.length co12) t312) ∧ Aside0 (Below w.heap.size w wc))
              case first =>
               have H := HC36.out
               clear HC36
               by_cases c37 : ((rd_T52 l0 (rd t312 x10_1)).f1) = 11
               ·rw [if_pos c37] at H
                have c37b0 : (((rd_T52 l0 (rd t312 x10_1)).f1) == 11) = true := beq_iff_eq.mpr c37
                have c37b1 : (((rd_T52 l0 (rd t312 x10_1)).f1) != 11) = false := bne_eq_false_iff_eq.mpr c37
                clear c37
                (first | rw [c37b0] | (simp only [i64_w, i32_w]; rw [c37b0]) | skip)
                have H' := am H
                clear H
                go_wp2
                go_meet
                case rel => exact ⟨_, ((((rd_T52 l0 (rd t312 x10_1)).f1) == 11)), (sq), H', ⟨by have := HK1.out; have := HJ10.out; have := HJ15.out; first | omega | exact Nat.le_refl _⟩, ⟨rq HO_9.out⟩, ⟨bq⟩⟩
               ·rw [if_neg c37] at H
                have c37b0 : (((rd_T52 l0 (rd t312 x10_1)).f1) == 11) = false := beq_eq_false_iff_ne.mpr c37
                have c37b1 : (((rd_T52 l0 (rd t312 x10_1)).f1) != 11) = true := bne_iff_ne.mpr c37
                (first | rw [c37b0] | (simp only [i64_w, i32_w]; rw [c37b0]) | skip)
                have H' := am H
                clear H
                go_wp2
                go_meet
                case rel => exact ⟨_, ((((rd_T52 l0 (rd t312 x10_1)).f1) == 12)), (sq), H', ⟨by have := HK1.out; have := HJ10.out; have := HJ15.out; first | omega | exact Nat.le_refl _⟩, ⟨rq HO_9.out⟩, ⟨bq⟩⟩
              case rest =>
               clear HC36
               try clear c1
               try clear c2
               try clear p2
               try clear c3
               try clear p3
               try clear q3
               try clear hx3
               try clear c6
               try clear p6
               try clear c7
               try clear c7b0
               try clear c8
               try clear c8b0
               try clear c9
               try clear c9b0
               try clear c10
               try clear c10b0
               try clear c13
               try clear c13b0
               try clear c13b1
               try clear c14
               try clear c15
               try clear c17
               try clear c17b0
               try clear c17b1
               try clear c18
               try clear c18b0
               try clear c18b1
               try clear c19
               try clear c20
               try clear c20b0
               try clear c20b1
               try clear c23
               try clear c26
               try clear c26b0
               try clear c27
               try clear c27b0
               try clear c28
               try clear c28b0
               try clear c31
               try clear p31
               try clear q31
               try clear hx31
               try clear p32
               try clear q32
               try clear hx32
               try clear c37
               try clear c37b0
               try clear c37b1
               try clear hx315_0
               try clear hx316_0
               try clear hx316_1
               try clear hx316_2
               try clear hx316_3
               try clear hx321_0
               try clear p2
               try clear p3
               try clear p315
               try clear p316
               try clear p321
               try clear p6
               try clear q3
               try clear q315
               try clear q316
               try clear q321
               obtain ⟨kq, x75_35, rfl, HA, HJ35, HO_9, HB⟩ := hcut
               cases kq with
               | zero => exact absurd HA.out (by simp [impl_blockOk.j4])
               | succ kj35 =>
                have H := HA.out
                clear HA
                simp only [impl_blockOk.j4] at H
                by_cases c38 : x75_35 = true
                ·subst c38
                 have H1 : ((impl_endOf.f kj35 l0 (rd t312 x10_1)).bind fun t324 => (if a3 = true then ((impl_blockOk.f kj35 l0 (wrap64 ((rd t312 x10_1) + 1)) t324 true).bind fun t325 => (if t325 = true then (impl_blockOk.l0 kj35 l0 a3 t312 (wrap64 (x10_1 + 1))) else (some false))) else ((impl_blockOk.f kj35 l0 (wrap64 ((rd t312 x10_1) + 1)) t324 (((rd_T52 l0 (rd t312 x10_1)).f1) == 12)).bind fun t326 => (if t326 = true then (impl_blockOk.l0 kj35 l0 a3 t312 (wrap64 (x10_1 + 1))) else (some false))))) = some r := by rw [if_pos rfl] at H; exact H
                 clear H
                 have H := H1
                 clear H1
                 replace H := Option.bind_eq_some_iff.mp H
                 obtain ⟨t324, A390, H⟩ := H
                 replace H : (if a3 = true then ((impl_blockOk.f kj35 l0 (wrap64 ((rd t312 x10_1) + 1)) t324 true).bind fun t325 => (if t325 = true then (impl_blockOk.l0 kj35 l0 a3 t312 (wrap64 (x10_1 + 1))) else (some false))) else ((impl_blockOk.f kj35 l0 (wrap64 ((rd t312 x10_1) + 1)) t324 (((rd_T52 l0 (rd t312 x10_1)).f1) == 12)).bind fun t326 => (if t326 = true then (impl_blockOk.l0 kj35 l0 a3 t312 (wrap64 (x10_1 + 1))) else (some false)))) = some r := H
                 have A39 := am A390
                 clear A390
                 by_cases c40 : a3 = true
                 ·subst c40
                  have H1 : ((impl_blockOk.f kj35 l0 (wrap64 ((rd t312 x10_1) + 1)) t324 true).bind fun t325 => (if t325 = true then (impl_blockOk.l0 kj35 l0 true t312 (wrap64 (x10_1 + 1))) else (some false))) = some r := by rw [if_pos rfl] at H; exact H
                  clear H
                  have H := H1
                  clear H1
                  replace H := Option.bind_eq_some_iff.mp H
                  obtain ⟨t325, A410, H⟩ := H
                  replace H : (if t325 = true then (impl_blockOk.l0 kj35 l0 true t312 (wrap64 (x10_1 + 1))) else (some false)) = some r := H
                  have A41 := am A410
                  clear A410
                  by_cases c42 : t325 = true
                  ·subst c42
                   have H1 : (impl_blockOk.l0 kj35 l0 true t312 (wrap64 (x10_1 + 1))) = some r := by rw [if_pos rfl] at H; exact H
                   clear H
                   have H := H1
                   clear H1
                   have H' := am H
                   clear H
                   go_wp2_with (first | ((with_reducible refine gate_callee (f := 89) rfl ?_); refine gL (some 83) Try.func89 #[.slice (some ad316) l0.length c0, .int .i64 (rd t312 x10_1)] ?_; (with_reducible refine (impl_endOf.calls kj35 _ _ l0 (rd t312 x10_1) t324 _ ?side1 ?side2 A39.out).mono ?_); (case side1 => exact cq (Kd.C_below HR0.out HB.out)); (case side2 => exact HC0.out); rintro e w' ⟨rfl, ⟨nd, rfl⟩⟩; refine ⟨_, rfl, ?_⟩) | ((with_reducible refine gate_callee (f := 68) rfl ?_); refine gL (some 89) Try.func68 #[.slice (some ad316) l0.length c0, .int .i64 (wrap64 ((rd t312 x10_1) + 1)), .int .i64 t324, .bool true] ?_; (with_reducible refine (ih kj35 (by have := HK1.out; have := HJ10.out; have := HJ15.out; have := HJ35.out; omega) _ _ l0 (wrap64 ((rd t312 x10_1) + 1)) t324 true true _ ?side1 ?side2 A41.out).mono ?_); (case side1 => exact cq (Kd.C_below HR0.out (bq))); (case side2 => exact HC0.out); rintro e w43 ⟨rfl, hb⟩; refine ⟨_, rfl, ?_⟩; replace HO_9 := am (Kd.R_below (rq HO_9.out) hb); replace HB := am (below_step (bq) hb); (try clear hb); (try clear hb2); (try clear hk); (try clear hi)))
                   go_roundg kj35
                   case measure => have := HK1.out; have := HJ10.out; have := HJ15.out; have := HJ35.out; omega
                   case rel => exact ⟨(wrap64 (x10_1 + 1)), (sq), H', ⟨by have := HK1.out; have := HJ10.out; have := HJ15.out; have := HJ35.out; omega⟩, ⟨rq HO_9.out⟩, ⟨bq⟩⟩
                  ·replace c42 := Bool.eq_false_iff.mpr c42
                   subst c42
                   have H1 : (some false) = some r := by rw [if_neg (show ¬ (false = true) by decide)] at H; exact H
                   clear H
                   have H := H1
                   clear H1
                   obtain rfl := Option.some.inj H
                   go_wp2_with (first | ((with_reducible refine gate_callee (f := 89) rfl ?_); refine gL (some 83) Try.func89 #[.slice (some ad316) l0.length c0, .int .i64 (rd t312 x10_1)] ?_; (with_reducible refine (impl_endOf.calls kj35 _ _ l0 (rd t312 x10_1) t324 _ ?side1 ?side2 A39.out).mono ?_); (case side1 => exact cq (Kd.C_below HR0.out HB.out)); (case side2 => exact HC0.out); rintro e w' ⟨rfl, ⟨nd, rfl⟩⟩; refine ⟨_, rfl, ?_⟩) | ((with_reducible refine gate_callee (f := 68) rfl ?_); refine gL (some 89) Try.func68 #[.slice (some ad316) l0.length c0, .int .i64 (wrap64 ((rd t312 x10_1) + 1)), .int .i64 t324, .bool true] ?_; (with_reducible refine (ih kj35 (by have := HK1.out; have := HJ10.out; have := HJ15.out; have := HJ35.out; omega) _ _ l0 (wrap64 ((rd t312 x10_1) + 1)) t324 true false _ ?side1 ?side2 A41.out).mono ?_); (case side1 => exact cq (Kd.C_below HR0.out (bq))); (case side2 => exact HC0.out); rintro e w44 ⟨rfl, hb⟩; refine ⟨_, rfl, ?_⟩; replace HO_9 := am (Kd.R_below (rq HO_9.out) hb); replace HB := am (below_step (bq) hb); (try clear hb); (try clear hb2); (try clear hk); (try clear hi)))
                   go_ret
                   exact ⟨Y0, bq⟩
                 ·replace c40 := Bool.eq_false_iff.mpr c40
                  subst c40
                  have H1 : ((impl_blockOk.f kj35 l0 (wrap64 ((rd t312 x10_1) + 1)) t324 (((rd_T52 l0 (rd t312 x10_1)).f1) == 12)).bind fun t326 => (if t326 = true then (impl_blockOk.l0 kj35 l0 false t312 (wrap64 (x10_1 + 1))) else (some false))) = some r := by rw [if_neg (show ¬ (false = true) by decide)] at H; exact H
                  clear H
                  have H := H1
                  clear H1
                  replace H := Option.bind_eq_some_iff.mp H
                  obtain ⟨t326, A450, H⟩ := H
                  replace H : (if t326 = true then (impl_blockOk.l0 kj35 l0 false t312 (wrap64 (x10_1 + 1))) else (some false)) = some r := H
                  have A45 := am A450
                  clear A450
                  by_cases c46 : t326 = true
                  ·subst c46
                   have H1 : (impl_blockOk.l0 kj35 l0 false t312 (wrap64 (x10_1 + 1))) = some r := by rw [if_pos rfl] at H; exact H
                   clear H
                   have H := H1
                   clear H1
                   have H' := am H
                   clear H
                   go_wp2_with (first | ((with_reducible refine gate_callee (f := 89) rfl ?_); refine gL (some 83) Try.func89 #[.slice (some ad316) l0.length c0, .int .i64 (rd t312 x10_1)] ?_; (with_reducible refine (impl_endOf.calls kj35 _ _ l0 (rd t312 x10_1) t324 _ ?side1 ?side2 A39.out).mono ?_); (case side1 => exact cq (Kd.C_below HR0.out HB.out)); (case side2 => exact HC0.out); rintro e w' ⟨rfl, ⟨nd, rfl⟩⟩; refine ⟨_, rfl, ?_⟩) | ((with_reducible refine gate_callee (f := 68) rfl ?_); refine gL (some 89) Try.func68 #[.slice (some ad316) l0.length c0, .int .i64 (wrap64 ((rd t312 x10_1) + 1)), .int .i64 t324, .bool (((rd_T52 l0 (rd t312 x10_1)).f1) == 12)] ?_; (with_reducible refine (ih kj35 (by have := HK1.out; have := HJ10.out; have := HJ15.out; have := HJ35.out; omega) _ _ l0 (wrap64 ((rd t312 x10_1) + 1)) t324 (((rd_T52 l0 (rd t312 x10_1)).f1) == 12) true _ ?side1 ?side2 A45.out).mono ?_); (case side1 => exact cq (Kd.C_below HR0.out (bq))); (case side2 => exact HC0.out); rintro e w47 ⟨rfl, hb⟩; refine ⟨_, rfl, ?_⟩; replace HO_9 := am (Kd.R_below (rq HO_9.out) hb); replace HB := am (below_step (bq) hb); (try clear hb); (try clear hb2); (try clear hk); (try clear hi)))
                   go_roundg kj35
                   case measure => have := HK1.out; have := HJ10.out; have := HJ15.out; have := HJ35.out; omega
                   case rel => exact ⟨(wrap64 (x10_1 + 1)), (sq), H', ⟨by have := HK1.out; have := HJ10.out; have := HJ15.out; have := HJ35.out; omega⟩, ⟨rq HO_9.out⟩, ⟨bq⟩⟩
                  ·replace c46 := Bool.eq_false_iff.mpr c46
                   subst c46
                   have H1 : (some false) = some r := by rw [if_neg (show ¬ (false = true) by decide)] at H; exact H
                   clear H
                   have H := H1
                   clear H1
                   obtain rfl := Option.some.inj H
                   go_wp2_with (first | ((with_reducible refine gate_callee (f := 89) rfl ?_); refine gL (some 83) Try.func89 #[.slice (some ad316) l0.length c0, .int .i64 (rd t312 x10_1)] ?_; (with_reducible refine (impl_endOf.calls kj35 _ _ l0 (rd t312 x10_1) t324 _ ?side1 ?side2 A39.out).mono ?_); (case side1 => exact cq (Kd.C_below HR0.out HB.out)); (case side2 => exact HC0.out); rintro e w' ⟨rfl, ⟨nd, rfl⟩⟩; refine ⟨_, rfl, ?_⟩) | ((with_reducible refine gate_callee (f := 68) rfl ?_); refine gL (some 89) Try.func68 #[.slice (some ad316) l0.length c0, .int .i64 (wrap64 ((rd t312 x10_1) + 1)), .int .i64 t324, .bool (((rd_T52 l0 (rd t312 x10_1)).f1) == 12)] ?_; (with_reducible refine (ih kj35 (by have := HK1.out; have := HJ10.out; have := HJ15.out; have := HJ35.out; omega) _ _ l0 (wrap64 ((rd t312 x10_1) + 1)) t324 (((rd_T52 l0 (rd t312 x10_1)).f1) == 12) false _ ?side1 ?side2 A45.out).mono ?_); (case side1 => exact cq (Kd.C_below HR0.out (bq))); (case side2 => exact HC0.out); rintro e w48 ⟨rfl, hb⟩; refine ⟨_, rfl, ?_⟩; replace HO_9 := am (Kd.R_below (rq HO_9.out) hb); replace HB := am (below_step (bq) hb); (try clear hb); (try clear hb2); (try clear hk); (try clear hi)))
                   go_ret
                   exact ⟨Y0, bq⟩
                ·replace c38 := Bool.eq_false_iff.mpr c38
                 subst c38
                 have H1 : (impl_blockOk.l0 kj35 l0 a3 t312 (wrap64 (x10_1 + 1))) = some r := by rw [if_neg (show ¬ (false = true) by decide)] at H; exact H
                 clear H
                 have H := H1
                 clear H1
                 have H' := am H
                 clear H
                 go_wp2
                 go_roundg kj35
                 case measure => have := HK1.out; have := HJ10.out; have := HJ15.out; have := HJ35.out; omega
                 case rel => exact ⟨(wrap64 (x10_1 + 1)), (sq), H', ⟨by have := HK1.out; have := HJ10.out; have := HJ15.out; have := HJ35.out; omega⟩, ⟨rq HO_9.out⟩, ⟨bq⟩⟩
      ·rw [if_neg c10] at H
       exact absurd H (by simp)
     ·rw [if_neg c9] at H
      exact absurd H (by simp)
    ·rw [if_neg c8] at H
     exact absurd H (by simp)
   ·rw [if_neg c7] at H
    have c7b0 : decide (x10_1 < (t312.length : Int)) = false := decide_eq_false c7
    clear c7
    obtain rfl := Option.some.inj H
    obtain ⟨Ao49, co49, eo49⟩ := Kd.R_slice HO_9.out
    subst eo49
    go_wp2
    go_ret
    exact ⟨Y0, bq⟩
def inB (a lo hi : Int) : Bool := decide (lo ≤ a) && decide (a ≤ hi)
theorem impl_within_eq (a lo hi : Int) : impl_within.f a lo hi = some (inB a lo hi) := by
 unfold impl_within.f inB
 by_cases h : a ≥ lo
 ·rw [if_pos h]; simp [show lo ≤ a from h]
 ·rw [if_neg h]; simp [show ¬ lo ≤ a from h]
theorem impl_Line_opens_eq (a b c d : Int) : impl_Line_opens.f a b c d = some (inB b 7 12) := by
 unfold impl_Line_opens.f
 rw [impl_within_eq]; rfl
def VF (W : World) (B1 BL BT : Nat) (a x : S52) (tv : Value) : Prop :=
 W.heap[B1]? = some (.cells #[.int .i64 a.f0, .int .i64 a.f1, .int .i64 a.f2, .int .i64 a.f3] 52 (0, 0)) ∧ W.heap[BL]? = some (.cells #[.int .i64 x.f0, .int .i64 x.f1, .int .i64 x.f2, .int .i64 x.f3] 52 (0, 0)) ∧ W.cell? ⟨BT, 0, none⟩ = some tv
theorem VF.below {W W' : World} {B1 BL BT : Nat} {a x : S52} {tv : Value} (h : VF W B1 BL BT a x tv) (hb : Below W.heap.size W W') : VF W' B1 BL BT a x tv :=
 ⟨(hb.block _ (blk_lt h.1)).trans h.1, (hb.block _ (blk_lt h.2.1)).trans h.2.1, pw_cell_below hb h.2.2⟩
theorem VF.cells {W : World} {B1 BL BT : Nat} {a x : S52} {tv : Value} (h : VF W B1 BL BT a x tv) :
  W.cell? ⟨B1, 0, none⟩ = some (.int .i64 a.f0) ∧ W.cell? ⟨B1, 1, none⟩ = some (.int .i64 a.f1) ∧ W.cell? ⟨B1, 2, none⟩ = some (.int .i64 a.f2) ∧ W.cell? ⟨B1, 3, none⟩ = some (.int .i64 a.f3) ∧
  W.cell? ⟨BL, 0, none⟩ = some (.int .i64 x.f0) ∧ W.cell? ⟨BL, 1, none⟩ = some (.int .i64 x.f1) ∧ W.cell? ⟨BL, 2, none⟩ = some (.int .i64 x.f2) ∧ W.cell? ⟨BL, 3, none⟩ = some (.int .i64 x.f3) ∧ W.cell? ⟨BT, 0, none⟩ = some tv :=
 ⟨(blk_cell h.1 0).trans rfl, (blk_cell h.1 1).trans rfl, (blk_cell h.1 2).trans rfl, (blk_cell h.1 3).trans rfl, (blk_cell h.2.1 0).trans rfl, (blk_cell h.2.1 1).trans rfl, (blk_cell h.2.1 2).trans rfl, (blk_cell h.2.1 3).trans rfl, h.2.2⟩
theorem VF.frozen {W : World} {B1 BL BT : Nat} {a x : S52} {tv : Value} (h : VF W B1 BL BT a x tv) : W.frozen? ⟨B1, 0, none⟩ = false ∧ W.frozen? ⟨B1, 1, none⟩ = false ∧ W.frozen? ⟨B1, 2, none⟩ = false ∧ W.frozen? ⟨B1, 3, none⟩ = false :=
 ⟨blk_frozen h.1 0, blk_frozen h.1 1, blk_frozen h.1 2, blk_frozen h.1 3⟩
theorem four_stored {W : World} {B T : Nat} {a b c d a' b' c' d' : Value} (h : W.heap[B]? = some (.cells #[a, b, c, d] T (0, 0))) :
  ((((W.setCell ⟨B, 0, none⟩ a').setCell ⟨B, 1, none⟩ b').setCell ⟨B, 2, none⟩ c').setCell ⟨B, 3, none⟩ d').heap[B]? = some (.cells #[a', b', c', d'] T (0, 0)) := by
 have h0 := blk_set h 0 a'
 have h1 := blk_set h0 1 b'
 have h2 := blk_set h1 2 c'
 have h3 := blk_set h2 3 d'
 simpa using h3
theorem four_below {W w : World} {base B : Nat} {a' b' c' d' : Value} (h : Below base w W) (hB : base ≤ B) :
  Below base w ((((W.setCell ⟨B, 0, none⟩ a').setCell ⟨B, 1, none⟩ b').setCell ⟨B, 2, none⟩ c').setCell ⟨B, 3, none⟩ d') :=
 (((h.setCell (p := ⟨B, 0, none⟩) hB _).setCell (p := ⟨B, 1, none⟩) hB _).setCell (p := ⟨B, 2, none⟩) hB _).setCell (p := ⟨B, 3, none⟩) hB _
theorem four_far {W : World} {B C : Nat} {a' b' c' d' v : Value} (h : W.cell? ⟨C, 0, none⟩ = some v) (hne : B ≠ C) :
  ((((W.setCell ⟨B, 0, none⟩ a').setCell ⟨B, 1, none⟩ b').setCell ⟨B, 2, none⟩ c').setCell ⟨B, 3, none⟩ d').cell? ⟨C, 0, none⟩ = some v := by
 have e : ∀ j, (⟨B, j, none⟩ : Addr) ≠ ⟨C, 0, none⟩ := fun j hj => hne (by injection hj)
 rw [World.cell?_setCell_other (h := e 3), World.cell?_setCell_other (h := e 2), World.cell?_setCell_other (h := e 1), World.cell?_setCell_other (h := e 0)]
 exact h
def impl_ValidProgram.bad (x last : S52) : Bool := !inB x.f0 0 5 || (inB last.f1 7 12 && decide (x.f0 ≠ last.f0 + 1)) || (!inB last.f1 7 12 && decide (last.f0 < x.f0))
def impl_ValidProgram.go (k : Nat) (t : List S87) : List S52 → S52 → Option (Option S52)
 | [], last => some (some last)
 | x :: xs, last => (impl_Line_argued.f k x.f0 x.f1 x.f2 x.f3 t).bind fun v => if v = false then some none else if impl_ValidProgram.bad x last then some none else impl_ValidProgram.go k t xs x
def impl_ValidProgram.f (k : Nat) (l0_0 : List S87) (l1 : List S52) : Option Bool := (impl_ValidTree.f k l0_0).bind fun v =>
 if v = false then some false else if 24 < l1.length then some false else
 (impl_ValidProgram.go k l0_0 l1 ⟨-1, 7, 0, 0⟩).bind fun q => match q with
 | none => some false
 | some last => if l1.length = 0 then impl_blockOk.f k l1 0 (l1.length : Int) false else if inB last.f1 7 12 then some false else impl_blockOk.f k l1 0 (l1.length : Int) false
theorem impl_ValidProgram.step {k : Nat} {t : List S87} {p : List S52} {n : Nat} {last : S52} {q : Option S52} (hn : n < p.length) (h : impl_ValidProgram.go k t (p.drop n) last = some q) :
  ∃ v, impl_Line_argued.f k p[n].f0 p[n].f1 p[n].f2 p[n].f3 t = some v ∧ (if v = false then some none else if impl_ValidProgram.bad p[n] last then some none else impl_ValidProgram.go k t (p.drop (n + 1)) p[n]) = some q := by
 rw [List.drop_eq_getElem_cons hn] at h
 exact Option.bind_eq_some_iff.mp h
set_option maxHeartbeats 8000000 in
set_option maxRecDepth 100000 in
theorem impl_ValidProgram.calls (k : Nat) (A0_0 : Option Addr) (c0_0 : Nat) (l0_0 : List S87) (A1 : Option Addr) (c1 : Nat) (l1 : List S52) (r : Bool) (w : World) (hr0_0 : Kd.C k87 w A0_0 l0_0.length l0_0) (hc0_0 : l0_0.length ≤ c0_0) (hr1 : Kd.C k52 w A1 l1.length l1) (hc1 : l1.length ≤ c1) (h : impl_ValidProgram.f k l0_0 l1 = some r) :
  Calls Try.prog 29 #[.agg #[.slice A0_0 l0_0.length c0_0], .slice A1 l1.length c1] w fun e w' => e = .returned (.bool r) ∧ Below w.heap.size w w' := by
 have hu32 := Try.underlying32
 have hu52 := Try.underlying52
 have hm : l1.length ≤ 9223372036854775807 := Kd.C_max hr1
 obtain ⟨v, hv, h⟩ := Option.bind_eq_some_iff.mp h
 have HV := am (fun W (hb : Below w.heap.size w W) => impl_ValidTree.calls k A0_0 c0_0 l0_0 v W (Kd.C_below hr0_0 hb) hc0_0 hv)
 have HR0 := am hr0_0
 have HR1 := am hr1
 clear hv hr0_0 hr1
 cases v with
 | false =>
  obtain rfl : false = r := by simpa using h
  clear h
  go_enter Try.func29, Try.ntmps29
  go_wp2_with (go_at_call 64; refine (HV.out _ ((Below.refl _ _).alloc (Nat.le_refl _) _)).mono ?_; rintro e w' ⟨rfl, hb2⟩)
  go_ret
  exact ⟨rfl, ((Below.refl _ _).alloc (Nat.le_refl _) _).trans (hb2.mono (by simp))⟩
 | true =>
  simp only [Bool.true_eq_false, if_false] at h
  by_cases h24 : 24 < l1.length
  ·rw [if_pos h24] at h
   obtain rfl : false = r := by simpa using h
   have h24b : decide (24 < l1.length) = true := decide_eq_true h24
   clear h
   go_enter Try.func29, Try.ntmps29
   go_wp2_with (go_at_call 64; refine (HV.out _ ((Below.refl _ _).alloc (Nat.le_refl _) _)).mono ?_; rintro e w' ⟨rfl, hb2⟩)
   go_ret
   exact ⟨rfl, ((Below.refl _ _).alloc (Nat.le_refl _) _).trans (hb2.mono (by simp))⟩
  ·rw [if_neg h24] at h
   have h24b : decide (24 < l1.length) = false := decide_eq_false h24
   obtain ⟨q, hq, h⟩ := Option.bind_eq_some_iff.mp h
   have H0 := am hq
   have HZ := am h
   clear h hq
   go_enter Try.func29, Try.ntmps29
   go_wp2_with (go_at_call 64; refine (HV.out _ ((Below.refl _ _).alloc (Nat.le_refl _) _)).mono ?_; rintro e w2 ⟨rfl, hb2⟩; have HB2 := am (((Below.refl w.heap.size w).alloc (Nat.le_refl _) (.cells #[.slice A0_0 l0_0.length c0_0] 32)).trans (hb2.mono (by simp))); have hs2 : w.heap.size < w2.heap.size := Nat.lt_of_lt_of_le (by simp) hb2.size; have ht2 := pw_cell_below hb2 (show (w.alloc (.cells #[.slice A0_0 l0_0.length c0_0] 32)).cell? ⟨w.heap.size, 0, none⟩ = some (.slice A0_0 l0_0.length c0_0) by simp); clear hb2)
   obtain ⟨B1, hB1⟩ : ∃ B1, B1 = w2.heap.size := ⟨_, rfl⟩
   have HBK := am (show (w2.alloc (.cells #[.int .i64 (-1), .int .i64 7, .int .i64 0, .int .i64 0] 52)).heap[B1]? = some (.cells #[.int .i64 (-1), .int .i64 7, .int .i64 0, .int .i64 0] 52 (0, 0)) by rw [hB1]; exact heap_alloc_new w2 _)
   have hBl := am (HB2.out.alloc (Nat.le_of_lt hs2) (.cells #[.int .i64 (-1), .int .i64 7, .int .i64 0, .int .i64 0] 52))
   have hT := am (show (w2.alloc (.cells #[.int .i64 (-1), .int .i64 7, .int .i64 0, .int .i64 0] 52)).cell? ⟨w.heap.size, 0, none⟩ = some (.slice A0_0 l0_0.length c0_0) by simp [World.cell?_alloc_old, Nat.ne_of_lt hs2, ht2])
   rw [← hB1]
   have hlt1 : w.heap.size < B1 := by omega
   clear hB1
   generalize w2.alloc (.cells #[.int .i64 (-1), .int .i64 7, .int .i64 0, .int .i64 0] 52) = w3 at HBK hBl hT ⊢
   clear ht2 hs2 HB2 HV
   go_loopw [19] (fun i19 wr => ∃ (n : Nat) (last : S52), i19 = .int .i64 n ∧ n ≤ l1.length ∧ -1 ≤ last.f0 ∧ last.f0 ≤ 5 ∧ Aside0 (impl_ValidProgram.go k l0_0 (l1.drop n) last = some q) ∧ Aside0 (wr.heap[B1]? = some (.cells #[.int .i64 last.f0, .int .i64 last.f1, .int .i64 last.f2, .int .i64 last.f3] 52 (0, 0))) ∧ Aside0 (wr.cell? ⟨w.heap.size, 0, none⟩ = some (.slice A0_0 l0_0.length c0_0)) ∧ Aside0 (Below w.heap.size w wr)) (fun i19 _ => l1.length - (intOf i19).toNat)
   case atStart => exact ⟨0, ⟨-1, 7, 0, 0⟩, rfl, Nat.zero_le _, by simp, by simp, H0, HBK, hT, hBl⟩
   case round =>
    clear H0 HBK hT hBl
    obtain ⟨n, last, rfl, hn, hlo, hhi, HA, HBK, HT, HB⟩ := hrel
    have ht2 := HT.out
    have g0 : wr.cell? ⟨B1, 0, none⟩ = some (.int .i64 last.f0) := (blk_cell HBK.out 0).trans rfl
    have g1 : wr.cell? ⟨B1, 1, none⟩ = some (.int .i64 last.f1) := (blk_cell HBK.out 1).trans rfl
    have g2 : wr.cell? ⟨B1, 2, none⟩ = some (.int .i64 last.f2) := (blk_cell HBK.out 2).trans rfl
    have g3 : wr.cell? ⟨B1, 3, none⟩ = some (.int .i64 last.f3) := (blk_cell HBK.out 3).trans rfl
    have hBw : B1 < wr.heap.size := blk_lt HBK.out
    have hne : B1 ≠ wr.heap.size := by omega
    have hne2 : w.heap.size ≠ wr.heap.size := by omega
    have hTw : w.heap.size < wr.heap.size := by omega
    by_cases hlt : n < l1.length
    ·obtain ⟨v, hv, hs⟩ := impl_ValidProgram.step hlt HA.out
     clear HA
     obtain ⟨ad, rfl, hx0, hx1, hx2, hx3⟩ := at_T52 HR1.out (n : Int) (by omega) (by omega)
     have hrd : rd_T52 l1 (n : Int) = l1[n] := by simp [rd_T52, List.getD_eq_getElem?_getD, hlt]
     rw [hrd, Int.toNat_natCast] at hx0 hx1 hx2 hx3
     clear hrd
     generalize l1[n] = x at hv hs hx0 hx1 hx2 hx3
     have hb := HB.out
     replace hx0 := pw_cell_below hb hx0
     replace hx1 := pw_cell_below hb hx1
     replace hx2 := pw_cell_below hb hx2
     replace hx3 := pw_cell_below hb hx3
     clear hb
     have HG := am (fun W (hb : Below w.heap.size w W) => impl_Line_argued.calls k x.f0 x.f1 x.f2 x.f3 A0_0 c0_0 l0_0 v W (Kd.C_below HR0.out hb) hc0_0 hv)
     clear hv
     cases v with
     | false =>
      obtain rfl : none = q := by simpa using hs
      obtain rfl : false = r := by simpa using HZ.out
      clear hs HZ
      go_wp2_with (go_at_call 65; refine (HG.out _ (HB.out.alloc HB.out.size _)).mono ?_; rintro e w4 ⟨rfl, hb4⟩)
      go_ret
      exact ⟨rfl, below_then (HB.out.alloc HB.out.size _) (by simp; have := HB.out.size; omega) hb4⟩
     | true =>
      simp only [Bool.true_eq_false, if_false] at hs
      have V0 := am (show VF (wr.alloc (.cells #[.int .i64 x.f0, .int .i64 x.f1, .int .i64 x.f2, .int .i64 x.f3] 52)) B1 wr.heap.size w.heap.size last x (.slice A0_0 l0_0.length c0_0) from ⟨(heap_alloc_old wr _ hBw).trans HBK.out, heap_alloc_new wr _, by rw [World.cell?_alloc_old _ _ _ hne2]; exact HT.out⟩)
      have HO := am (fun W => impl_Line_opens.calls last.f0 last.f1 last.f2 last.f3 _ W (impl_Line_opens_eq _ _ _ _))
      clear g0 g1 g2 g3
      have tok1 : True := trivial
      have HS := am hs
      clear hs
      cases h5 : inB x.f0 0 5 with
      | false =>
       have H5 := am h5
       obtain rfl : none = q := by simpa [impl_ValidProgram.bad, h5] using HS.out
       obtain rfl : false = r := by simpa using HZ.out
       clear HS HZ h5
       go_wp2_with (first | (go_at_call 65; refine (HG.out _ (HB.out.alloc HB.out.size _)).mono ?_; rintro e w4 ⟨rfl, hb4⟩; have V4 := am (VF.below V0.out hb4); have HB4 := am (below_then (HB.out.alloc HB.out.size _) (by simp; have := HB.out.size; omega) hb4); clear hb4; obtain ⟨g0, g1, g2, g3, e0, e1, e2, e3, ht4⟩ := VF.cells V4.out) | (go_at_call 66; refine (impl_within.calls _ _ _ _ _ (impl_within_eq _ _ _)).mono ?_; rintro e w5 ⟨rfl, ⟨nd, rfl⟩⟩; rw [H5.out]))
       go_ret
       exact ⟨rfl, pw_below_drewN HB4.out _⟩
      | true =>
       have H5 := am h5
       have hx5 : 0 ≤ x.f0 ∧ x.f0 ≤ 5 := by simpa [inB] using h5
       cases ho : inB last.f1 7 12 with
       | true =>
        rw [ho] at HO
        by_cases hd : x.f0 = last.f0 + 1
        ·have hb1 : (x.f0 != last.f0 + 1) = false := by simpa using hd
         have hbad : impl_ValidProgram.bad x last = false := by unfold impl_ValidProgram.bad; rw [h5, ho]; simp [hd]
         have HN := am (by have := HS.out; rw [hbad] at this; simpa using this : impl_ValidProgram.go k l0_0 (l1.drop (n + 1)) x = some q)
         clear hbad
         clear HS hd h5 ho
         go_wp2_with (first | (go_at_call 65; refine (HG.out _ (HB.out.alloc HB.out.size _)).mono ?_; rintro e w4 ⟨rfl, hb4⟩; have V4 := am (VF.below V0.out hb4); have HB4 := am (below_then (HB.out.alloc HB.out.size _) (by simp; have := HB.out.size; omega) hb4); clear hb4; obtain ⟨g0, g1, g2, g3, e0, e1, e2, e3, ht4⟩ := VF.cells V4.out) | (go_at_call 66; refine (impl_within.calls _ _ _ _ _ (impl_within_eq _ _ _)).mono ?_; rintro e w5 ⟨rfl, ⟨nd, rfl⟩⟩; rw [H5.out]) | (go_at_call 67; have tk1 := tok1; clear tok1; refine (HO.out _).mono ?_; rintro e w6 ⟨rfl, hb6⟩; have V6 := am (VF.below (W := World.drewN _ _) V4.out hb6); have HB6 := am (below_then (w1 := World.drewN _ _) (show Below w.heap.size w (World.drewN _ _) from ⟨HB4.out.os, HB4.out.tape, HB4.out.output, HB4.out.size, HB4.out.block⟩) HB4.out.size hb6); clear hb6 g0 g1 g2 g3 e0 e1 e2 e3 ht4; obtain ⟨g0, g1, g2, g3, e0, e1, e2, e3, ht4⟩ := VF.cells V6.out) | (go_at_call 67; refine (HO.out _).mono ?_; rintro e w7 ⟨rfl, hb7⟩; have V7 := am (VF.below V6.out hb7); have HB7 := am (below_then HB6.out HB6.out.size hb7); clear hb7 g0 g1 g2 g3 e0 e1 e2 e3 ht4; obtain ⟨g0, g1, g2, g3, e0, e1, e2, e3, ht4⟩ := VF.cells V7.out; obtain ⟨f0, f1, f2, f3⟩ := VF.frozen V7.out))
         go_roundw
         case rel => exact ⟨n + 1, x, by go_num, hlt, by omega, by omega, HN, ⟨four_stored V7.out.1⟩, ⟨four_far V7.out.2.2 (by omega)⟩, ⟨four_below HB7.out (by omega)⟩⟩
         case measure => simp [intOf]; omega
        ·have hb1 : (x.f0 != last.f0 + 1) = true := by simpa using hd
         obtain rfl : none = q := by simpa [impl_ValidProgram.bad, h5, ho, hd] using HS.out
         obtain rfl : false = r := by simpa using HZ.out
         clear HS HZ hd h5 ho
         go_wp2_with (first | (go_at_call 65; refine (HG.out _ (HB.out.alloc HB.out.size _)).mono ?_; rintro e w4 ⟨rfl, hb4⟩; have V4 := am (VF.below V0.out hb4); have HB4 := am (below_then (HB.out.alloc HB.out.size _) (by simp; have := HB.out.size; omega) hb4); clear hb4; obtain ⟨g0, g1, g2, g3, e0, e1, e2, e3, ht4⟩ := VF.cells V4.out) | (go_at_call 66; refine (impl_within.calls _ _ _ _ _ (impl_within_eq _ _ _)).mono ?_; rintro e w5 ⟨rfl, ⟨nd, rfl⟩⟩; rw [H5.out]) | (go_at_call 67; have tk1 := tok1; clear tok1; refine (HO.out _).mono ?_; rintro e w6 ⟨rfl, hb6⟩; have V6 := am (VF.below (W := World.drewN _ _) V4.out hb6); have HB6 := am (below_then (w1 := World.drewN _ _) (show Below w.heap.size w (World.drewN _ _) from ⟨HB4.out.os, HB4.out.tape, HB4.out.output, HB4.out.size, HB4.out.block⟩) HB4.out.size hb6); clear hb6 g0 g1 g2 g3 e0 e1 e2 e3 ht4; obtain ⟨g0, g1, g2, g3, e0, e1, e2, e3, ht4⟩ := VF.cells V6.out))
         go_ret
         exact ⟨rfl, HB6.out⟩
       | false =>
        rw [ho] at HO
        by_cases hd : last.f0 < x.f0
        ·have hb1 : decide (last.f0 < x.f0) = true := decide_eq_true hd
         have hbad : impl_ValidProgram.bad x last = true := by unfold impl_ValidProgram.bad; rw [h5, ho]; simp [hd]
         obtain rfl : none = q := by have := HS.out; rw [hbad] at this; simpa using this
         obtain rfl : false = r := by simpa using HZ.out
         clear HS HZ hd h5 ho hbad
         go_wp2_with (first | (go_at_call 65; refine (HG.out _ (HB.out.alloc HB.out.size _)).mono ?_; rintro e w4 ⟨rfl, hb4⟩; have V4 := am (VF.below V0.out hb4); have HB4 := am (below_then (HB.out.alloc HB.out.size _) (by simp; have := HB.out.size; omega) hb4); clear hb4; obtain ⟨g0, g1, g2, g3, e0, e1, e2, e3, ht4⟩ := VF.cells V4.out) | (go_at_call 66; refine (impl_within.calls _ _ _ _ _ (impl_within_eq _ _ _)).mono ?_; rintro e w5 ⟨rfl, ⟨nd, rfl⟩⟩; rw [H5.out]) | (go_at_call 67; have tk1 := tok1; clear tok1; refine (HO.out _).mono ?_; rintro e w6 ⟨rfl, hb6⟩; have V6 := am (VF.below (W := World.drewN _ _) V4.out hb6); have HB6 := am (below_then (w1 := World.drewN _ _) (show Below w.heap.size w (World.drewN _ _) from ⟨HB4.out.os, HB4.out.tape, HB4.out.output, HB4.out.size, HB4.out.block⟩) HB4.out.size hb6); clear hb6 g0 g1 g2 g3 e0 e1 e2 e3 ht4; obtain ⟨g0, g1, g2, g3, e0, e1, e2, e3, ht4⟩ := VF.cells V6.out) | (go_at_call 67; refine (HO.out _).mono ?_; rintro e w7 ⟨rfl, hb7⟩; have V7 := am (VF.below V6.out hb7); have HB7 := am (below_then HB6.out HB6.out.size hb7); clear hb7 g0 g1 g2 g3 e0 e1 e2 e3 ht4; obtain ⟨g0, g1, g2, g3, e0, e1, e2, e3, ht4⟩ := VF.cells V7.out; obtain ⟨f0, f1, f2, f3⟩ := VF.frozen V7.out))
         go_ret
         exact ⟨rfl, HB7.out⟩
        ·have hb1 : decide (last.f0 < x.f0) = false := decide_eq_false hd
         have hbad : impl_ValidProgram.bad x last = false := by unfold impl_ValidProgram.bad; rw [h5, ho]; simp [hd]
         have HN := am (by have := HS.out; rw [hbad] at this; simpa using this : impl_ValidProgram.go k l0_0 (l1.drop (n + 1)) x = some q)
         clear hbad HS hd h5 ho
         go_wp2_with (first | (go_at_call 65; refine (HG.out _ (HB.out.alloc HB.out.size _)).mono ?_; rintro e w4 ⟨rfl, hb4⟩; have V4 := am (VF.below V0.out hb4); have HB4 := am (below_then (HB.out.alloc HB.out.size _) (by simp; have := HB.out.size; omega) hb4); clear hb4; obtain ⟨g0, g1, g2, g3, e0, e1, e2, e3, ht4⟩ := VF.cells V4.out) | (go_at_call 66; refine (impl_within.calls _ _ _ _ _ (impl_within_eq _ _ _)).mono ?_; rintro e w5 ⟨rfl, ⟨nd, rfl⟩⟩; rw [H5.out]) | (go_at_call 67; have tk1 := tok1; clear tok1; refine (HO.out _).mono ?_; rintro e w6 ⟨rfl, hb6⟩; have V6 := am (VF.below (W := World.drewN _ _) V4.out hb6); have HB6 := am (below_then (w1 := World.drewN _ _) (show Below w.heap.size w (World.drewN _ _) from ⟨HB4.out.os, HB4.out.tape, HB4.out.output, HB4.out.size, HB4.out.block⟩) HB4.out.size hb6); clear hb6 g0 g1 g2 g3 e0 e1 e2 e3 ht4; obtain ⟨g0, g1, g2, g3, e0, e1, e2, e3, ht4⟩ := VF.cells V6.out) | (go_at_call 67; refine (HO.out _).mono ?_; rintro e w7 ⟨rfl, hb7⟩; have V7 := am (VF.below V6.out hb7); have HB7 := am (below_then HB6.out HB6.out.size hb7); clear hb7 g0 g1 g2 g3 e0 e1 e2 e3 ht4; obtain ⟨g0, g1, g2, g3, e0, e1, e2, e3, ht4⟩ := VF.cells V7.out; obtain ⟨f0, f1, f2, f3⟩ := VF.frozen V7.out))
         go_roundw
         case rel => exact ⟨n + 1, x, by go_num, hlt, by omega, by omega, HN, ⟨four_stored V7.out.1⟩, ⟨four_far V7.out.2.2 (by omega)⟩, ⟨four_below HB7.out (by omega)⟩⟩
         case measure => simp [intOf]; omega
    ·have hgo := HA.out
     rw [List.drop_eq_nil_of_le (by omega)] at hgo
     obtain rfl : some last = q := by simpa [impl_ValidProgram.go] using hgo
     clear hgo HA
     have HY := am HZ.out
     clear HZ
     by_cases h0 : l1.length = 0
     ·have hy := HY.out
      simp only [if_pos h0] at hy
      have HQ := am (fun W (hb : Below w.heap.size w W) => impl_blockOk.calls k A1 c1 l1 0 (l1.length : Int) false r W (Kd.C_below HR1.out hb) hc1 hy)
      have HBX := HB.out
      clear hy HY
      have hz1 : ((l1.length : Int) == 0) = true := by simp [h0]
      have hz2 : (l1.length == 0) = true := by simp [h0]
      clear h0
      go_wp2_with (first | (go_at_call 68; refine (HQ.out _ HBX).mono ?_; rintro e w9 ⟨rfl, hb9⟩; have HB9 := am (below_then HBX HBX.size hb9)))
      go_ret
      exact ⟨rfl, HB9.out⟩
     ·have hz1 : ((l1.length : Int) == 0) = false := by simpa using h0
      have hz2 : (l1.length == 0) = false := by simpa using h0
      have HO := am (fun W => impl_Line_opens.calls last.f0 last.f1 last.f2 last.f3 _ W (impl_Line_opens_eq _ _ _ _))
      have hy := HY.out
      simp only [if_neg h0] at hy
      clear HY
      cases ho : inB last.f1 7 12 with
      | true =>
       rw [ho] at HO hy
       obtain rfl : false = r := by simpa using hy
       clear hy ho h0
       go_wp2_with (first | (go_at_call 67; refine (HO.out _).mono ?_; rintro e w6 ⟨rfl, hb6⟩; have HBX := below_then HB.out HB.out.size hb6; clear hb6))
       go_ret
       exact ⟨rfl, HBX⟩
      | false =>
       rw [ho] at HO hy
       simp only [Bool.false_eq_true, if_false] at hy
       have HQ := am (fun W (hb : Below w.heap.size w W) => impl_blockOk.calls k A1 c1 l1 0 (l1.length : Int) false r W (Kd.C_below HR1.out hb) hc1 hy)
       clear hy ho h0
       go_wp2_with (first | (go_at_call 67; refine (HO.out _).mono ?_; rintro e w6 ⟨rfl, hb6⟩; have HBX := below_then HB.out HB.out.size hb6; clear hb6) | (go_at_call 68; refine (HQ.out _ HBX).mono ?_; rintro e w9 ⟨rfl, hb9⟩; have HB9 := am (below_then HBX HBX.size hb9)))
       go_ret
       exact ⟨rfl, HB9.out⟩
end Go.Proofs.Ytkokajljeebgdaa.P
end
