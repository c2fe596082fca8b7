/- One part of the proofs on this program: functions of the program as plain functions, that the code comes to them, and facts on them. -/
import Derived.Test.YtbclgpgolbmlpaaYAll1
import Derived.Test.YtbclgpgolbmlpaaYAll3
import Derived.Test.YtbclgpgolbmlpaaYAll5
import Derived.Test.YtbclgpgolbmlpaaYAll6
import Derived.Test.YtbclgpgolbmlpaaYBCEF1
import Derived.Test.YtbclgpgolbmlpaaYEF1
import Derived.Test.YtbclgpgolbmlpaaYWAuto
section
namespace Go.Proofs.Ytbclgpgolbmlpaa.P
open Go.RowKit Go.Proofs.YtbclgpgolbmlpaaW.PrintWords Go.Proofs.YtbclgpgolbmlpaaW.PrintLast Go.Proofs.YtbclgpgolbmlpaaW.PrintMore
attribute [local go_sem] max2_int min2_int max_two min_two max_three min_three max_four min_four isSome_cell_setCell   -- for this text's walks alone
set_option linter.unusedVariables false
set_option linter.unusedSimpArgs false
def spec_indexOf.l0 : Nat → List Int → Int → Int → Option (Int)
  | 0, _, _, _ => none
  | k + 1, x0, x1, x5 => if x5 < (x0.length : Int) then (if 0 ≤ x5 then (if (rd x0 x5) = x1 then (some x5) else (spec_indexOf.l0 k x0 x1 (wrap64 (x5 + 1)))) else (none)) else (some (-1))
def spec_indexOf.f (k : Nat) (l0 : List Int) (a1 : Int) : Option (Int) := spec_indexOf.l0 k l0 a1 0
theorem spec_indexOf.mono_l : ∀ k, (∀ y0 y1 y2, LeO (spec_indexOf.l0 k y0 y1 y2) (spec_indexOf.l0 (k + 1) y0 y1 y2))
  | 0 => fun _ _ _ r h => by simp [spec_indexOf.l0] at h
  | k + 1 => by
    have ih0 := spec_indexOf.mono_l k
    · intro y0 y1 y2
      unfold spec_indexOf.l0
      repeat' first
      | (with_reducible exact ih0 _ _ _)
      | (with_reducible exact LeO.refl _)
      | (with_reducible exact LeO.none _)
      | (with_reducible refine LeO.ite ?_ ?_)
      | (with_reducible refine LeO.bind ?_ (fun _ => ?_))
      | exact ih0 _ _ _
      | exact LeO.none _
      | refine LeO.ite ?_ ?_
      | refine LeO.bind ?_ (fun _ => ?_)
theorem spec_indexOf.mono : ∀ a0 a1 k, LeO (spec_indexOf.f k a0 a1) (spec_indexOf.f (k + 1) a0 a1) := by
  intro a0 a1 k
  have ih0 := spec_indexOf.mono_l k
  unfold spec_indexOf.f
  repeat' first
      | (with_reducible exact ih0 _ _ _)
      | (with_reducible exact LeO.refl _)
      | (with_reducible exact LeO.none _)
      | (with_reducible refine LeO.ite ?_ ?_)
      | (with_reducible refine LeO.bind ?_ (fun _ => ?_))
      | exact ih0 _ _ _
      | exact LeO.none _
      | refine LeO.ite ?_ ?_
      | refine LeO.bind ?_ (fun _ => ?_)
set_option maxHeartbeats 8000000 in
set_option maxRecDepth 100000 in
theorem spec_indexOf.calls (k : Nat) (A0 : Option Addr) (c0 : Nat) (l0 : List Int) (a1 : Int) (r : Int) (w : World) (hr0 : Kd.C (Kd.int .i64) w A0 l0.length l0) (hc0 : l0.length ≤ c0) (h : spec_indexOf.f k l0 a1 = some r) :
    Calls Try.prog 54 #[.slice A0 l0.length c0, .int .i64 a1] w fun e w' => e = .returned (.int .i64 r) ∧ Drawn0 w w' := by
  have HR0 := Aside0.mk hr0
  have HC0 := Aside0.mk hc0
  clear hr0 hc0
  have H : (spec_indexOf.l0 k l0 a1 0) = some r := h
  clear h
  have H' := Aside0.mk H
  clear H
  go_enter Try.func54, Try.ntmps54
  go_wp2
  go_loopg [5] k (fun kq v5 w' => ∃ (x5_1 : Int), v5 = .int .i64 x5_1 ∧ Aside0 (spec_indexOf.l0 kq l0 a1 x5_1 = some r) ∧ Aside0 (kq ≤ k) ∧ Drawn0 w w')
  case atStart => exact ⟨(0), (sq), H', ⟨Nat.le_refl _⟩, by repeat (first | exact Drawn0.refl _ | apply Drawn0.step)⟩
  case round =>
    clear H'
    try clear p2
    obtain ⟨x5_1, rfl, HA, HK1, ⟨m1, rfl⟩⟩ := hrel
    cases gk with
    | zero => exact absurd HA.out (by simp [spec_indexOf.l0])
    | succ k1 =>
      have H := HA.out
      clear HA
      simp only [spec_indexOf.l0] at H
      by_cases c3 : x5_1 < (l0.length : Int)
      · rw [if_pos c3] at H
        have c3b0 : decide (x5_1 < (l0.length : Int)) = true := decide_eq_true c3
        clear c3
        by_cases c4 : 0 ≤ x5_1
        · rw [if_pos c4] at H
          have c4b0 : decide (0 ≤ x5_1) = true := decide_eq_true c4
          clear c4
          by_cases c5 : (rd l0 x5_1) = a1
          · rw [if_pos c5] at H
            have c5b0 : ((rd l0 x5_1) == a1) = true := beq_iff_eq.mpr c5
            have c5b1 : ((rd l0 x5_1) != a1) = false := bne_eq_false_iff_eq.mpr c5
            clear c5
            obtain rfl := Option.some.inj H
            have p689 : 0 ≤ (x5_1 : Int) := of_decide_eq_true (uq)
            have q689 : x5_1 < (l0.length : Int) := of_decide_eq_true (uq)
            obtain ⟨ad689, e689, hx689_0⟩ := Kd.at_int HR0.out x5_1 p689 q689
            cases e689
            replace p689 := eq_true p689
            replace q689 := eq_true q689
            go_wp2
            go_ret
            exact ⟨sq, by repeat (first | exact Drawn0.refl _ | apply Drawn0.step)⟩
          · rw [if_neg c5] at H
            have c5b0 : ((rd l0 x5_1) == a1) = false := beq_eq_false_iff_ne.mpr c5
            have c5b1 : ((rd l0 x5_1) != a1) = true := bne_iff_ne.mpr c5
            have H' := Aside0.mk H
            clear H
            have p689 : 0 ≤ (x5_1 : Int) := of_decide_eq_true (uq)
            have q689 : x5_1 < (l0.length : Int) := of_decide_eq_true (uq)
            obtain ⟨ad689, e689, hx689_0⟩ := Kd.at_int HR0.out x5_1 p689 q689
            cases e689
            replace p689 := eq_true p689
            replace q689 := eq_true q689
            go_wp2
            go_roundg k1
            case measure => have := HK1.out; omega
            case rel => exact ⟨(wrap64 (x5_1 + 1)), (sq), H', ⟨by have := HK1.out; omega⟩, by repeat (first | exact Drawn0.refl _ | apply Drawn0.step)⟩
        · rw [if_neg c4] at H
          exact absurd H (by simp)
      · rw [if_neg c3] at H
        have c3b0 : decide (x5_1 < (l0.length : Int)) = false := decide_eq_false c3
        clear c3
        obtain rfl := Option.some.inj H
        go_wp2
        go_ret
        exact ⟨sq, by repeat (first | exact Drawn0.refl _ | apply Drawn0.step)⟩
end Go.Proofs.Ytbclgpgolbmlpaa.P
end

section
namespace Go.Proofs.Ytbclgpgolbmlpaa.P
open Go.RowKit Go.Proofs.YtbclgpgolbmlpaaW.PrintWords Go.Proofs.YtbclgpgolbmlpaaW.PrintLast Go.Proofs.YtbclgpgolbmlpaaW.PrintMore
attribute [local go_sem] max2_int min2_int max_two min_two max_three min_three max_four min_four isSome_cell_setCell   -- for this text's walks alone
set_option linter.unusedVariables false
set_option linter.unusedSimpArgs false
def spec_WayToLoop.f (k : Nat) (l0_0 : List (S68)) (l1 : List (S50)) (a2 : Int) : Option (List Int) := (spec_LoopOf.f k l0_0 l1 a2).bind fun t691 => (if t691 < 0 then (some ([] : List Int)) else ((spec_enclosing.f k l1 a2).bind fun t692 => ((spec_indexOf.f k t692 t691).bind fun t695 => (if 0 ≤ t695 then (if t695 ≤ (t692.length : Int) then ((spec_wayOut.f k l1 (t692.take (t695 : Int).toNat)).bind fun t700 => (some t700)) else (none)) else (none)))))
theorem spec_WayToLoop.mono : ∀ a0 a1 a2 k, LeO (spec_WayToLoop.f k a0 a1 a2) (spec_WayToLoop.f (k + 1) a0 a1 a2) := by
  intro a0 a1 a2 k
  unfold spec_WayToLoop.f
  repeat' first
      | (with_reducible exact spec_LoopOf.mono _ _ _ _)
      | (with_reducible exact spec_enclosing.mono _ _ _)
      | (with_reducible exact spec_indexOf.mono _ _ _)
      | (with_reducible exact spec_wayOut.mono _ _ _)
      | (with_reducible exact LeO.refl _)
      | (with_reducible exact LeO.none _)
      | (with_reducible refine LeO.ite ?_ ?_)
      | (with_reducible refine LeO.bind ?_ (fun _ => ?_))
      | exact spec_LoopOf.mono _ _ _ _
      | exact spec_enclosing.mono _ _ _
      | exact spec_indexOf.mono _ _ _
      | exact spec_wayOut.mono _ _ _
      | exact LeO.none _
      | refine LeO.ite ?_ ?_
      | refine LeO.bind ?_ (fun _ => ?_)
set_option maxHeartbeats 8000000 in
set_option maxRecDepth 100000 in
theorem spec_WayToLoop.calls (k : Nat) (A0_0 : Option Addr) (c0_0 : Nat) (l0_0 : List (S68)) (A1 : Option Addr) (c1 : Nat) (l1 : List (S50)) (a2 : Int) (r : List Int) (w : World) (hr0_0 : Kd.C k68 w A0_0 l0_0.length l0_0) (hc0_0 : l0_0.length ≤ c0_0) (hr1 : Kd.C k50 w A1 l1.length l1) (hc1 : l1.length ≤ c1) (h : spec_WayToLoop.f k l0_0 l1 a2 = some r) :
    Calls Try.prog 30 #[.agg #[.slice A0_0 l0_0.length c0_0], .slice A1 l1.length c1, .int .i64 a2] w fun e w' => ∃ v0_ : Value, e = .returned (v0_) ∧ Kd.R (Kd.int .i64) 3 w' w.heap.size (fun _ => True) v0_ r ∧ Below w.heap.size w w' := by
  have hu31 := Try.underlying31
  have HR0_0 := Aside0.mk hr0_0
  have HC0_0 := Aside0.mk hc0_0
  clear hr0_0 hc0_0
  have HR1 := Aside0.mk hr1
  have HC1 := Aside0.mk hc1
  clear hr1 hc1
  have HB := Aside0.mk (Below.refl w.heap.size w)
  have H : ((spec_LoopOf.f k l0_0 l1 a2).bind fun t691 => (if t691 < 0 then (some ([] : List Int)) else ((spec_enclosing.f k l1 a2).bind fun t692 => ((spec_indexOf.f k t692 t691).bind fun t695 => (if 0 ≤ t695 then (if t695 ≤ (t692.length : Int) then ((spec_wayOut.f k l1 (t692.take (t695 : Int).toNat)).bind fun t700 => (some t700)) else (none)) else (none)))))) = some r := h
  clear h
  replace H := Option.bind_eq_some_iff.mp H
  obtain ⟨t691, A40, H⟩ := H
  replace H : (if t691 < 0 then (some ([] : List Int)) else ((spec_enclosing.f k l1 a2).bind fun t692 => ((spec_indexOf.f k t692 t691).bind fun t695 => (if 0 ≤ t695 then (if t695 ≤ (t692.length : Int) then ((spec_wayOut.f k l1 (t692.take (t695 : Int).toNat)).bind fun t700 => (some t700)) else (none)) else (none))))) = some r := H
  have A4 := Aside0.mk A40
  clear A40
  by_cases c5 : t691 < 0
  · rw [if_pos c5] at H
    have c5b0 : decide (t691 < 0) = true := decide_eq_true c5
    clear c5
    obtain rfl := Option.some.inj H
    go_enter Try.func30, Try.ntmps30
    go_wp2_with (first | ((with_reducible refine gate_dst (N := 3) rfl ?_); refine box_event ?hg (N := 3) ?hd (cs := #[.slice A0_0 l0_0.length c0_0]) (t := 31) ?hr ?_; (case hd => rfl); (case hg => rfl); (case hr => first | (go_simp; done) | (go_simp; rfl)); intro gb690 hg w6 hbox hb; have n0_ := Aside0.mk (below_step (bq) hb); have n1_ := Aside0.mk (hbox); have n2_ := Aside0.mk ((by rw [hg]; exact (below_size (bq)) : w.heap.size ≤ gb690)); have n3_ := Aside0.mk ((by rw [hg]; exact (below_size (bq)) : w.heap.size ≤ gb690)); clear HB; have HB := n0_; have BK690 := n1_; have GW690 := n2_; have GE690 := n3_; clear n0_ n1_ n2_ n3_; clear hb hbox hg; have hcz7_0 : w6.cell? ⟨gb690, 0, none⟩ = some (.slice A0_0 l0_0.length c0_0) := (blk_cell BK690.out 0).trans rfl; have hfz7_0 := blk_frozen BK690.out 0) | ((with_reducible refine gate_callee (f := 11) rfl ?_); refine goesL_ (some 12) rfl rfl Try.func11 (by kernel_rfl) rfl #[.agg #[.slice A0_0 l0_0.length c0_0], .slice A1 l1.length c1, .int .i64 a2] rfl (aq) ?_; (with_reducible refine (spec_LoopOf.calls k _ _ l0_0 _ _ l1 a2 t691 _ ?side1 ?side2 ?side3 ?side4 A4.out).mono ?_); (case side1 => exact cq (Kd.C_below HR0_0.out HB.out)); (case side2 => exact HC0_0.out); (case side3 => repeat (first | exact (Kd.C_below HR1.out HB.out) | (with_reducible refine Kd.C_alloc ?_ _) | (with_reducible refine Kd.C_drewN ?_ _) | (with_reducible refine Kd.C_drew ?_))); (case side4 => exact HC1.out); rintro e w8 ⟨rfl, hb⟩; refine ⟨_, rfl, ?_⟩; have n0_ := Aside0.mk (blk_below (g := gb690) (o := .cells #[.slice A0_0 l0_0.length c0_0] 31 (0, 0)) (kq BK690.out) hb); have n1_ := Aside0.mk (below_step (by repeat (first | (with_reducible first | exact HB.out | apply below_alloc | apply pw_below_drewN | apply below_drew1 | refine below_set ?_ GE690.out) | exact HB.out)) hb); clear BK690; clear HB; have BK690 := n0_; have HB := n1_; clear n0_ n1_; (try clear hb); (try clear hb2); (try clear hk); (try clear hi)))
    go_ret
    exact ⟨_, by first | rfl | (simp [errW_none, errW_some] <;> rfl) | (simp [*, errW_none, errW_some] <;> rfl), by first | exact Kd.R_nil _ _ _ _ _ | exact Kd.N_nil _ _ _ _ _ | exact Kd.V_nil _ _ _ _ _ | exact Kd.Q_nil _ _ _ _ _ | exact Kd.S_nil _ _ _ _ _, by repeat (first | (with_reducible first | exact HB.out | apply below_alloc | apply pw_below_drewN | apply below_drew1 | refine below_set ?_ GE690.out) | exact HB.out)⟩
  · rw [if_neg c5] at H
    have c5b0 : decide (t691 < 0) = false := decide_eq_false c5
    clear c5
    replace H := Option.bind_eq_some_iff.mp H
    obtain ⟨t692, A90, H⟩ := H
    replace H : ((spec_indexOf.f k t692 t691).bind fun t695 => (if 0 ≤ t695 then (if t695 ≤ (t692.length : Int) then ((spec_wayOut.f k l1 (t692.take (t695 : Int).toNat)).bind fun t700 => (some t700)) else (none)) else (none))) = some r := H
    have A9 := Aside0.mk A90
    clear A90
    replace H := Option.bind_eq_some_iff.mp H
    obtain ⟨t695, A100, H⟩ := H
    replace H : (if 0 ≤ t695 then (if t695 ≤ (t692.length : Int) then ((spec_wayOut.f k l1 (t692.take (t695 : Int).toNat)).bind fun t700 => (some t700)) else (none)) else (none)) = some r := H
    have A10 := Aside0.mk A100
    clear A100
    by_cases c11 : 0 ≤ t695
    · rw [if_pos c11] at H
      have c11b0 := eq_true c11
      have c11b1 : decide (0 ≤ t695) = true := decide_eq_true c11
      clear c11
      by_cases c12 : t695 ≤ (t692.length : Int)
      · rw [if_pos c12] at H
        have c12b0 := eq_true c12
        have c12b1 : decide (t695 ≤ (t692.length : Int)) = true := decide_eq_true c12
        clear c12
        obtain ⟨y696, hy696⟩ : ∃ y_ : List Int, y_ = (t692.take (t695 : Int).toNat) := ⟨_, rfl⟩
        replace H : ((spec_wayOut.f k l1 y696).bind fun t700 => (some t700)) = some r := by first | (rw [hy696]; with_reducible exact H) | (have H2_ := (Option.bind_some _ _).symm.trans H; rw [hy696]; with_reducible exact H2_) | (have H2_ := (Option.bind_some _ _).symm.trans H; with_reducible exact H2_) | with_reducible exact H | (rw [hy696]; exact H) | exact H
        have Ny696 := Aside0.mk hy696
        clear hy696
        replace H := Option.bind_eq_some_iff.mp H
        obtain ⟨t700, A130, H⟩ := H
        replace H : (some t700) = some r := H
        have A13 := Aside0.mk A130
        clear A130
        obtain rfl := Option.some.inj H
        go_enter Try.func30, Try.ntmps30
        go_wp2_with (first | ((with_reducible refine gate_dst (N := 3) rfl ?_); refine box_event ?hg (N := 3) ?hd (cs := #[.slice A0_0 l0_0.length c0_0]) (t := 31) ?hr ?_; (case hd => rfl); (case hg => rfl); (case hr => first | (go_simp; done) | (go_simp; rfl)); intro gb690 hg w14 hbox hb; have n0_ := Aside0.mk (below_step (bq) hb); have n1_ := Aside0.mk (hbox); have n2_ := Aside0.mk ((by rw [hg]; exact (below_size (bq)) : w.heap.size ≤ gb690)); have n3_ := Aside0.mk ((by rw [hg]; exact (below_size (bq)) : w.heap.size ≤ gb690)); clear HB; have HB := n0_; have BK690 := n1_; have GW690 := n2_; have GE690 := n3_; clear n0_ n1_ n2_ n3_; clear hb hbox hg; have hcz15_0 : w14.cell? ⟨gb690, 0, none⟩ = some (.slice A0_0 l0_0.length c0_0) := (blk_cell BK690.out 0).trans rfl; have hfz15_0 := blk_frozen BK690.out 0) | ((with_reducible refine gate_callee (f := 11) rfl ?_); refine goesL_ (some 12) rfl rfl Try.func11 (by kernel_rfl) rfl #[.agg #[.slice A0_0 l0_0.length c0_0], .slice A1 l1.length c1, .int .i64 a2] rfl (aq) ?_; (with_reducible refine (spec_LoopOf.calls k _ _ l0_0 _ _ l1 a2 t691 _ ?side1 ?side2 ?side3 ?side4 A4.out).mono ?_); (case side1 => exact cq (Kd.C_below HR0_0.out HB.out)); (case side2 => exact HC0_0.out); (case side3 => repeat (first | exact (Kd.C_below HR1.out HB.out) | (with_reducible refine Kd.C_alloc ?_ _) | (with_reducible refine Kd.C_drewN ?_ _) | (with_reducible refine Kd.C_drew ?_))); (case side4 => exact HC1.out); rintro e w16 ⟨rfl, hb⟩; refine ⟨_, rfl, ?_⟩; have n0_ := Aside0.mk (blk_below (g := gb690) (o := .cells #[.slice A0_0 l0_0.length c0_0] 31 (0, 0)) (kq BK690.out) hb); have n1_ := Aside0.mk (below_step (by repeat (first | (with_reducible first | exact HB.out | apply below_alloc | apply pw_below_drewN | apply below_drew1 | refine below_set ?_ GE690.out) | exact HB.out)) hb); clear BK690; clear HB; have BK690 := n0_; have HB := n1_; clear n0_ n1_; (try clear hb); (try clear hb2); (try clear hk); (try clear hi)) | ((with_reducible refine gate_callee (f := 34) rfl ?_); refine goesL_ (some 17) rfl rfl Try.func34 (by kernel_rfl) rfl #[.slice A1 l1.length c1, .int .i64 a2] rfl (aq) ?_; (with_reducible refine (spec_enclosing.calls k _ _ l1 a2 t692 _ ?side1 ?side2 A9.out).mono ?_); (case side1 => exact cq (Kd.C_below HR1.out HB.out)); (case side2 => exact HC1.out); rintro e w17 ⟨v693, rfl, ho0, hb⟩; refine ⟨_, rfl, ?_⟩; have n0_ := Aside0.mk (Kd.R_lower ho0 (below_size (by repeat (first | (with_reducible first | exact HB.out | apply below_alloc | apply pw_below_drewN | apply below_drew1 | refine below_set ?_ GE690.out) | exact HB.out)))); have n1_ := Aside0.mk (blk_below (g := gb690) (o := .cells #[.slice A0_0 l0_0.length c0_0] 31 (0, 0)) (kq BK690.out) hb); have n2_ := Aside0.mk (below_step (by repeat (first | (with_reducible first | exact HB.out | apply below_alloc | apply pw_below_drewN | apply below_drew1 | refine below_set ?_ GE690.out) | exact HB.out)) hb); clear BK690; clear HB; have HO694 := n0_; have BK690 := n1_; have HB := n2_; clear n0_ n1_ n2_; (try clear hb); (try clear hb2); (try clear hk); (try clear hi); (try clear ho0); obtain ⟨Ao18, co18, eo18⟩ := Kd.R_slice HO694.out; subst eo18) | ((with_reducible refine gate_callee (f := 54) rfl ?_); refine goesL_ (some 22) rfl rfl Try.func54 (by kernel_rfl) rfl #[.slice Ao18 t692.length co18, .int .i64 t691] rfl (aq) ?_; (with_reducible refine (spec_indexOf.calls k _ _ t692 t691 t695 _ ?side1 ?side2 A10.out).mono ?_); (case side1 => repeat (first | exact (Kd.R_reads' HO694.out).2.2 | (with_reducible refine Kd.C_alloc ?_ _) | (with_reducible refine Kd.C_drewN ?_ _) | (with_reducible refine Kd.C_drew ?_))); (case side2 => exact (Kd.R_reads' HO694.out).2.1); rintro e w' ⟨rfl, ⟨nd, rfl⟩⟩; refine ⟨_, rfl, ?_⟩; have q19 : (t695 : Int) ≤ ((t692.length : Int) : Int) := of_decide_eq_true (uq); obtain ⟨i019, hi019, _, hsz19, _⟩ := info_parts info3; have hroom19 : t692.length ≤ co18 := (Kd.R_reads' HO694.out).2.1; have hC19 : Kd.C (Kd.int .i64) _ Ao18 t692.length t692 := (Kd.R_reads' HO694.out).2.2; have hcut19 := cut_to (P := Try.prog) 38 3 .i64 Try.underlying38 hi019 Ao18 t692.length co18 t695 (of_decide_eq_true (uq)) q19 hroom19; have hr19 := Kd.C_take (m := (t695 : Int).toNat) hC19 (by omega); have hy19 : y696.length = (t695 : Int).toNat := (by rw [Ny696.out, List.length_take]; omega); rw [← Ny696.out] at hr19; rw [← hy19] at hcut19; have HR699 := Aside0.mk hr19; have HC699 := Aside0.mk (show y696.length ≤ co18 from by omega); clear hr19 hC19 hroom19 hi019 hsz19; have KY19 := Aside0.mk hy19; clear hy19; have KL19 := Aside0.mk (show (t695 : Int).toNat ≤ t692.length from by omega); replace q19 := eq_true q19) | ((with_reducible refine gate_callee (f := 52) rfl ?_); refine goesL_ (some 24) rfl rfl Try.func52 (by kernel_rfl) rfl #[.slice A1 l1.length c1, .slice Ao18 y696.length co18] rfl (aq) ?_; (with_reducible refine (spec_wayOut.calls k _ _ l1 _ _ y696 t700 _ ?side1 ?side2 ?side3 ?side4 A13.out).mono ?_); (case side1 => repeat (first | exact (Kd.C_below HR1.out (by repeat (first | (with_reducible first | exact HB.out | apply below_alloc | apply pw_below_drewN | apply below_drew1 | refine below_set ?_ GE690.out) | exact HB.out))) | (with_reducible refine Kd.C_alloc ?_ _) | (with_reducible refine Kd.C_drewN ?_ _) | (with_reducible refine Kd.C_drew ?_))); (case side2 => exact HC1.out); (case side3 => repeat (first | exact (by repeat (first | (with_reducible exact HR699.out) | (with_reducible refine Kd.C_alloc ?_ _) | (with_reducible refine Kd.C_drewN ?_ _) | (with_reducible refine Kd.C_drew ?_) | exact HR699.out)) | (with_reducible refine Kd.C_alloc ?_ _) | (with_reducible refine Kd.C_drewN ?_ _) | (with_reducible refine Kd.C_drew ?_))); (case side4 => exact HC699.out); rintro e w20 ⟨v701, rfl, ho0, hb⟩; refine ⟨_, rfl, ?_⟩; have n0_ := Aside0.mk (Kd.R_elder' (rq HO694.out) (Kd.R_base ho0) hb); have n1_ := Aside0.mk (Kd.R_lower (Kd.R_new' ho0 (Kd.R_lt (rq HO694.out))) (below_size (by repeat (first | (with_reducible first | exact HB.out | apply below_alloc | apply pw_below_drewN | apply below_drew1 | refine below_set ?_ GE690.out) | exact HB.out)))); have n2_ := Aside0.mk (blk_below (g := gb690) (o := .cells #[.slice A0_0 l0_0.length c0_0] 31 (0, 0)) (kq BK690.out) hb); have n3_ := Aside0.mk (Kd.C_below (by repeat (first | (with_reducible exact HR699.out) | (with_reducible refine Kd.C_alloc ?_ _) | (with_reducible refine Kd.C_drewN ?_ _) | (with_reducible refine Kd.C_drew ?_) | exact HR699.out)) hb); have n4_ := Aside0.mk (below_step (by repeat (first | (with_reducible first | exact HB.out | apply below_alloc | apply pw_below_drewN | apply below_drew1 | refine below_set ?_ GE690.out) | exact HB.out)) hb); clear HO694; clear BK690; clear HR699; clear HB; have HO694 := n0_; have HO702 := n1_; have BK690 := n2_; have HR699 := n3_; have HB := n4_; clear n0_ n1_ n2_ n3_ n4_; (try clear hb); (try clear hb2); (try clear hk); (try clear hi); (try clear ho0)))
        go_ret
        exact ⟨_, by first | rfl | (simp [errW_none, errW_some] <;> rfl) | (simp [*, errW_none, errW_some] <;> rfl), by (with_reducible repeat (first | apply Kd.R_alloc | apply Kd.R_drewN | apply Kd.R_drew)); exact Kd.R_mono HO702.out (fun _ hk => trivial), by repeat (first | (with_reducible first | exact HB.out | apply below_alloc | apply pw_below_drewN | apply below_drew1 | refine below_set ?_ GE690.out) | exact HB.out)⟩
      · rw [if_neg c12] at H
        exact absurd H (by simp)
    · rw [if_neg c11] at H
      exact absurd H (by simp)
end Go.Proofs.Ytbclgpgolbmlpaa.P
end

section
namespace Go.Proofs.Ytbclgpgolbmlpaa.P
open Go.RowKit Go.Proofs.YtbclgpgolbmlpaaW.PrintWords Go.Proofs.YtbclgpgolbmlpaaW.PrintLast Go.Proofs.YtbclgpgolbmlpaaW.PrintMore
attribute [local go_sem] max2_int min2_int max_two min_two max_three min_three max_four min_four isSome_cell_setCell   -- for this text's walks alone
set_option linter.unusedVariables false
set_option linter.unusedSimpArgs false
def impl_WayToLoop.j0 : Nat → List (S50) → Int → Bool → Option (List Int)
  | 0, _, _, _ => none
  | k + 1, x1, x2, x17 => if x17 = true then (some ([] : List Int)) else ((impl_loopOf.f k x1 x2).bind fun t706 => ((impl_way.f k x1 x2 t706).bind fun t707 => (some t707)))
def impl_WayToLoop.f (k : Nat) (l0_0 : List (S68)) (l1 : List (S50)) (a2 : Int) : Option (List Int) := (impl_lineIn.f k l0_0 l1 a2).bind fun t704 => (if t704 = true then ((impl_loopOf.f k l1 a2).bind fun t705 => (impl_WayToLoop.j0 k l1 a2 (decide (t705 < 0)))) else (impl_WayToLoop.j0 k l1 a2 true))
theorem impl_WayToLoop.mono_l : ∀ k, (∀ y0 y1 y2, LeO (impl_WayToLoop.j0 k y0 y1 y2) (impl_WayToLoop.j0 (k + 1) y0 y1 y2))
  | 0 => fun _ _ _ r h => by simp [impl_WayToLoop.j0] at h
  | k + 1 => by
    have ih0 := impl_WayToLoop.mono_l k
    · intro y0 y1 y2
      unfold impl_WayToLoop.j0
      repeat' first
      | (with_reducible exact ih0 _ _ _)
      | (with_reducible exact impl_lineIn.mono _ _ _ _)
      | (with_reducible exact impl_loopOf.mono _ _ _)
      | (with_reducible exact impl_way.mono _ _ _ _)
      | (with_reducible exact LeO.refl _)
      | (with_reducible exact LeO.none _)
      | (with_reducible refine LeO.ite ?_ ?_)
      | (with_reducible refine LeO.bind ?_ (fun _ => ?_))
      | exact ih0 _ _ _
      | exact impl_lineIn.mono _ _ _ _
      | exact impl_loopOf.mono _ _ _
      | exact impl_way.mono _ _ _ _
      | exact LeO.none _
      | refine LeO.ite ?_ ?_
      | refine LeO.bind ?_ (fun _ => ?_)
theorem impl_WayToLoop.mono : ∀ a0 a1 a2 k, LeO (impl_WayToLoop.f k a0 a1 a2) (impl_WayToLoop.f (k + 1) a0 a1 a2) := by
  intro a0 a1 a2 k
  have ih0 := impl_WayToLoop.mono_l k
  unfold impl_WayToLoop.f
  repeat' first
      | (with_reducible exact ih0 _ _ _)
      | (with_reducible exact impl_lineIn.mono _ _ _ _)
      | (with_reducible exact impl_loopOf.mono _ _ _)
      | (with_reducible exact impl_way.mono _ _ _ _)
      | (with_reducible exact LeO.refl _)
      | (with_reducible exact LeO.none _)
      | (with_reducible refine LeO.ite ?_ ?_)
      | (with_reducible refine LeO.bind ?_ (fun _ => ?_))
      | exact ih0 _ _ _
      | exact impl_lineIn.mono _ _ _ _
      | exact impl_loopOf.mono _ _ _
      | exact impl_way.mono _ _ _ _
      | exact LeO.none _
      | refine LeO.ite ?_ ?_
      | refine LeO.bind ?_ (fun _ => ?_)
set_option maxHeartbeats 8000000 in
set_option maxRecDepth 100000 in
theorem impl_WayToLoop.calls (k : Nat) (A0_0 : Option Addr) (c0_0 : Nat) (l0_0 : List (S68)) (A1 : Option Addr) (c1 : Nat) (l1 : List (S50)) (a2 : Int) (r : List Int) (w : World) (hr0_0 : Kd.C k68 w A0_0 l0_0.length l0_0) (hc0_0 : l0_0.length ≤ c0_0) (hr1 : Kd.C k50 w A1 l1.length l1) (hc1 : l1.length ≤ c1) (h : impl_WayToLoop.f k l0_0 l1 a2 = some r) :
    Calls Try.prog 31 #[.agg #[.slice A0_0 l0_0.length c0_0], .slice A1 l1.length c1, .int .i64 a2] w fun e w' => ∃ v0_ : Value, e = .returned (v0_) ∧ Kd.R (Kd.int .i64) 3 w' w.heap.size (fun _ => True) v0_ r ∧ Below w.heap.size w w' := by
  have hu31 := Try.underlying31
  have HR0_0 := Aside0.mk hr0_0
  have HC0_0 := Aside0.mk hc0_0
  clear hr0_0 hc0_0
  have HR1 := Aside0.mk hr1
  have HC1 := Aside0.mk hc1
  clear hr1 hc1
  have HB := Aside0.mk (Below.refl w.heap.size w)
  have H : ((impl_lineIn.f k l0_0 l1 a2).bind fun t704 => (if t704 = true then ((impl_loopOf.f k l1 a2).bind fun t705 => (impl_WayToLoop.j0 k l1 a2 (decide (t705 < 0)))) else (impl_WayToLoop.j0 k l1 a2 true))) = some r := h
  clear h
  have HC4 := Aside0.mk H
  clear H
  go_enter Try.func31, Try.ntmps31
  go_upto_region 1 with (first | ((with_reducible refine gate_dst (N := 3) rfl ?_); refine box_event ?hg (N := 3) ?hd (cs := #[.slice A0_0 l0_0.length c0_0]) (t := 31) ?hr ?_; (case hd => rfl); (case hg => rfl); (case hr => first | (go_simp; done) | (go_simp; rfl)); intro gb703 hg w5 hbox hb; have n0_ := Aside0.mk (below_step (bq) hb); have n1_ := Aside0.mk (hbox); have n2_ := Aside0.mk ((by rw [hg]; exact (below_size (bq)) : w.heap.size ≤ gb703)); have n3_ := Aside0.mk ((by rw [hg]; exact (below_size (bq)) : w.heap.size ≤ gb703)); clear HB; have HB := n0_; have BK703 := n1_; have GW703 := n2_; have GE703 := n3_; clear n0_ n1_ n2_ n3_; clear hb hbox hg))
  (try simp only [Act.put, List.setIfInBounds_toArray, List.set_cons_zero, List.set_cons_succ])
  go_cut [17] (fun v17 wc => ∃ (kq : Nat) (x17_3 : Bool), v17 = .bool x17_3 ∧ Aside0 (impl_WayToLoop.j0 kq l1 a2 x17_3 = some r) ∧ Aside0 (kq ≤ k) ∧ Aside0 (wc.heap[gb703]? = some (.cells #[(.slice A0_0 l0_0.length c0_0)] 31 (0, 0))) ∧ Aside0 (Below w.heap.size w wc))
  case first =>
    have H := HC4.out
    clear HC4
    replace H := Option.bind_eq_some_iff.mp H
    obtain ⟨t704, A60, H⟩ := H
    replace H : (if t704 = true then ((impl_loopOf.f k l1 a2).bind fun t705 => (impl_WayToLoop.j0 k l1 a2 (decide (t705 < 0)))) else (impl_WayToLoop.j0 k l1 a2 true)) = some r := H
    have A6 := Aside0.mk A60
    clear A60
    by_cases c7 : t704 = true
    · subst c7
      have H1 : ((impl_loopOf.f k l1 a2).bind fun t705 => (impl_WayToLoop.j0 k l1 a2 (decide (t705 < 0)))) = some r := by rw [if_pos rfl] at H; exact H
      clear H
      have H := H1
      clear H1
      replace H := Option.bind_eq_some_iff.mp H
      obtain ⟨t705, A80, H⟩ := H
      replace H : (impl_WayToLoop.j0 k l1 a2 (decide (t705 < 0))) = some r := H
      have A8 := Aside0.mk A80
      clear A80
      have H' := Aside0.mk H
      clear H
      have hcz9_0 : w5.cell? ⟨gb703, 0, none⟩ = some (.slice A0_0 l0_0.length c0_0) := (blk_cell BK703.out 0).trans rfl
      have hfz9_0 := blk_frozen BK703.out 0
      go_wp2_with (first | ((with_reducible refine gate_callee (f := 37) rfl ?_); refine goesL_ (some 10) rfl rfl Try.func37 (by kernel_rfl) rfl #[.agg #[.slice A0_0 l0_0.length c0_0], .slice A1 l1.length c1, .int .i64 a2] rfl (aq) ?_; (with_reducible refine (impl_lineIn.calls k _ _ l0_0 _ _ l1 a2 true _ ?side1 ?side2 ?side3 ?side4 A6.out).mono ?_); (case side1 => exact cq (Kd.C_below HR0_0.out HB.out)); (case side2 => exact HC0_0.out); (case side3 => repeat (first | exact (Kd.C_below HR1.out HB.out) | (with_reducible refine Kd.C_alloc ?_ _) | (with_reducible refine Kd.C_drewN ?_ _) | (with_reducible refine Kd.C_drew ?_))); (case side4 => exact HC1.out); rintro e w10 ⟨rfl, hb⟩; refine ⟨_, rfl, ?_⟩; have n0_ := Aside0.mk (blk_below (g := gb703) (o := .cells #[.slice A0_0 l0_0.length c0_0] 31 (0, 0)) (kq BK703.out) hb); have n1_ := Aside0.mk (below_step (by repeat (first | (with_reducible first | exact HB.out | apply below_alloc | apply pw_below_drewN | apply below_drew1 | refine below_set ?_ GE703.out) | exact HB.out)) hb); clear BK703; clear HB; have BK703 := n0_; have HB := n1_; clear n0_ n1_; (try clear hb); (try clear hb2); (try clear hk); (try clear hi)) | (go_at_call 38; (with_reducible refine (impl_loopOf.calls k _ _ l1 a2 t705 _ ?side1 ?side2 A8.out).mono ?_); (case side1 => exact cq (Kd.C_below HR1.out HB.out)); (case side2 => exact HC1.out); rintro e w11 ⟨rfl, hb⟩; have n0_ := Aside0.mk (blk_below (g := gb703) (o := .cells #[.slice A0_0 l0_0.length c0_0] 31 (0, 0)) (kq BK703.out) hb); have n1_ := Aside0.mk (below_step (by repeat (first | (with_reducible first | exact HB.out | apply below_alloc | apply pw_below_drewN | apply below_drew1 | refine below_set ?_ GE703.out) | exact HB.out)) hb); clear BK703; clear HB; have BK703 := n0_; have HB := n1_; clear n0_ n1_; (try clear hb); (try clear hb2); (try clear hk); (try clear hi)))
      go_meet
      case rel => exact ⟨_, (decide (t705 < 0)), (sq), H', ⟨by first | omega | exact Nat.le_refl _⟩, ⟨kq BK703.out⟩, ⟨by repeat (first | (with_reducible first | exact HB.out | apply below_alloc | apply pw_below_drewN | apply below_drew1 | refine below_set ?_ GE703.out) | exact HB.out)⟩⟩
    · replace c7 := Bool.eq_false_iff.mpr c7
      subst c7
      have H1 : (impl_WayToLoop.j0 k l1 a2 true) = some r := by rw [if_neg (show ¬ (false = true) by decide)] at H; exact H
      clear H
      have H := H1
      clear H1
      have H' := Aside0.mk H
      clear H
      have hcz12_0 : w5.cell? ⟨gb703, 0, none⟩ = some (.slice A0_0 l0_0.length c0_0) := (blk_cell BK703.out 0).trans rfl
      have hfz12_0 := blk_frozen BK703.out 0
      go_wp2_with (first | ((with_reducible refine gate_callee (f := 37) rfl ?_); refine goesL_ (some 10) rfl rfl Try.func37 (by kernel_rfl) rfl #[.agg #[.slice A0_0 l0_0.length c0_0], .slice A1 l1.length c1, .int .i64 a2] rfl (aq) ?_; (with_reducible refine (impl_lineIn.calls k _ _ l0_0 _ _ l1 a2 false _ ?side1 ?side2 ?side3 ?side4 A6.out).mono ?_); (case side1 => exact cq (Kd.C_below HR0_0.out HB.out)); (case side2 => exact HC0_0.out); (case side3 => repeat (first | exact (Kd.C_below HR1.out HB.out) | (with_reducible refine Kd.C_alloc ?_ _) | (with_reducible refine Kd.C_drewN ?_ _) | (with_reducible refine Kd.C_drew ?_))); (case side4 => exact HC1.out); rintro e w13 ⟨rfl, hb⟩; refine ⟨_, rfl, ?_⟩; have n0_ := Aside0.mk (blk_below (g := gb703) (o := .cells #[.slice A0_0 l0_0.length c0_0] 31 (0, 0)) (kq BK703.out) hb); have n1_ := Aside0.mk (below_step (by repeat (first | (with_reducible first | exact HB.out | apply below_alloc | apply pw_below_drewN | apply below_drew1 | refine below_set ?_ GE703.out) | exact HB.out)) hb); clear BK703; clear HB; have BK703 := n0_; have HB := n1_; clear n0_ n1_; (try clear hb); (try clear hb2); (try clear hk); (try clear hi)))
      go_meet
      case rel => exact ⟨_, (true), (sq), H', ⟨by first | omega | exact Nat.le_refl _⟩, ⟨kq BK703.out⟩, ⟨by repeat (first | (with_reducible first | exact HB.out | apply below_alloc | apply pw_below_drewN | apply below_drew1 | refine below_set ?_ GE703.out) | exact HB.out)⟩⟩
  case rest =>
    clear HC4
    try clear c1
    try clear p2
    try clear c3
    try clear c7
    try clear hcz12_0
    try clear hcz9_0
    try clear hfz12_0
    try clear hfz9_0
    obtain ⟨kq, x17_3, rfl, HA, HJ3, BK703, HB⟩ := hcut
    cases kq with
    | zero => exact absurd HA.out (by simp [impl_WayToLoop.j0])
    | succ kj3 =>
      have H := HA.out
      clear HA
      simp only [impl_WayToLoop.j0] at H
      by_cases c14 : x17_3 = true
      · subst c14
        have H1 : (some ([] : List Int)) = some r := by rw [if_pos rfl] at H; exact H
        clear H
        have H := H1
        clear H1
        obtain rfl := Option.some.inj H
        go_wp2
        go_ret
        exact ⟨_, by first | rfl | (simp [errW_none, errW_some] <;> rfl) | (simp [*, errW_none, errW_some] <;> rfl), by first | exact Kd.R_nil _ _ _ _ _ | exact Kd.N_nil _ _ _ _ _ | exact Kd.V_nil _ _ _ _ _ | exact Kd.Q_nil _ _ _ _ _ | exact Kd.S_nil _ _ _ _ _, by repeat (first | (with_reducible first | exact HB.out | apply below_alloc | apply pw_below_drewN | apply below_drew1 | refine below_set ?_ GE703.out) | exact HB.out)⟩
      · replace c14 := Bool.eq_false_iff.mpr c14
        subst c14
        have H1 : ((impl_loopOf.f kj3 l1 a2).bind fun t706 => ((impl_way.f kj3 l1 a2 t706).bind fun t707 => (some t707))) = some r := by rw [if_neg (show ¬ (false = true) by decide)] at H; exact H
        clear H
        have H := H1
        clear H1
        replace H := Option.bind_eq_some_iff.mp H
        obtain ⟨t706, A150, H⟩ := H
        replace H : ((impl_way.f kj3 l1 a2 t706).bind fun t707 => (some t707)) = some r := H
        have A15 := Aside0.mk A150
        clear A150
        replace H := Option.bind_eq_some_iff.mp H
        obtain ⟨t707, A160, H⟩ := H
        replace H : (some t707) = some r := H
        have A16 := Aside0.mk A160
        clear A160
        obtain rfl := Option.some.inj H
        go_wp2_with (first | ((with_reducible refine gate_callee (f := 38) rfl ?_); refine goesL_ (some 22) rfl rfl Try.func38 (by kernel_rfl) rfl #[.slice A1 l1.length c1, .int .i64 a2] rfl (aq) ?_; (with_reducible refine (impl_loopOf.calls kj3 _ _ l1 a2 t706 _ ?side1 ?side2 A15.out).mono ?_); (case side1 => exact cq (Kd.C_below HR1.out HB.out)); (case side2 => exact HC1.out); rintro e w17 ⟨rfl, hb⟩; refine ⟨_, rfl, ?_⟩; have n0_ := Aside0.mk (blk_below (g := gb703) (o := .cells #[.slice A0_0 l0_0.length c0_0] 31 (0, 0)) (kq BK703.out) hb); have n1_ := Aside0.mk (below_step (by repeat (first | (with_reducible first | exact HB.out | apply below_alloc | apply pw_below_drewN | apply below_drew1 | refine below_set ?_ GE703.out) | exact HB.out)) hb); clear BK703; clear HB; have BK703 := n0_; have HB := n1_; clear n0_ n1_; (try clear hb); (try clear hb2); (try clear hk); (try clear hi)) | ((with_reducible refine gate_callee (f := 53) rfl ?_); refine goesL_ (some 23) rfl rfl Try.func53 (by kernel_rfl) rfl #[.slice A1 l1.length c1, .int .i64 a2, .int .i64 t706] rfl (aq) ?_; (with_reducible refine (impl_way.calls kj3 _ _ l1 a2 t706 t707 _ ?side1 ?side2 A16.out).mono ?_); (case side1 => exact cq (Kd.C_below HR1.out HB.out)); (case side2 => exact HC1.out); rintro e w18 ⟨v708, rfl, ho0, hb⟩; refine ⟨_, rfl, ?_⟩; have n0_ := Aside0.mk (Kd.R_lower ho0 (below_size (by repeat (first | (with_reducible first | exact HB.out | apply below_alloc | apply pw_below_drewN | apply below_drew1 | refine below_set ?_ GE703.out) | exact HB.out)))); have n1_ := Aside0.mk (blk_below (g := gb703) (o := .cells #[.slice A0_0 l0_0.length c0_0] 31 (0, 0)) (kq BK703.out) hb); have n2_ := Aside0.mk (below_step (by repeat (first | (with_reducible first | exact HB.out | apply below_alloc | apply pw_below_drewN | apply below_drew1 | refine below_set ?_ GE703.out) | exact HB.out)) hb); clear BK703; clear HB; have HO709 := n0_; have BK703 := n1_; have HB := n2_; clear n0_ n1_ n2_; (try clear hb); (try clear hb2); (try clear hk); (try clear hi); (try clear ho0)))
        go_ret
        exact ⟨_, by first | rfl | (simp [errW_none, errW_some] <;> rfl) | (simp [*, errW_none, errW_some] <;> rfl), rq HO709.out, by repeat (first | (with_reducible first | exact HB.out | apply below_alloc | apply pw_below_drewN | apply below_drew1 | refine below_set ?_ GE703.out) | exact HB.out)⟩
end Go.Proofs.Ytbclgpgolbmlpaa.P
end

section
namespace Go.Proofs.Ytbclgpgolbmlpaa.P
open Go.RowKit Go.Proofs.YtbclgpgolbmlpaaW.PrintWords Go.Proofs.YtbclgpgolbmlpaaW.PrintLast Go.Proofs.YtbclgpgolbmlpaaW.PrintMore
attribute [local go_sem] max2_int min2_int max_two min_two max_three min_three max_four min_four isSome_cell_setCell   -- for this text's walks alone
set_option linter.unusedVariables false
set_option linter.unusedSimpArgs false
def laws_FnExactWayToLoop.j0 : Nat → List (S53) → Int → List Int → List Int → Bool → List (S66) → Option (Bool)
  | 0, _, _, _, _, _, _ => none
  | k + 1, x1, x2, x8, x11, x67, x711000 => if x67 = true then (some false) else ((laws_markIntS.f k x11 1).bind fun bt746 => ((laws_heldIntS.f k bt746.2 1).bind fun t748 => (if t748 < 0 then (some false) else (if t748 = bt746.1 then ((laws_toTree.f k x711000).bind fun t749 => ((laws_toLineS.f k x1).bind fun t752 => ((impl_WayToLoop.f k t749 t752 x2).bind fun t755 => ((laws_eqIntS.f k t755 x8).bind fun t758 => (if t758 = true then ((laws_heldIntS.f k bt746.2 1).bind fun t759 => (if t759 < 0 then (some false) else (if t759 = bt746.1 then (some true) else (some false)))) else (some false)))))) else (some false)))))
def laws_FnExactWayToLoop.f (k : Nat) (l0_0 : List (S66)) (l1 : List (S53)) (a2 : Int) : Option (Bool) := (laws_szTree.f k l0_0 1048576).bind fun t711 => (if t711 < 0 then (some true) else ((laws_szLineS.f l1 t711).bind fun t712 => (if t712 < 0 then (some true) else ((laws_toTree.f k l0_0).bind fun t713 => ((laws_toLineS.f k l1).bind fun t716 => ((spec_WayToLoop.f k t713 t716 a2).bind fun t719 => ((laws_toTree.f k l0_0).bind fun t722 => ((laws_toLineS.f k l1).bind fun t726 => ((impl_WayToLoop.f k t722 t726 a2).bind fun t729 => ((laws_eqIntS.f k t729 t719).bind fun t732 => (if t732 = true then ((laws_toTree.f k l0_0).bind fun t733 => ((laws_eqTree.f k t722 t733).bind fun t736 => (if t736 = true then ((laws_toLineS.f k l1).bind fun t737 => ((laws_eqLineS.f k t726 t737).bind fun t740 => (if t740 = true then ((laws_markTree.f k t722 1).bind fun bt741 => ((laws_markLineS.f k t726 bt741.1).bind fun bt743 => (if bt743.1 < 0 then (laws_FnExactWayToLoop.j0 k l1 a2 t719 t729 true l0_0) else ((laws_eqIntS.f k t729 t719).bind fun t745 => (laws_FnExactWayToLoop.j0 k l1 a2 t719 t729 (!t745) l0_0))))) else (some false)))) else (some false)))) else (some false))))))))))))
theorem laws_FnExactWayToLoop.mono_l : ∀ k, (∀ y0 y1 y2 y3 y4 y5, LeO (laws_FnExactWayToLoop.j0 k y0 y1 y2 y3 y4 y5) (laws_FnExactWayToLoop.j0 (k + 1) y0 y1 y2 y3 y4 y5))
  | 0 => fun _ _ _ _ _ _ r h => by simp [laws_FnExactWayToLoop.j0] at h
  | k + 1 => by
    have ih0 := laws_FnExactWayToLoop.mono_l k
    · intro y0 y1 y2 y3 y4 y5
      unfold laws_FnExactWayToLoop.j0
      repeat' first
      | (with_reducible exact ih0 _ _ _ _ _ _)
      | (with_reducible exact impl_WayToLoop.mono _ _ _ _)
      | (with_reducible exact laws_eqIntS.mono _ _ _)
      | (with_reducible exact laws_eqLineS.mono _ _ _)
      | (with_reducible exact laws_eqTree.mono _ _ _)
      | (with_reducible exact laws_heldIntS.mono _ _ _)
      | (with_reducible exact laws_markIntS.mono _ _ _)
      | (with_reducible exact laws_markLineS.mono _ _ _)
      | (with_reducible exact laws_markTree.mono _ _ _)
      | (with_reducible exact laws_szTree.mono _ _ _)
      | (with_reducible exact laws_toLineS.mono _ _)
      | (with_reducible exact laws_toTree.mono _ _)
      | (with_reducible exact spec_WayToLoop.mono _ _ _ _)
      | (with_reducible exact LeO.refl _)
      | (with_reducible exact LeO.none _)
      | (with_reducible refine LeO.ite ?_ ?_)
      | (with_reducible refine LeO.bind ?_ (fun _ => ?_))
      | exact ih0 _ _ _ _ _ _
      | exact impl_WayToLoop.mono _ _ _ _
      | exact laws_eqIntS.mono _ _ _
      | exact laws_eqLineS.mono _ _ _
      | exact laws_eqTree.mono _ _ _
      | exact laws_heldIntS.mono _ _ _
      | exact laws_markIntS.mono _ _ _
      | exact laws_markLineS.mono _ _ _
      | exact laws_markTree.mono _ _ _
      | exact laws_szTree.mono _ _ _
      | exact laws_toLineS.mono _ _
      | exact laws_toTree.mono _ _
      | exact spec_WayToLoop.mono _ _ _ _
      | exact LeO.none _
      | refine LeO.ite ?_ ?_
      | refine LeO.bind ?_ (fun _ => ?_)
theorem laws_FnExactWayToLoop.mono : ∀ a0 a1 a2 k, LeO (laws_FnExactWayToLoop.f k a0 a1 a2) (laws_FnExactWayToLoop.f (k + 1) a0 a1 a2) := by
  intro a0 a1 a2 k
  have ih0 := laws_FnExactWayToLoop.mono_l k
  unfold laws_FnExactWayToLoop.f
  repeat' first
      | (with_reducible exact ih0 _ _ _ _ _ _)
      | (with_reducible exact impl_WayToLoop.mono _ _ _ _)
      | (with_reducible exact laws_eqIntS.mono _ _ _)
      | (with_reducible exact laws_eqLineS.mono _ _ _)
      | (with_reducible exact laws_eqTree.mono _ _ _)
      | (with_reducible exact laws_heldIntS.mono _ _ _)
      | (with_reducible exact laws_markIntS.mono _ _ _)
      | (with_reducible exact laws_markLineS.mono _ _ _)
      | (with_reducible exact laws_markTree.mono _ _ _)
      | (with_reducible exact laws_szTree.mono _ _ _)
      | (with_reducible exact laws_toLineS.mono _ _)
      | (with_reducible exact laws_toTree.mono _ _)
      | (with_reducible exact spec_WayToLoop.mono _ _ _ _)
      | (with_reducible exact LeO.refl _)
      | (with_reducible exact LeO.none _)
      | (with_reducible refine LeO.ite ?_ ?_)
      | (with_reducible refine LeO.bind ?_ (fun _ => ?_))
      | exact ih0 _ _ _ _ _ _
      | exact impl_WayToLoop.mono _ _ _ _
      | exact laws_eqIntS.mono _ _ _
      | exact laws_eqLineS.mono _ _ _
      | exact laws_eqTree.mono _ _ _
      | exact laws_heldIntS.mono _ _ _
      | exact laws_markIntS.mono _ _ _
      | exact laws_markLineS.mono _ _ _
      | exact laws_markTree.mono _ _ _
      | exact laws_szTree.mono _ _ _
      | exact laws_toLineS.mono _ _
      | exact laws_toTree.mono _ _
      | exact spec_WayToLoop.mono _ _ _ _
      | exact LeO.none _
      | refine LeO.ite ?_ ?_
      | refine LeO.bind ?_ (fun _ => ?_)
set_option maxHeartbeats 8000000 in
set_option maxRecDepth 100000 in
theorem laws_FnExactWayToLoop.calls (k : Nat) (A0_0 : Option Addr) (c0_0 : Nat) (l0_0 : List (S66)) (A1 : Option Addr) (c1 : Nat) (l1 : List (S53)) (a2 : Int) (r : Bool) (w : World) (hr0_0 : Kd.C k66 w A0_0 l0_0.length l0_0) (hc0_0 : l0_0.length ≤ c0_0) (hr1 : Kd.C k53 w A1 l1.length l1) (hc1 : l1.length ≤ c1) (hT : r = true) (h : laws_FnExactWayToLoop.f k l0_0 l1 a2 = some r) :
    Calls Try.prog 8 #[.agg #[.slice A0_0 l0_0.length c0_0], .slice A1 l1.length c1, .int .i64 a2] w fun e w' => e = .returned (.bool r) ∧ Below w.heap.size w w' := by
  have hu24 := Try.underlying24
  have hu31 := Try.underlying31
  have HR0_0 := Aside0.mk hr0_0
  have HC0_0 := Aside0.mk hc0_0
  clear hr0_0 hc0_0
  have HR1 := Aside0.mk hr1
  have HC1 := Aside0.mk hc1
  clear hr1 hc1
  have HB := Aside0.mk (Below.refl w.heap.size w)
  have H : ((laws_szTree.f k l0_0 1048576).bind fun t711 => (if t711 < 0 then (some true) else ((laws_szLineS.f l1 t711).bind fun t712 => (if t712 < 0 then (some true) else ((laws_toTree.f k l0_0).bind fun t713 => ((laws_toLineS.f k l1).bind fun t716 => ((spec_WayToLoop.f k t713 t716 a2).bind fun t719 => ((laws_toTree.f k l0_0).bind fun t722 => ((laws_toLineS.f k l1).bind fun t726 => ((impl_WayToLoop.f k t722 t726 a2).bind fun t729 => ((laws_eqIntS.f k t729 t719).bind fun t732 => (if t732 = true then ((laws_toTree.f k l0_0).bind fun t733 => ((laws_eqTree.f k t722 t733).bind fun t736 => (if t736 = true then ((laws_toLineS.f k l1).bind fun t737 => ((laws_eqLineS.f k t726 t737).bind fun t740 => (if t740 = true then ((laws_markTree.f k t722 1).bind fun bt741 => ((laws_markLineS.f k t726 bt741.1).bind fun bt743 => (if bt743.1 < 0 then (laws_FnExactWayToLoop.j0 k l1 a2 t719 t729 true l0_0) else ((laws_eqIntS.f k t729 t719).bind fun t745 => (laws_FnExactWayToLoop.j0 k l1 a2 t719 t729 (!t745) l0_0))))) else (some false)))) else (some false)))) else (some false))))))))))))) = some r := h
  clear h
  replace H := Option.bind_eq_some_iff.mp H
  obtain ⟨t711, A40, H⟩ := H
  replace H : (if t711 < 0 then (some true) else ((laws_szLineS.f l1 t711).bind fun t712 => (if t712 < 0 then (some true) else ((laws_toTree.f k l0_0).bind fun t713 => ((laws_toLineS.f k l1).bind fun t716 => ((spec_WayToLoop.f k t713 t716 a2).bind fun t719 => ((laws_toTree.f k l0_0).bind fun t722 => ((laws_toLineS.f k l1).bind fun t726 => ((impl_WayToLoop.f k t722 t726 a2).bind fun t729 => ((laws_eqIntS.f k t729 t719).bind fun t732 => (if t732 = true then ((laws_toTree.f k l0_0).bind fun t733 => ((laws_eqTree.f k t722 t733).bind fun t736 => (if t736 = true then ((laws_toLineS.f k l1).bind fun t737 => ((laws_eqLineS.f k t726 t737).bind fun t740 => (if t740 = true then ((laws_markTree.f k t722 1).bind fun bt741 => ((laws_markLineS.f k t726 bt741.1).bind fun bt743 => (if bt743.1 < 0 then (laws_FnExactWayToLoop.j0 k l1 a2 t719 t729 true l0_0) else ((laws_eqIntS.f k t729 t719).bind fun t745 => (laws_FnExactWayToLoop.j0 k l1 a2 t719 t729 (!t745) l0_0))))) else (some false)))) else (some false)))) else (some false)))))))))))) = some r := H
  have A4 := Aside0.mk A40
  clear A40
  by_cases c5 : t711 < 0
  · rw [if_pos c5] at H
    have c5b0 : decide (t711 < 0) = true := decide_eq_true c5
    clear c5
    obtain rfl := Option.some.inj H
    go_enter Try.func8, Try.ntmps8
    go_wp2_with (first | ((with_reducible refine gate_dst (N := 3) rfl ?_); refine box_event ?hg (N := 3) ?hd (cs := #[.slice A0_0 l0_0.length c0_0]) (t := 24) ?hr ?_; (case hd => rfl); (case hg => rfl); (case hr => first | (go_simp; done) | (go_simp; rfl)); intro gb710 hg w6 hbox hb; have n0_ := Aside0.mk (below_step (bq) hb); have n1_ := Aside0.mk (hbox); have n2_ := Aside0.mk ((by rw [hg]; exact (below_size (bq)) : w.heap.size ≤ gb710)); have n3_ := Aside0.mk ((by rw [hg]; exact (below_size (bq)) : w.heap.size ≤ gb710)); clear HB; have HB := n0_; have BK710 := n1_; have GW710 := n2_; have GE710 := n3_; clear n0_ n1_ n2_ n3_; clear hb hbox hg; have hcz7_0 : w6.cell? ⟨gb710, 0, none⟩ = some (.slice A0_0 l0_0.length c0_0) := (blk_cell BK710.out 0).trans rfl; have hfz7_0 := blk_frozen BK710.out 0) | ((with_reducible refine gate_callee (f := 9) rfl ?_); refine goesL_ (some 18) rfl rfl Try.func9 (by kernel_rfl) rfl #[.agg #[.slice A0_0 l0_0.length c0_0], .int .i64 1048576] rfl (aq) ?_; (with_reducible refine (laws_szTree.calls k _ _ l0_0 1048576 t711 _ ?side1 ?side2 A4.out).mono ?_); (case side1 => exact cq (Kd.C_below HR0_0.out HB.out)); (case side2 => exact HC0_0.out); rintro e w8 ⟨rfl, hb⟩; refine ⟨_, rfl, ?_⟩; have n0_ := Aside0.mk (blk_below (g := gb710) (o := .cells #[.slice A0_0 l0_0.length c0_0] 24 (0, 0)) (kq BK710.out) hb); have n1_ := Aside0.mk (below_step (by repeat (first | (with_reducible first | exact HB.out | apply below_alloc | apply pw_below_drewN | apply below_drew1 | refine below_set ?_ GE710.out) | exact HB.out)) hb); clear BK710; clear HB; have BK710 := n0_; have HB := n1_; clear n0_ n1_; (try clear hb); (try clear hb2); (try clear hk); (try clear hi)))
    go_ret
    exact ⟨by first | rfl | (simp [errW_none, errW_some] <;> rfl) | (simp [*, errW_none, errW_some] <;> rfl), by repeat (first | (with_reducible first | exact HB.out | apply below_alloc | apply pw_below_drewN | apply below_drew1 | refine below_set ?_ GE710.out) | exact HB.out)⟩
  · rw [if_neg c5] at H
    have c5b0 : decide (t711 < 0) = false := decide_eq_false c5
    clear c5
    replace H := Option.bind_eq_some_iff.mp H
    obtain ⟨t712, A90, H⟩ := H
    replace H : (if t712 < 0 then (some true) else ((laws_toTree.f k l0_0).bind fun t713 => ((laws_toLineS.f k l1).bind fun t716 => ((spec_WayToLoop.f k t713 t716 a2).bind fun t719 => ((laws_toTree.f k l0_0).bind fun t722 => ((laws_toLineS.f k l1).bind fun t726 => ((impl_WayToLoop.f k t722 t726 a2).bind fun t729 => ((laws_eqIntS.f k t729 t719).bind fun t732 => (if t732 = true then ((laws_toTree.f k l0_0).bind fun t733 => ((laws_eqTree.f k t722 t733).bind fun t736 => (if t736 = true then ((laws_toLineS.f k l1).bind fun t737 => ((laws_eqLineS.f k t726 t737).bind fun t740 => (if t740 = true then ((laws_markTree.f k t722 1).bind fun bt741 => ((laws_markLineS.f k t726 bt741.1).bind fun bt743 => (if bt743.1 < 0 then (laws_FnExactWayToLoop.j0 k l1 a2 t719 t729 true l0_0) else ((laws_eqIntS.f k t729 t719).bind fun t745 => (laws_FnExactWayToLoop.j0 k l1 a2 t719 t729 (!t745) l0_0))))) else (some false)))) else (some false)))) else (some false)))))))))) = some r := H
    have A9 := Aside0.mk A90
    clear A90
    by_cases c10 : t712 < 0
    · rw [if_pos c10] at H
      have c10b0 : decide (t712 < 0) = true := decide_eq_true c10
      clear c10
      obtain rfl := Option.some.inj H
      go_enter Try.func8, Try.ntmps8
      go_wp2_with (first | ((with_reducible refine gate_dst (N := 3) rfl ?_); refine box_event ?hg (N := 3) ?hd (cs := #[.slice A0_0 l0_0.length c0_0]) (t := 24) ?hr ?_; (case hd => rfl); (case hg => rfl); (case hr => first | (go_simp; done) | (go_simp; rfl)); intro gb710 hg w11 hbox hb; have n0_ := Aside0.mk (below_step (bq) hb); have n1_ := Aside0.mk (hbox); have n2_ := Aside0.mk ((by rw [hg]; exact (below_size (bq)) : w.heap.size ≤ gb710)); have n3_ := Aside0.mk ((by rw [hg]; exact (below_size (bq)) : w.heap.size ≤ gb710)); clear HB; have HB := n0_; have BK710 := n1_; have GW710 := n2_; have GE710 := n3_; clear n0_ n1_ n2_ n3_; clear hb hbox hg; have hcz12_0 : w11.cell? ⟨gb710, 0, none⟩ = some (.slice A0_0 l0_0.length c0_0) := (blk_cell BK710.out 0).trans rfl; have hfz12_0 := blk_frozen BK710.out 0) | ((with_reducible refine gate_callee (f := 9) rfl ?_); refine goesL_ (some 18) rfl rfl Try.func9 (by kernel_rfl) rfl #[.agg #[.slice A0_0 l0_0.length c0_0], .int .i64 1048576] rfl (aq) ?_; (with_reducible refine (laws_szTree.calls k _ _ l0_0 1048576 t711 _ ?side1 ?side2 A4.out).mono ?_); (case side1 => exact cq (Kd.C_below HR0_0.out HB.out)); (case side2 => exact HC0_0.out); rintro e w13 ⟨rfl, hb⟩; refine ⟨_, rfl, ?_⟩; have n0_ := Aside0.mk (blk_below (g := gb710) (o := .cells #[.slice A0_0 l0_0.length c0_0] 24 (0, 0)) (kq BK710.out) hb); have n1_ := Aside0.mk (below_step (by repeat (first | (with_reducible first | exact HB.out | apply below_alloc | apply pw_below_drewN | apply below_drew1 | refine below_set ?_ GE710.out) | exact HB.out)) hb); clear BK710; clear HB; have BK710 := n0_; have HB := n1_; clear n0_ n1_; (try clear hb); (try clear hb2); (try clear hk); (try clear hi)) | ((with_reducible refine gate_callee (f := 10) rfl ?_); refine goesL_ (some 23) rfl rfl Try.func10 (by kernel_rfl) rfl #[.slice A1 l1.length c1, .int .i64 t711] rfl (aq) ?_; (with_reducible refine (laws_szLineS.calls _ _ l1 t711 t712 _ ?side1 ?side2 A9.out).mono ?_); (case side1 => exact cq (Kd.C_below HR1.out HB.out)); (case side2 => exact HC1.out); rintro e w' ⟨rfl, ⟨nd, rfl⟩⟩; refine ⟨_, rfl, ?_⟩))
      go_ret
      exact ⟨by first | rfl | (simp [errW_none, errW_some] <;> rfl) | (simp [*, errW_none, errW_some] <;> rfl), by repeat (first | (with_reducible first | exact HB.out | apply below_alloc | apply pw_below_drewN | apply below_drew1 | refine below_set ?_ GE710.out) | exact HB.out)⟩
    · rw [if_neg c10] at H
      have c10b0 : decide (t712 < 0) = false := decide_eq_false c10
      clear c10
      replace H := Option.bind_eq_some_iff.mp H
      obtain ⟨t713, A140, H⟩ := H
      replace H : ((laws_toLineS.f k l1).bind fun t716 => ((spec_WayToLoop.f k t713 t716 a2).bind fun t719 => ((laws_toTree.f k l0_0).bind fun t722 => ((laws_toLineS.f k l1).bind fun t726 => ((impl_WayToLoop.f k t722 t726 a2).bind fun t729 => ((laws_eqIntS.f k t729 t719).bind fun t732 => (if t732 = true then ((laws_toTree.f k l0_0).bind fun t733 => ((laws_eqTree.f k t722 t733).bind fun t736 => (if t736 = true then ((laws_toLineS.f k l1).bind fun t737 => ((laws_eqLineS.f k t726 t737).bind fun t740 => (if t740 = true then ((laws_markTree.f k t722 1).bind fun bt741 => ((laws_markLineS.f k t726 bt741.1).bind fun bt743 => (if bt743.1 < 0 then (laws_FnExactWayToLoop.j0 k l1 a2 t719 t729 true l0_0) else ((laws_eqIntS.f k t729 t719).bind fun t745 => (laws_FnExactWayToLoop.j0 k l1 a2 t719 t729 (!t745) l0_0))))) else (some false)))) else (some false)))) else (some false)))))))) = some r := H
      have A14 := Aside0.mk A140
      clear A140
      replace H := Option.bind_eq_some_iff.mp H
      obtain ⟨t716, A150, H⟩ := H
      replace H : ((spec_WayToLoop.f k t713 t716 a2).bind fun t719 => ((laws_toTree.f k l0_0).bind fun t722 => ((laws_toLineS.f k l1).bind fun t726 => ((impl_WayToLoop.f k t722 t726 a2).bind fun t729 => ((laws_eqIntS.f k t729 t719).bind fun t732 => (if t732 = true then ((laws_toTree.f k l0_0).bind fun t733 => ((laws_eqTree.f k t722 t733).bind fun t736 => (if t736 = true then ((laws_toLineS.f k l1).bind fun t737 => ((laws_eqLineS.f k t726 t737).bind fun t740 => (if t740 = true then ((laws_markTree.f k t722 1).bind fun bt741 => ((laws_markLineS.f k t726 bt741.1).bind fun bt743 => (if bt743.1 < 0 then (laws_FnExactWayToLoop.j0 k l1 a2 t719 t729 true l0_0) else ((laws_eqIntS.f k t729 t719).bind fun t745 => (laws_FnExactWayToLoop.j0 k l1 a2 t719 t729 (!t745) l0_0))))) else (some false)))) else (some false)))) else (some false))))))) = some r := H
      have A15 := Aside0.mk A150
      clear A150
      replace H := Option.bind_eq_some_iff.mp H
      obtain ⟨t719, A160, H⟩ := H
      replace H : ((laws_toTree.f k l0_0).bind fun t722 => ((laws_toLineS.f k l1).bind fun t726 => ((impl_WayToLoop.f k t722 t726 a2).bind fun t729 => ((laws_eqIntS.f k t729 t719).bind fun t732 => (if t732 = true then ((laws_toTree.f k l0_0).bind fun t733 => ((laws_eqTree.f k t722 t733).bind fun t736 => (if t736 = true then ((laws_toLineS.f k l1).bind fun t737 => ((laws_eqLineS.f k t726 t737).bind fun t740 => (if t740 = true then ((laws_markTree.f k t722 1).bind fun bt741 => ((laws_markLineS.f k t726 bt741.1).bind fun bt743 => (if bt743.1 < 0 then (laws_FnExactWayToLoop.j0 k l1 a2 t719 t729 true l0_0) else ((laws_eqIntS.f k t729 t719).bind fun t745 => (laws_FnExactWayToLoop.j0 k l1 a2 t719 t729 (!t745) l0_0))))) else (some false)))) else (some false)))) else (some false)))))) = some r := H
      have A16 := Aside0.mk A160
      clear A160
      replace H := Option.bind_eq_some_iff.mp H
      obtain ⟨t722, A170, H⟩ := H
      replace H : ((laws_toLineS.f k l1).bind fun t726 => ((impl_WayToLoop.f k t722 t726 a2).bind fun t729 => ((laws_eqIntS.f k t729 t719).bind fun t732 => (if t732 = true then ((laws_toTree.f k l0_0).bind fun t733 => ((laws_eqTree.f k t722 t733).bind fun t736 => (if t736 = true then ((laws_toLineS.f k l1).bind fun t737 => ((laws_eqLineS.f k t726 t737).bind fun t740 => (if t740 = true then ((laws_markTree.f k t722 1).bind fun bt741 => ((laws_markLineS.f k t726 bt741.1).bind fun bt743 => (if bt743.1 < 0 then (laws_FnExactWayToLoop.j0 k l1 a2 t719 t729 true l0_0) else ((laws_eqIntS.f k t729 t719).bind fun t745 => (laws_FnExactWayToLoop.j0 k l1 a2 t719 t729 (!t745) l0_0))))) else (some false)))) else (some false)))) else (some false))))) = some r := H
      have A17 := Aside0.mk A170
      clear A170
      replace H := Option.bind_eq_some_iff.mp H
      obtain ⟨t726, A180, H⟩ := H
      replace H : ((impl_WayToLoop.f k t722 t726 a2).bind fun t729 => ((laws_eqIntS.f k t729 t719).bind fun t732 => (if t732 = true then ((laws_toTree.f k l0_0).bind fun t733 => ((laws_eqTree.f k t722 t733).bind fun t736 => (if t736 = true then ((laws_toLineS.f k l1).bind fun t737 => ((laws_eqLineS.f k t726 t737).bind fun t740 => (if t740 = true then ((laws_markTree.f k t722 1).bind fun bt741 => ((laws_markLineS.f k t726 bt741.1).bind fun bt743 => (if bt743.1 < 0 then (laws_FnExactWayToLoop.j0 k l1 a2 t719 t729 true l0_0) else ((laws_eqIntS.f k t729 t719).bind fun t745 => (laws_FnExactWayToLoop.j0 k l1 a2 t719 t729 (!t745) l0_0))))) else (some false)))) else (some false)))) else (some false)))) = some r := H
      have A18 := Aside0.mk A180
      clear A180
      replace H := Option.bind_eq_some_iff.mp H
      obtain ⟨t729, A190, H⟩ := H
      replace H : ((laws_eqIntS.f k t729 t719).bind fun t732 => (if t732 = true then ((laws_toTree.f k l0_0).bind fun t733 => ((laws_eqTree.f k t722 t733).bind fun t736 => (if t736 = true then ((laws_toLineS.f k l1).bind fun t737 => ((laws_eqLineS.f k t726 t737).bind fun t740 => (if t740 = true then ((laws_markTree.f k t722 1).bind fun bt741 => ((laws_markLineS.f k t726 bt741.1).bind fun bt743 => (if bt743.1 < 0 then (laws_FnExactWayToLoop.j0 k l1 a2 t719 t729 true l0_0) else ((laws_eqIntS.f k t729 t719).bind fun t745 => (laws_FnExactWayToLoop.j0 k l1 a2 t719 t729 (!t745) l0_0))))) else (some false)))) else (some false)))) else (some false))) = some r := H
      have A19 := Aside0.mk A190
      clear A190
      replace H := Option.bind_eq_some_iff.mp H
      obtain ⟨t732, A200, H⟩ := H
      replace H : (if t732 = true then ((laws_toTree.f k l0_0).bind fun t733 => ((laws_eqTree.f k t722 t733).bind fun t736 => (if t736 = true then ((laws_toLineS.f k l1).bind fun t737 => ((laws_eqLineS.f k t726 t737).bind fun t740 => (if t740 = true then ((laws_markTree.f k t722 1).bind fun bt741 => ((laws_markLineS.f k t726 bt741.1).bind fun bt743 => (if bt743.1 < 0 then (laws_FnExactWayToLoop.j0 k l1 a2 t719 t729 true l0_0) else ((laws_eqIntS.f k t729 t719).bind fun t745 => (laws_FnExactWayToLoop.j0 k l1 a2 t719 t729 (!t745) l0_0))))) else (some false)))) else (some false)))) else (some false)) = some r := H
      have A20 := Aside0.mk A200
      clear A200
      by_cases c21 : t732 = true
      · subst c21
        have H1 : ((laws_toTree.f k l0_0).bind fun t733 => ((laws_eqTree.f k t722 t733).bind fun t736 => (if t736 = true then ((laws_toLineS.f k l1).bind fun t737 => ((laws_eqLineS.f k t726 t737).bind fun t740 => (if t740 = true then ((laws_markTree.f k t722 1).bind fun bt741 => ((laws_markLineS.f k t726 bt741.1).bind fun bt743 => (if bt743.1 < 0 then (laws_FnExactWayToLoop.j0 k l1 a2 t719 t729 true l0_0) else ((laws_eqIntS.f k t729 t719).bind fun t745 => (laws_FnExactWayToLoop.j0 k l1 a2 t719 t729 (!t745) l0_0))))) else (some false)))) else (some false)))) = some r := by rw [if_pos rfl] at H; exact H
        clear H
        have H := H1
        clear H1
        replace H := Option.bind_eq_some_iff.mp H
        obtain ⟨t733, A220, H⟩ := H
        replace H : ((laws_eqTree.f k t722 t733).bind fun t736 => (if t736 = true then ((laws_toLineS.f k l1).bind fun t737 => ((laws_eqLineS.f k t726 t737).bind fun t740 => (if t740 = true then ((laws_markTree.f k t722 1).bind fun bt741 => ((laws_markLineS.f k t726 bt741.1).bind fun bt743 => (if bt743.1 < 0 then (laws_FnExactWayToLoop.j0 k l1 a2 t719 t729 true l0_0) else ((laws_eqIntS.f k t729 t719).bind fun t745 => (laws_FnExactWayToLoop.j0 k l1 a2 t719 t729 (!t745) l0_0))))) else (some false)))) else (some false))) = some r := H
        have A22 := Aside0.mk A220
        clear A220
        replace H := Option.bind_eq_some_iff.mp H
        obtain ⟨t736, A230, H⟩ := H
        replace H : (if t736 = true then ((laws_toLineS.f k l1).bind fun t737 => ((laws_eqLineS.f k t726 t737).bind fun t740 => (if t740 = true then ((laws_markTree.f k t722 1).bind fun bt741 => ((laws_markLineS.f k t726 bt741.1).bind fun bt743 => (if bt743.1 < 0 then (laws_FnExactWayToLoop.j0 k l1 a2 t719 t729 true l0_0) else ((laws_eqIntS.f k t729 t719).bind fun t745 => (laws_FnExactWayToLoop.j0 k l1 a2 t719 t729 (!t745) l0_0))))) else (some false)))) else (some false)) = some r := H
        have A23 := Aside0.mk A230
        clear A230
        by_cases c24 : t736 = true
        · subst c24
          have H1 : ((laws_toLineS.f k l1).bind fun t737 => ((laws_eqLineS.f k t726 t737).bind fun t740 => (if t740 = true then ((laws_markTree.f k t722 1).bind fun bt741 => ((laws_markLineS.f k t726 bt741.1).bind fun bt743 => (if bt743.1 < 0 then (laws_FnExactWayToLoop.j0 k l1 a2 t719 t729 true l0_0) else ((laws_eqIntS.f k t729 t719).bind fun t745 => (laws_FnExactWayToLoop.j0 k l1 a2 t719 t729 (!t745) l0_0))))) else (some false)))) = some r := by rw [if_pos rfl] at H; exact H
          clear H
          have H := H1
          clear H1
          replace H := Option.bind_eq_some_iff.mp H
          obtain ⟨t737, A250, H⟩ := H
          replace H : ((laws_eqLineS.f k t726 t737).bind fun t740 => (if t740 = true then ((laws_markTree.f k t722 1).bind fun bt741 => ((laws_markLineS.f k t726 bt741.1).bind fun bt743 => (if bt743.1 < 0 then (laws_FnExactWayToLoop.j0 k l1 a2 t719 t729 true l0_0) else ((laws_eqIntS.f k t729 t719).bind fun t745 => (laws_FnExactWayToLoop.j0 k l1 a2 t719 t729 (!t745) l0_0))))) else (some false))) = some r := H
          have A25 := Aside0.mk A250
          clear A250
          replace H := Option.bind_eq_some_iff.mp H
          obtain ⟨t740, A260, H⟩ := H
          replace H : (if t740 = true then ((laws_markTree.f k t722 1).bind fun bt741 => ((laws_markLineS.f k t726 bt741.1).bind fun bt743 => (if bt743.1 < 0 then (laws_FnExactWayToLoop.j0 k l1 a2 t719 t729 true l0_0) else ((laws_eqIntS.f k t729 t719).bind fun t745 => (laws_FnExactWayToLoop.j0 k l1 a2 t719 t729 (!t745) l0_0))))) else (some false)) = some r := H
          have A26 := Aside0.mk A260
          clear A260
          by_cases c27 : t740 = true
          · subst c27
            have H1 : ((laws_markTree.f k t722 1).bind fun bt741 => ((laws_markLineS.f k t726 bt741.1).bind fun bt743 => (if bt743.1 < 0 then (laws_FnExactWayToLoop.j0 k l1 a2 t719 t729 true l0_0) else ((laws_eqIntS.f k t729 t719).bind fun t745 => (laws_FnExactWayToLoop.j0 k l1 a2 t719 t729 (!t745) l0_0))))) = some r := by rw [if_pos rfl] at H; exact H
            clear H
            have H := H1
            clear H1
            replace H := Option.bind_eq_some_iff.mp H
            obtain ⟨⟨t741, t742⟩, A280, H⟩ := H
            replace H : ((laws_markLineS.f k t726 t741).bind fun bt743 => (if bt743.1 < 0 then (laws_FnExactWayToLoop.j0 k l1 a2 t719 t729 true l0_0) else ((laws_eqIntS.f k t729 t719).bind fun t745 => (laws_FnExactWayToLoop.j0 k l1 a2 t719 t729 (!t745) l0_0)))) = some r := H
            have A28 := Aside0.mk A280
            clear A280
            replace H := Option.bind_eq_some_iff.mp H
            obtain ⟨⟨t743, t744⟩, A290, H⟩ := H
            replace H : (if t743 < 0 then (laws_FnExactWayToLoop.j0 k l1 a2 t719 t729 true l0_0) else ((laws_eqIntS.f k t729 t719).bind fun t745 => (laws_FnExactWayToLoop.j0 k l1 a2 t719 t729 (!t745) l0_0))) = some r := H
            have A29 := Aside0.mk A290
            clear A290
            have HC30 := Aside0.mk H
            clear H
            go_enter Try.func8, Try.ntmps8
            try go_wp2_with (first | ((with_reducible refine gate_dst (N := 3) rfl ?_); refine box_event ?hg (N := 3) ?hd (cs := #[.slice A0_0 l0_0.length c0_0]) (t := 24) ?hr ?_; (case hd => rfl); (case hg => rfl); (case hr => first | (go_simp; done) | (go_simp; rfl)); intro gb710 hg w31 hbox hb; have n0_ := Aside0.mk (below_step (bq) hb); have n1_ := Aside0.mk (hbox); have n2_ := Aside0.mk ((by rw [hg]; exact (below_size (bq)) : w.heap.size ≤ gb710)); have n3_ := Aside0.mk ((by rw [hg]; exact (below_size (bq)) : w.heap.size ≤ gb710)); clear HB; have HB := n0_; have BK710 := n1_; have GW710 := n2_; have GE710 := n3_; clear n0_ n1_ n2_ n3_; clear hb hbox hg; have hcz32_0 : w31.cell? ⟨gb710, 0, none⟩ = some (.slice A0_0 l0_0.length c0_0) := (blk_cell BK710.out 0).trans rfl; have hfz32_0 := blk_frozen BK710.out 0) | ((with_reducible refine gate_callee (f := 9) rfl ?_); refine goesL_ (some 18) rfl rfl Try.func9 (by kernel_rfl) rfl #[.agg #[.slice A0_0 l0_0.length c0_0], .int .i64 1048576] rfl (aq) ?_; (with_reducible refine (laws_szTree.calls k _ _ l0_0 1048576 t711 _ ?side1 ?side2 A4.out).mono ?_); (case side1 => exact cq (Kd.C_below HR0_0.out HB.out)); (case side2 => exact HC0_0.out); rintro e w33 ⟨rfl, hb⟩; refine ⟨_, rfl, ?_⟩; have n0_ := Aside0.mk (blk_below (g := gb710) (o := .cells #[.slice A0_0 l0_0.length c0_0] 24 (0, 0)) (kq BK710.out) hb); have n1_ := Aside0.mk (below_step (by repeat (first | (with_reducible first | exact HB.out | apply below_alloc | apply pw_below_drewN | apply below_drew1 | refine below_set ?_ GE710.out) | exact HB.out)) hb); clear BK710; clear HB; have BK710 := n0_; have HB := n1_; clear n0_ n1_; (try clear hb); (try clear hb2); (try clear hk); (try clear hi)) | ((with_reducible refine gate_callee (f := 10) rfl ?_); refine goesL_ (some 23) rfl rfl Try.func10 (by kernel_rfl) rfl #[.slice A1 l1.length c1, .int .i64 t711] rfl (aq) ?_; (with_reducible refine (laws_szLineS.calls _ _ l1 t711 t712 _ ?side1 ?side2 A9.out).mono ?_); (case side1 => exact cq (Kd.C_below HR1.out HB.out)); (case side2 => exact HC1.out); rintro e w' ⟨rfl, ⟨nd, rfl⟩⟩; refine ⟨_, rfl, ?_⟩; (try (rw [drewN_self w33]; generalize hq_ : World.drewN w33 _ = w33; have n0_ : Aside0 (w33.heap[gb710]? = some (.cells #[.slice A0_0 l0_0.length c0_0] 24 (0, 0))) := ⟨by rw [← hq_]; exact (kq BK710.out)⟩; have n1_ : Aside0 (Below w.heap.size w w33) := ⟨by rw [← hq_]; exact (by repeat (first | (with_reducible first | exact HB.out | apply below_alloc | apply pw_below_drewN | apply below_drew1 | refine below_set ?_ GE710.out) | exact HB.out))⟩; clear BK710 HB hq_; have BK710 := n0_; have HB := n1_; clear n0_ n1_)); have hcz34_0 : w33.cell? ⟨gb710, 0, none⟩ = some (.slice A0_0 l0_0.length c0_0) := (blk_cell BK710.out 0).trans rfl; have hfz34_0 := blk_frozen BK710.out 0) | ((with_reducible refine gate_callee (f := 12) rfl ?_); refine goesL_ (some 27) rfl rfl Try.func12 (by kernel_rfl) rfl #[.agg #[.slice A0_0 l0_0.length c0_0]] rfl (aq) ?_; (with_reducible refine (laws_toTree.calls k _ _ l0_0 t713 _ ?side1 ?side2 A14.out).mono ?_); (case side1 => exact cq (Kd.C_below HR0_0.out HB.out)); (case side2 => exact HC0_0.out); rintro e w35 ⟨v714, rfl, ho0, hb⟩; refine ⟨_, rfl, ?_⟩; have n0_ := Aside0.mk (Kd.R_lower ho0 (below_size (by repeat (first | (with_reducible first | exact HB.out | apply below_alloc | apply pw_below_drewN | apply below_drew1 | refine below_set ?_ GE710.out) | exact HB.out)))); have n1_ := Aside0.mk (blk_below (g := gb710) (o := .cells #[.slice A0_0 l0_0.length c0_0] 24 (0, 0)) (kq BK710.out) hb); have n2_ := Aside0.mk (below_step (by repeat (first | (with_reducible first | exact HB.out | apply below_alloc | apply pw_below_drewN | apply below_drew1 | refine below_set ?_ GE710.out) | exact HB.out)) hb); clear BK710; clear HB; have HO715 := n0_; have BK710 := n1_; have HB := n2_; clear n0_ n1_ n2_; (try clear hb); (try clear hb2); (try clear hk); (try clear hi); (try clear ho0)) | ((with_reducible refine gate_callee (f := 13) rfl ?_); refine goesL_ (some 29) rfl rfl Try.func13 (by kernel_rfl) rfl #[.slice A1 l1.length c1] rfl (aq) ?_; (with_reducible refine (laws_toLineS.calls k _ _ l1 t716 _ ?side1 ?side2 A15.out).mono ?_); (case side1 => exact cq (Kd.C_below HR1.out HB.out)); (case side2 => exact HC1.out); rintro e w36 ⟨v717, rfl, ho0, hb⟩; refine ⟨_, rfl, ?_⟩; have n0_ := Aside0.mk (Kd.R_below (rq HO715.out) hb); have n1_ := Aside0.mk (Kd.R_lower ho0 (below_size (by repeat (first | (with_reducible first | exact HB.out | apply below_alloc | apply pw_below_drewN | apply below_drew1 | refine below_set ?_ GE710.out) | exact HB.out)))); have n2_ := Aside0.mk (blk_below (g := gb710) (o := .cells #[.slice A0_0 l0_0.length c0_0] 24 (0, 0)) (kq BK710.out) hb); have n3_ := Aside0.mk (below_step (by repeat (first | (with_reducible first | exact HB.out | apply below_alloc | apply pw_below_drewN | apply below_drew1 | refine below_set ?_ GE710.out) | exact HB.out)) hb); clear HO715; clear BK710; clear HB; have HO715 := n0_; have HO718 := n1_; have BK710 := n2_; have HB := n3_; clear n0_ n1_ n2_ n3_; (try clear hb); (try clear hb2); (try clear hk); (try clear hi); (try clear ho0); obtain ⟨Ao37, co37, eo37⟩ := Kd.R_slice HO715.out; subst eo37; obtain ⟨Ao38, co38, eo38⟩ := Kd.R_slice HO718.out; subst eo38) | ((with_reducible refine gate_callee (f := 30) rfl ?_); refine goesL_ (some 31) rfl rfl Try.func30 (by kernel_rfl) rfl #[.agg #[.slice Ao37 t713.length co37], .slice Ao38 t716.length co38, .int .i64 a2] rfl (aq) ?_; (with_reducible refine (spec_WayToLoop.calls k _ _ t713 _ _ t716 a2 t719 _ ?side1 ?side2 ?side3 ?side4 A16.out).mono ?_); (case side1 => repeat (first | exact (Kd.R_reads' HO715.out).2.2 | (with_reducible refine Kd.C_alloc ?_ _) | (with_reducible refine Kd.C_drewN ?_ _) | (with_reducible refine Kd.C_drew ?_))); (case side2 => exact (Kd.R_reads' HO715.out).2.1); (case side3 => repeat (first | exact (Kd.R_reads' HO718.out).2.2 | (with_reducible refine Kd.C_alloc ?_ _) | (with_reducible refine Kd.C_drewN ?_ _) | (with_reducible refine Kd.C_drew ?_))); (case side4 => exact (Kd.R_reads' HO718.out).2.1); rintro e w39 ⟨v720, rfl, ho0, hb⟩; refine ⟨_, rfl, ?_⟩; have n0_ := Aside0.mk (Kd.R_below (rq HO715.out) hb); have n1_ := Aside0.mk (Kd.R_below (rq HO718.out) hb); have n2_ := Aside0.mk (Kd.R_lower ho0 (below_size (by repeat (first | (with_reducible first | exact HB.out | apply below_alloc | apply pw_below_drewN | apply below_drew1 | refine below_set ?_ GE710.out) | exact HB.out)))); have n3_ := Aside0.mk (blk_below (g := gb710) (o := .cells #[.slice A0_0 l0_0.length c0_0] 24 (0, 0)) (kq BK710.out) hb); have n4_ := Aside0.mk (below_step (by repeat (first | (with_reducible first | exact HB.out | apply below_alloc | apply pw_below_drewN | apply below_drew1 | refine below_set ?_ GE710.out) | exact HB.out)) hb); clear HO715; clear HO718; clear BK710; clear HB; have HO715 := n0_; have HO718 := n1_; have HO721 := n2_; have BK710 := n3_; have HB := n4_; clear n0_ n1_ n2_ n3_ n4_; (try clear hb); (try clear hb2); (try clear hk); (try clear hi); (try clear ho0); have hcz40_0 : w39.cell? ⟨gb710, 0, none⟩ = some (.slice A0_0 l0_0.length c0_0) := (blk_cell BK710.out 0).trans rfl; have hfz40_0 := blk_frozen BK710.out 0) | ((with_reducible refine gate_callee (f := 12) rfl ?_); refine goesL_ (some 33) rfl rfl Try.func12 (by kernel_rfl) rfl #[.agg #[.slice A0_0 l0_0.length c0_0]] rfl (aq) ?_; (with_reducible refine (laws_toTree.calls k _ _ l0_0 t722 _ ?side1 ?side2 A17.out).mono ?_); (case side1 => exact cq (Kd.C_below HR0_0.out HB.out)); (case side2 => exact HC0_0.out); rintro e w41 ⟨v723, rfl, ho0, hb⟩; refine ⟨_, rfl, ?_⟩; have n0_ := Aside0.mk (Kd.R_elder' (rq HO715.out) (Kd.R_base ho0) hb); have n1_ := Aside0.mk (Kd.R_below (rq HO718.out) hb); have n2_ := Aside0.mk (Kd.R_below (rq HO721.out) hb); have n3_ := Aside0.mk (Kd.R_lower (Kd.R_new' ho0 (Kd.R_lt (rq HO715.out))) (below_size (by repeat (first | (with_reducible first | exact HB.out | apply below_alloc | apply pw_below_drewN | apply below_drew1 | refine below_set ?_ GE710.out) | exact HB.out)))); have n4_ := Aside0.mk (blk_below (g := gb710) (o := .cells #[.slice A0_0 l0_0.length c0_0] 24 (0, 0)) (kq BK710.out) hb); have n5_ := Aside0.mk (below_step (by repeat (first | (with_reducible first | exact HB.out | apply below_alloc | apply pw_below_drewN | apply below_drew1 | refine below_set ?_ GE710.out) | exact HB.out)) hb); clear HO715; clear HO718; clear HO721; clear BK710; clear HB; have HO715 := n0_; have HO718 := n1_; have HO721 := n2_; have HO724 := n3_; have BK710 := n4_; have HB := n5_; clear n0_ n1_ n2_ n3_ n4_ n5_; (try clear hb); (try clear hb2); (try clear hk); (try clear hi); (try clear ho0)) | ((with_reducible refine gate_dst (N := 9) rfl ?_); refine box_event ?hg (N := 9) ?hd (cs := #[.slice none 0 0]) (t := 31) ?hr ?_; (case hd => rfl); (case hg => rfl); (case hr => first | (go_simp; done) | (go_simp; rfl)); intro gb725 hg w42 hbox hb; have n0_ := Aside0.mk (Kd.R_below (rq HO715.out) hb); have n1_ := Aside0.mk (Kd.R_below (rq HO718.out) hb); have n2_ := Aside0.mk (Kd.R_below (rq HO721.out) hb); have n3_ := Aside0.mk (Kd.R_below (rq HO724.out) hb); have n4_ := Aside0.mk (blk_below (g := gb710) (o := .cells #[.slice A0_0 l0_0.length c0_0] 24 (0, 0)) (kq BK710.out) hb); have n5_ := Aside0.mk (below_step (by repeat (first | (with_reducible first | exact HB.out | apply below_alloc | apply pw_below_drewN | apply below_drew1 | refine below_set ?_ GE710.out) | exact HB.out)) hb); have n6_ := Aside0.mk (hbox); have n7_ := Aside0.mk ((by rw [hg]; exact (below_size (by repeat (first | (with_reducible first | exact HB.out | apply below_alloc | apply pw_below_drewN | apply below_drew1 | refine below_set ?_ GE710.out) | exact HB.out))) : w.heap.size ≤ gb725)); have n8_ := Aside0.mk ((by rw [hg]; exact (below_size (by repeat (first | (with_reducible first | exact HB.out | apply below_alloc | apply pw_below_drewN | apply below_drew1 | refine below_set ?_ GE710.out) | exact HB.out))) : w.heap.size ≤ gb725)); have n9_ := Aside0.mk ((by rw [hg]; exact Nat.ne_of_lt (blk_lt (g := gb710) (o := .cells #[.slice A0_0 l0_0.length c0_0] 24 (0, 0)) (kq BK710.out)) : gb710 ≠ gb725)); have n10_ := Aside0.mk ((by rw [hg]; exact Nat.ne_of_gt (blk_lt (g := gb710) (o := .cells #[.slice A0_0 l0_0.length c0_0] 24 (0, 0)) (kq BK710.out)) : gb725 ≠ gb710)); clear HO715; clear HO718; clear HO721; clear HO724; clear BK710; clear HB; have HO715 := n0_; have HO718 := n1_; have HO721 := n2_; have HO724 := n3_; have BK710 := n4_; have HB := n5_; have BK725 := n6_; have GW725 := n7_; have GE725 := n8_; have NB710_725 := n9_; have NB725_710 := n10_; clear n0_ n1_ n2_ n3_ n4_ n5_ n6_ n7_ n8_ n9_ n10_; clear hb hbox hg; obtain ⟨Ao43, co43, eo43⟩ := Kd.R_slice HO724.out; subst eo43; have hnb44 := NB725_710.out; have hnc44 := NB710_725.out; have hcz45_0 : w42.cell? ⟨gb725, 0, none⟩ = some (.slice none 0 0) := (blk_cell BK725.out 0).trans rfl; have hfz45_0 := blk_frozen BK725.out 0) | ((with_reducible refine gate_callee (f := 13) rfl ?_); refine goesL_ (some 35) rfl rfl Try.func13 (by kernel_rfl) rfl #[.slice A1 l1.length c1] rfl (aq) ?_; (with_reducible refine (laws_toLineS.calls k _ _ l1 t726 _ ?side1 ?side2 A18.out).mono ?_); (case side1 => exact Kd.C_below HR1.out (by repeat (first | (with_reducible first | exact HB.out | apply below_alloc | apply pw_below_drewN | apply below_drew1 | refine below_set ?_ GE710.out | refine below_set ?_ GE725.out) | exact HB.out))); (case side2 => exact HC1.out); rintro e w46 ⟨v727, rfl, ho0, hb⟩; refine ⟨_, rfl, ?_⟩; have n0_ := Aside0.mk (Kd.R_below (by (with_reducible repeat (first | apply Kd.R_alloc | apply Kd.R_drewN | apply Kd.R_drew)); exact (Kd.R_mono (Kd.R_far (p := ⟨gb725, 0, none⟩) (Kd.R_types HO715.out BK725.out (by decide)) (fun _ hk => hk.2) (.slice Ao43 t722.length co43)) (fun _ h_ => h_.1))) hb); have n1_ := Aside0.mk (Kd.R_elder' (by (with_reducible repeat (first | apply Kd.R_alloc | apply Kd.R_drewN | apply Kd.R_drew)); exact (Kd.R_mono (Kd.R_far (p := ⟨gb725, 0, none⟩) (Kd.R_types HO718.out BK725.out (by decide)) (fun _ hk => hk.2) (.slice Ao43 t722.length co43)) (fun _ h_ => h_.1))) (Kd.R_base ho0) hb); have n2_ := Aside0.mk (Kd.R_below (by (with_reducible repeat (first | apply Kd.R_alloc | apply Kd.R_drewN | apply Kd.R_drew)); exact (Kd.R_mono (Kd.R_far (p := ⟨gb725, 0, none⟩) (Kd.R_types HO721.out BK725.out (by decide)) (fun _ hk => hk.2) (.slice Ao43 t722.length co43)) (fun _ h_ => h_.1))) hb); have n3_ := Aside0.mk (Kd.R_below (by (with_reducible repeat (first | apply Kd.R_alloc | apply Kd.R_drewN | apply Kd.R_drew)); exact (Kd.R_mono (Kd.R_far (p := ⟨gb725, 0, none⟩) (Kd.R_types HO724.out BK725.out (by decide)) (fun _ hk => hk.2) (.slice Ao43 t722.length co43)) (fun _ h_ => h_.1))) hb); have n4_ := Aside0.mk (Kd.R_lower (Kd.R_new' ho0 (Kd.R_lt (by (with_reducible repeat (first | apply Kd.R_alloc | apply Kd.R_drewN | apply Kd.R_drew)); exact (Kd.R_mono (Kd.R_far (p := ⟨gb725, 0, none⟩) (Kd.R_types HO718.out BK725.out (by decide)) (fun _ hk => hk.2) (.slice Ao43 t722.length co43)) (fun _ h_ => h_.1))))) (below_size (by repeat (first | (with_reducible first | exact HB.out | apply below_alloc | apply pw_below_drewN | apply below_drew1 | refine below_set ?_ GE710.out | refine below_set ?_ GE725.out) | exact HB.out)))); have n5_ := Aside0.mk (blk_below (g := gb710) (o := .cells #[.slice A0_0 l0_0.length c0_0] 24 (0, 0)) (by (with_reducible repeat (first | refine blk_drewN ?_ _ | refine blk_drew ?_ | refine blk_alloc ?_ _)); refine blk_far ?_ NB710_725.out _; (with_reducible repeat (first | refine blk_drewN ?_ _ | refine blk_drew ?_ | refine blk_alloc ?_ _)); exact BK710.out) hb); have n6_ := Aside0.mk (blk_below (g := gb725) (o := .cells #[.slice Ao43 t722.length co43] 31 (0, 0)) (by (with_reducible repeat (first | refine blk_drewN ?_ _ | refine blk_drew ?_ | refine blk_alloc ?_ _)); refine blk_put (cs := #[.slice none 0 0]) ?_ 0 _ rfl; (with_reducible repeat (first | refine blk_drewN ?_ _ | refine blk_drew ?_ | refine blk_alloc ?_ _)); exact BK725.out) hb); have n7_ := Aside0.mk (below_step (by repeat (first | (with_reducible first | exact HB.out | apply below_alloc | apply pw_below_drewN | apply below_drew1 | refine below_set ?_ GE710.out | refine below_set ?_ GE725.out) | exact HB.out)) hb); clear HO715; clear HO718; clear HO721; clear HO724; clear BK710; clear BK725; clear HB; have HO715 := n0_; have HO718 := n1_; have HO721 := n2_; have HO724 := n3_; have HO728 := n4_; have BK710 := n5_; have BK725 := n6_; have HB := n7_; clear n0_ n1_ n2_ n3_ n4_ n5_ n6_ n7_; (try clear hb); (try clear hb2); (try clear hk); (try clear hi); (try clear ho0); have hcz47_0 : w46.cell? ⟨gb725, 0, none⟩ = some (.slice Ao43 t722.length co43) := (blk_cell BK725.out 0).trans rfl; have hfz47_0 := blk_frozen BK725.out 0; obtain ⟨Ao48, co48, eo48⟩ := Kd.R_slice HO728.out; subst eo48) | ((with_reducible refine gate_callee (f := 31) rfl ?_); refine goesL_ (some 39) rfl rfl Try.func31 (by kernel_rfl) rfl #[.agg #[.slice Ao43 t722.length co43], .slice Ao48 t726.length co48, .int .i64 a2] rfl (aq) ?_; (with_reducible refine (impl_WayToLoop.calls k _ _ t722 _ _ t726 a2 t729 _ ?side1 ?side2 ?side3 ?side4 A19.out).mono ?_); (case side1 => repeat (first | exact (Kd.R_reads' HO724.out).2.2 | (with_reducible refine Kd.C_alloc ?_ _) | (with_reducible refine Kd.C_drewN ?_ _) | (with_reducible refine Kd.C_drew ?_))); (case side2 => exact (Kd.R_reads' HO724.out).2.1); (case side3 => repeat (first | exact (Kd.R_reads' HO728.out).2.2 | (with_reducible refine Kd.C_alloc ?_ _) | (with_reducible refine Kd.C_drewN ?_ _) | (with_reducible refine Kd.C_drew ?_))); (case side4 => exact (Kd.R_reads' HO728.out).2.1); rintro e w49 ⟨v730, rfl, ho0, hb⟩; refine ⟨_, rfl, ?_⟩; have n0_ := Aside0.mk (Kd.R_below (rq HO715.out) hb); have n1_ := Aside0.mk (Kd.R_below (rq HO718.out) hb); have n2_ := Aside0.mk (Kd.R_elder' (rq HO721.out) (Kd.R_base ho0) hb); have n3_ := Aside0.mk (Kd.R_below (rq HO724.out) hb); have n4_ := Aside0.mk (Kd.R_below (rq HO728.out) hb); have n5_ := Aside0.mk (Kd.R_lower (Kd.R_new' ho0 (Kd.R_lt (rq HO721.out))) (below_size (by repeat (first | (with_reducible first | exact HB.out | apply below_alloc | apply pw_below_drewN | apply below_drew1 | refine below_set ?_ GE710.out | refine below_set ?_ GE725.out) | exact HB.out)))); have n6_ := Aside0.mk (blk_below (g := gb710) (o := .cells #[.slice A0_0 l0_0.length c0_0] 24 (0, 0)) (kq BK710.out) hb); have n7_ := Aside0.mk (blk_below (g := gb725) (o := .cells #[.slice Ao43 t722.length co43] 31 (0, 0)) (kq BK725.out) hb); have n8_ := Aside0.mk (below_step (by repeat (first | (with_reducible first | exact HB.out | apply below_alloc | apply pw_below_drewN | apply below_drew1 | refine below_set ?_ GE710.out | refine below_set ?_ GE725.out) | exact HB.out)) hb); clear HO715; clear HO718; clear HO721; clear HO724; clear HO728; clear BK710; clear BK725; clear HB; have HO715 := n0_; have HO718 := n1_; have HO721 := n2_; have HO724 := n3_; have HO728 := n4_; have HO731 := n5_; have BK710 := n6_; have BK725 := n7_; have HB := n8_; clear n0_ n1_ n2_ n3_ n4_ n5_ n6_ n7_ n8_; (try clear hb); (try clear hb2); (try clear hk); (try clear hi); (try clear ho0); obtain ⟨Ao50, co50, eo50⟩ := Kd.R_slice HO731.out; subst eo50; obtain ⟨Ao51, co51, eo51⟩ := Kd.R_slice HO721.out; subst eo51) | ((with_reducible refine gate_callee (f := 19) rfl ?_); refine goesL_ (some 42) rfl rfl Try.func19 (by kernel_rfl) rfl #[.slice Ao50 t729.length co50, .slice Ao51 t719.length co51] rfl (aq) ?_; (with_reducible refine (laws_eqIntS.calls k _ _ t729 _ _ t719 true _ ?side1 ?side2 ?side3 ?side4 A20.out).mono ?_); (case side1 => repeat (first | exact (Kd.R_reads' HO731.out).2.2 | (with_reducible refine Kd.C_alloc ?_ _) | (with_reducible refine Kd.C_drewN ?_ _) | (with_reducible refine Kd.C_drew ?_))); (case side2 => exact (Kd.R_reads' HO731.out).2.1); (case side3 => repeat (first | exact (Kd.R_reads' HO721.out).2.2 | (with_reducible refine Kd.C_alloc ?_ _) | (with_reducible refine Kd.C_drewN ?_ _) | (with_reducible refine Kd.C_drew ?_))); (case side4 => exact (Kd.R_reads' HO721.out).2.1); rintro e w' ⟨rfl, ⟨nd, rfl⟩⟩; refine ⟨_, rfl, ?_⟩))
            (try (rw [drewN_self w49]; generalize hq_ : World.drewN w49 _ = w49; have n0_ : Aside0 (Kd.R k68 68 w49 w.heap.size (fun k_ => (True ∧ some k_ ≠ (.slice Ao43 t722.length co43 : Value).ownBlock)) (.slice Ao37 t713.length co37) t713) := ⟨by rw [← hq_]; exact (rq HO715.out)⟩; have n1_ : Aside0 (Kd.R k50 50 w49 w.heap.size (fun k_ => (True ∧ some k_ ≠ (.slice Ao48 t726.length co48 : Value).ownBlock)) (.slice Ao38 t716.length co38) t716) := ⟨by rw [← hq_]; exact (rq HO718.out)⟩; have n2_ : Aside0 (Kd.R (Kd.int .i64) 3 w49 w.heap.size (fun k_ => (True ∧ some k_ ≠ (.slice Ao50 t729.length co50 : Value).ownBlock)) (.slice Ao51 t719.length co51) t719) := ⟨by rw [← hq_]; exact (rq HO721.out)⟩; have n3_ : Aside0 (Kd.R k68 68 w49 w.heap.size (fun k_ => (True ∧ some k_ ≠ (.slice Ao37 t713.length co37 : Value).ownBlock)) (.slice Ao43 t722.length co43) t722) := ⟨by rw [← hq_]; exact (rq HO724.out)⟩; have n4_ : Aside0 (Kd.R k50 50 w49 w.heap.size (fun k_ => (True ∧ some k_ ≠ (.slice Ao38 t716.length co38 : Value).ownBlock)) (.slice Ao48 t726.length co48) t726) := ⟨by rw [← hq_]; exact (rq HO728.out)⟩; have n5_ : Aside0 (Kd.R (Kd.int .i64) 3 w49 w.heap.size (fun k_ => (True ∧ some k_ ≠ (.slice Ao51 t719.length co51 : Value).ownBlock)) (.slice Ao50 t729.length co50) t729) := ⟨by rw [← hq_]; exact (rq HO731.out)⟩; have n6_ : Aside0 (w49.heap[gb710]? = some (.cells #[.slice A0_0 l0_0.length c0_0] 24 (0, 0))) := ⟨by rw [← hq_]; exact (kq BK710.out)⟩; have n7_ : Aside0 (w49.heap[gb725]? = some (.cells #[.slice Ao43 t722.length co43] 31 (0, 0))) := ⟨by rw [← hq_]; exact (kq BK725.out)⟩; have n8_ : Aside0 (Below w.heap.size w w49) := ⟨by rw [← hq_]; exact (by repeat (first | (with_reducible first | exact HB.out | apply below_alloc | apply pw_below_drewN | apply below_drew1 | refine below_set ?_ GE710.out | refine below_set ?_ GE725.out) | exact HB.out))⟩; clear HO715 HO718 HO721 HO724 HO728 HO731 BK710 BK725 HB hq_; have HO715 := n0_; have HO718 := n1_; have HO721 := n2_; have HO724 := n3_; have HO728 := n4_; have HO731 := n5_; have BK710 := n6_; have BK725 := n7_; have HB := n8_; clear n0_ n1_ n2_ n3_ n4_ n5_ n6_ n7_ n8_))
            have n0_ := Aside0.mk (Kd.R_drew HO715.out)
            have n1_ := Aside0.mk (Kd.R_drew HO718.out)
            have n2_ := Aside0.mk (Kd.R_drew HO721.out)
            have n3_ := Aside0.mk (Kd.R_drew HO724.out)
            have n4_ := Aside0.mk (Kd.R_drew HO728.out)
            have n5_ := Aside0.mk (Kd.R_drew HO731.out)
            have n6_ := Aside0.mk (blk_drew BK710.out)
            have n7_ := Aside0.mk (blk_drew BK725.out)
            have n8_ := Aside0.mk (below_drew1 HB.out)
            clear HO715
            clear HO718
            clear HO721
            clear HO724
            clear HO728
            clear HO731
            clear BK710
            clear BK725
            clear HB
            have HO715 := n0_
            have HO718 := n1_
            have HO721 := n2_
            have HO724 := n3_
            have HO728 := n4_
            have HO731 := n5_
            have BK710 := n6_
            have BK725 := n7_
            have HB := n8_
            clear n0_ n1_ n2_ n3_ n4_ n5_ n6_ n7_ n8_
            refine start_ (n := 5) (S := fun w' => w'.cell? ⟨gb725, 0, none⟩ = some (.slice Ao43 t722.length co43) ∧ w'.cell? ⟨gb710, 0, none⟩ = some (.slice A0_0 l0_0.length c0_0)) (ds := []) #[false, false, false, false, false] (by kernel_rfl) rfl rfl ⟨(blk_cell BK725.out 0).trans rfl, (blk_cell BK710.out 0).trans rfl⟩ (fun hHeld => ?_)
            generalize w49.drew = w52 at HO715 HO718 HO721 HO724 HO728 HO731 BK710 BK725 HB hHeld ⊢
            refine take_ (i := 0) (N := some 44) (v := ?_) (a' := ?_) #[true, false, false, false, false] rfl rfl (by kernel_rfl) (fun _ _ _ h => h) (Or.inl ⟨by rfl, ?_⟩) hHeld ?_ ?_
            rotate_left
            · rintro w' ⟨s0, s1⟩
              go_simp
              with_reducible rfl
            rotate_left
            · simp only [Act.put, List.setIfInBounds_toArray, List.set_cons_zero, List.set_cons_succ, i64_w, i32_w]
              rfl
            refine take_ (i := 1) (N := some 45) (v := ?_) (a' := ?_) #[true, true, false, false, false] rfl rfl (by kernel_rfl) (fun _ _ _ h => h) (Or.inl ⟨by rfl, ?_⟩) hHeld ?_ ?_
            rotate_left
            · rintro w' ⟨s0, s1⟩
              go_simp
              with_reducible rfl
            rotate_left
            · simp only [Act.put, List.setIfInBounds_toArray, List.set_cons_zero, List.set_cons_succ, i64_w, i32_w]
              rfl
            refine one_ (i := 2) (N := some 46) #[true, true, true, false, false] rfl rfl (by kernel_rfl) (by decide) (fun K hK => ?_)
            refine goes_ Try.func12 (by kernel_rfl) rfl #[.agg #[.slice A0_0 l0_0.length c0_0]] (by rfl) rfl rfl (aq) ?_
            with_reducible refine (laws_toTree.calls k _ _ l0_0 t733 _ ?side1 ?side2 A22.out).mono ?_
            (case side1 => exact cq (Kd.C_below HR0_0.out HB.out))
            (case side2 => exact HC0_0.out)
            rintro e w53 ⟨v734, rfl, ho0, hb⟩
            refine ⟨_, rfl, ?_⟩
            have n0_ := Aside0.mk (Kd.R_elder' (rq HO715.out) (Kd.R_base ho0) hb)
            have n1_ := Aside0.mk (Kd.R_below (rq HO718.out) hb)
            have n2_ := Aside0.mk (Kd.R_below (rq HO721.out) hb)
            have n3_ := Aside0.mk (Kd.R_elder' (rq HO724.out) (Kd.R_base ho0) hb)
            have n4_ := Aside0.mk (Kd.R_below (rq HO728.out) hb)
            have n5_ := Aside0.mk (Kd.R_below (rq HO731.out) hb)
            have n6_ := Aside0.mk (Kd.R_lower (Kd.R_new' (Kd.R_new' ho0 (Kd.R_lt (rq HO715.out))) (Kd.R_lt (rq HO724.out))) (below_size (by repeat (first | (with_reducible first | exact HB.out | apply below_alloc | apply pw_below_drewN | apply below_drew1 | refine below_set ?_ GE710.out | refine below_set ?_ GE725.out) | exact HB.out))))
            have n7_ := Aside0.mk (blk_below (g := gb710) (o := .cells #[.slice A0_0 l0_0.length c0_0] 24 (0, 0)) (kq BK710.out) hb)
            have n8_ := Aside0.mk (blk_below (g := gb725) (o := .cells #[.slice Ao43 t722.length co43] 31 (0, 0)) (kq BK725.out) hb)
            have n9_ := Aside0.mk (below_step (by repeat (first | (with_reducible first | exact HB.out | apply below_alloc | apply pw_below_drewN | apply below_drew1 | refine below_set ?_ GE710.out | refine below_set ?_ GE725.out) | exact HB.out)) hb)
            clear HO715
            clear HO718
            clear HO721
            clear HO724
            clear HO728
            clear HO731
            clear BK710
            clear BK725
            clear HB
            have HO715 := n0_
            have HO718 := n1_
            have HO721 := n2_
            have HO724 := n3_
            have HO728 := n4_
            have HO731 := n5_
            have HO735 := n6_
            have BK710 := n7_
            have BK725 := n8_
            have HB := n9_
            clear n0_ n1_ n2_ n3_ n4_ n5_ n6_ n7_ n8_ n9_
            (try clear hb)
            (try clear hb2)
            (try clear hk)
            (try clear hi)
            (try clear ho0)
            obtain ⟨Ao54, co54, eo54⟩ := Kd.R_slice HO735.out
            (first | subst eo54 | (injection eo54 with f1_ f2_ f3_; have f4_ := f1_.symm; have f5_ := f3_.symm; clear f1_ f2_ f3_; subst f4_; subst f5_))
            refine hK.out _ _ ⟨(blk_cell BK725.out 0).trans rfl, (blk_cell BK710.out 0).trans rfl⟩ (fun hHeld => ?_)
            clear hK K
            refine norm_ (a' := ?_) ?_ ?_
            rotate_left
            · show Act.put _ (some 46) _ = _
              simp only [Act.put, List.setIfInBounds_toArray, List.set_cons_zero, List.set_cons_succ, i64_w, i32_w]
              rfl
            refine one_ (i := 3) (N := some 47) #[true, true, true, true, false] rfl rfl (by kernel_rfl) (by decide) (fun K hK => ?_)
            refine goes_ Try.func15 (by kernel_rfl) rfl #[.agg #[.slice Ao43 t722.length co43], .agg #[.slice Ao54 t733.length co54]] (by rfl) rfl rfl (aq) ?_
            with_reducible refine (laws_eqTree.calls k _ _ t722 _ _ t733 true _ ?side1 ?side2 ?side3 ?side4 A23.out).mono ?_
            (case side1 => repeat (first | exact (Kd.R_reads' HO724.out).2.2 | (with_reducible refine Kd.C_alloc ?_ _) | (with_reducible refine Kd.C_drewN ?_ _) | (with_reducible refine Kd.C_drew ?_)))
            (case side2 => exact (Kd.R_reads' HO724.out).2.1)
            (case side3 => repeat (first | exact (Kd.R_reads' HO735.out).2.2 | (with_reducible refine Kd.C_alloc ?_ _) | (with_reducible refine Kd.C_drewN ?_ _) | (with_reducible refine Kd.C_drew ?_)))
            (case side4 => exact (Kd.R_reads' HO735.out).2.1)
            rintro e w55 ⟨rfl, hb⟩
            refine ⟨_, rfl, ?_⟩
            have n0_ := Aside0.mk (Kd.R_below (rq HO715.out) hb)
            have n1_ := Aside0.mk (Kd.R_below (rq HO718.out) hb)
            have n2_ := Aside0.mk (Kd.R_below (rq HO721.out) hb)
            have n3_ := Aside0.mk (Kd.R_below (rq HO724.out) hb)
            have n4_ := Aside0.mk (Kd.R_below (rq HO728.out) hb)
            have n5_ := Aside0.mk (Kd.R_below (rq HO731.out) hb)
            have n6_ := Aside0.mk (Kd.R_below (rq HO735.out) hb)
            have n7_ := Aside0.mk (blk_below (g := gb710) (o := .cells #[.slice A0_0 l0_0.length c0_0] 24 (0, 0)) (kq BK710.out) hb)
            have n8_ := Aside0.mk (blk_below (g := gb725) (o := .cells #[.slice Ao43 t722.length co43] 31 (0, 0)) (kq BK725.out) hb)
            have n9_ := Aside0.mk (below_step (by repeat (first | (with_reducible first | exact HB.out | apply below_alloc | apply pw_below_drewN | apply below_drew1 | refine below_set ?_ GE710.out | refine below_set ?_ GE725.out) | exact HB.out)) hb)
            clear HO715
            clear HO718
            clear HO721
            clear HO724
            clear HO728
            clear HO731
            clear HO735
            clear BK710
            clear BK725
            clear HB
            have HO715 := n0_
            have HO718 := n1_
            have HO721 := n2_
            have HO724 := n3_
            have HO728 := n4_
            have HO731 := n5_
            have HO735 := n6_
            have BK710 := n7_
            have BK725 := n8_
            have HB := n9_
            clear n0_ n1_ n2_ n3_ n4_ n5_ n6_ n7_ n8_ n9_
            (try clear hb)
            (try clear hb2)
            (try clear hk)
            (try clear hi)
            refine hK.out _ _ ⟨(blk_cell BK725.out 0).trans rfl, (blk_cell BK710.out 0).trans rfl⟩ (fun hHeld => ?_)
            clear hK K
            refine norm_ (a' := ?_) ?_ ?_
            rotate_left
            · show Act.put _ (some 47) _ = _
              simp only [Act.put, List.setIfInBounds_toArray, List.set_cons_zero, List.set_cons_succ, i64_w, i32_w]
              rfl
            refine pure_ (i := 4) (N := some 48) (v := ?_) (a' := ?_) #[true, true, true, true, true] rfl rfl (by kernel_rfl) (fun _ _ _ h => h) (Or.inl ⟨by rfl, ?_⟩) ?_ ?_
            rotate_left
            · intro w'
              go_simp
              with_reducible rfl
            rotate_left
            · simp only [Act.put, List.setIfInBounds_toArray, List.set_cons_zero, List.set_cons_succ, i64_w, i32_w]
              rfl
            refine done_ (by kernel_rfl) ?_
            go_upto_region 21 with (first | ((with_reducible refine gate_callee (f := 13) rfl ?_); refine goesL_ (some 51) rfl rfl Try.func13 (by kernel_rfl) rfl #[.slice A1 l1.length c1] rfl (aq) ?_; (with_reducible refine (laws_toLineS.calls k _ _ l1 t737 _ ?side1 ?side2 A25.out).mono ?_); (case side1 => exact cq (Kd.C_below HR1.out HB.out)); (case side2 => exact HC1.out); rintro e w56 ⟨v738, rfl, ho0, hb⟩; refine ⟨_, rfl, ?_⟩; have n0_ := Aside0.mk (Kd.R_below (rq HO715.out) hb); have n1_ := Aside0.mk (Kd.R_elder' (rq HO718.out) (Kd.R_base ho0) hb); have n2_ := Aside0.mk (Kd.R_below (rq HO721.out) hb); have n3_ := Aside0.mk (Kd.R_below (rq HO724.out) hb); have n4_ := Aside0.mk (Kd.R_elder' (rq HO728.out) (Kd.R_base ho0) hb); have n5_ := Aside0.mk (Kd.R_below (rq HO731.out) hb); have n6_ := Aside0.mk (Kd.R_below (rq HO735.out) hb); have n7_ := Aside0.mk (Kd.R_lower (Kd.R_new' (Kd.R_new' ho0 (Kd.R_lt (rq HO718.out))) (Kd.R_lt (rq HO728.out))) (below_size (by repeat (first | (with_reducible first | exact HB.out | apply below_alloc | apply pw_below_drewN | apply below_drew1 | refine below_set ?_ GE710.out | refine below_set ?_ GE725.out) | exact HB.out)))); have n8_ := Aside0.mk (blk_below (g := gb710) (o := .cells #[.slice A0_0 l0_0.length c0_0] 24 (0, 0)) (kq BK710.out) hb); have n9_ := Aside0.mk (blk_below (g := gb725) (o := .cells #[.slice Ao43 t722.length co43] 31 (0, 0)) (kq BK725.out) hb); have n10_ := Aside0.mk (below_step (by repeat (first | (with_reducible first | exact HB.out | apply below_alloc | apply pw_below_drewN | apply below_drew1 | refine below_set ?_ GE710.out | refine below_set ?_ GE725.out) | exact HB.out)) hb); clear HO715; clear HO718; clear HO721; clear HO724; clear HO728; clear HO731; clear HO735; clear BK710; clear BK725; clear HB; have HO715 := n0_; have HO718 := n1_; have HO721 := n2_; have HO724 := n3_; have HO728 := n4_; have HO731 := n5_; have HO735 := n6_; have HO739 := n7_; have BK710 := n8_; have BK725 := n9_; have HB := n10_; clear n0_ n1_ n2_ n3_ n4_ n5_ n6_ n7_ n8_ n9_ n10_; (try clear hb); (try clear hb2); (try clear hk); (try clear hi); (try clear ho0); obtain ⟨Ao57, co57, eo57⟩ := Kd.R_slice HO739.out; subst eo57) | ((with_reducible refine gate_callee (f := 16) rfl ?_); refine goesL_ (some 52) rfl rfl Try.func16 (by kernel_rfl) rfl #[.slice Ao48 t726.length co48, .slice Ao57 t737.length co57] rfl (aq) ?_; (with_reducible refine (laws_eqLineS.calls k _ _ t726 _ _ t737 true _ ?side1 ?side2 ?side3 ?side4 A26.out).mono ?_); (case side1 => repeat (first | exact (Kd.R_reads' HO728.out).2.2 | (with_reducible refine Kd.C_alloc ?_ _) | (with_reducible refine Kd.C_drewN ?_ _) | (with_reducible refine Kd.C_drew ?_))); (case side2 => exact (Kd.R_reads' HO728.out).2.1); (case side3 => repeat (first | exact (Kd.R_reads' HO739.out).2.2 | (with_reducible refine Kd.C_alloc ?_ _) | (with_reducible refine Kd.C_drewN ?_ _) | (with_reducible refine Kd.C_drew ?_))); (case side4 => exact (Kd.R_reads' HO739.out).2.1); rintro e w58 ⟨rfl, hb⟩; refine ⟨_, rfl, ?_⟩; have n0_ := Aside0.mk (Kd.R_below (rq HO715.out) hb); have n1_ := Aside0.mk (Kd.R_below (rq HO718.out) hb); have n2_ := Aside0.mk (Kd.R_below (rq HO721.out) hb); have n3_ := Aside0.mk (Kd.R_below (rq HO724.out) hb); have n4_ := Aside0.mk (Kd.R_below (rq HO728.out) hb); have n5_ := Aside0.mk (Kd.R_below (rq HO731.out) hb); have n6_ := Aside0.mk (Kd.R_below (rq HO735.out) hb); have n7_ := Aside0.mk (Kd.R_below (rq HO739.out) hb); have n8_ := Aside0.mk (blk_below (g := gb710) (o := .cells #[.slice A0_0 l0_0.length c0_0] 24 (0, 0)) (kq BK710.out) hb); have n9_ := Aside0.mk (blk_below (g := gb725) (o := .cells #[.slice Ao43 t722.length co43] 31 (0, 0)) (kq BK725.out) hb); have n10_ := Aside0.mk (below_step (by repeat (first | (with_reducible first | exact HB.out | apply below_alloc | apply pw_below_drewN | apply below_drew1 | refine below_set ?_ GE710.out | refine below_set ?_ GE725.out) | exact HB.out)) hb); clear HO715; clear HO718; clear HO721; clear HO724; clear HO728; clear HO731; clear HO735; clear HO739; clear BK710; clear BK725; clear HB; have HO715 := n0_; have HO718 := n1_; have HO721 := n2_; have HO724 := n3_; have HO728 := n4_; have HO731 := n5_; have HO735 := n6_; have HO739 := n7_; have BK710 := n8_; have BK725 := n9_; have HB := n10_; clear n0_ n1_ n2_ n3_ n4_ n5_ n6_ n7_ n8_ n9_ n10_; (try clear hb); (try clear hb2); (try clear hk); (try clear hi); have hcz59_0 : w58.cell? ⟨gb725, 0, none⟩ = some (.slice Ao43 t722.length co43) := (blk_cell BK725.out 0).trans rfl; have hfz59_0 := blk_frozen BK725.out 0) | ((with_reducible refine gate_callee (f := 20) rfl ?_); refine goesL_ (some 56) rfl rfl Try.func20 (by kernel_rfl) rfl #[.agg #[.slice Ao43 t722.length co43], .int .i64 1] rfl (aq) ?_; (with_reducible refine (laws_markTree.calls k (fun k_ => some k_ = (.slice Ao43 t722.length co43 : Value).ownBlock) (.slice Ao43 t722.length co43) t722 1 t741 t742 w _ ?side1 ?side2 A28.out).mono ?_); (case side1 => repeat (first | (with_reducible first | exact HB.out | apply below_alloc | apply pw_below_drewN | apply below_drew1 | refine below_set ?_ GE710.out | refine below_set ?_ GE725.out) | exact HB.out)); (case side2 => exact Kd.R_tight rfl HO724.out); rintro e w60 ⟨rfl, hy0, hb, hkp⟩; refine ⟨_, rfl, ?_⟩; have n0_ := Aside0.mk (blk_kept (kq BK710.out) hkp (fun hs_ => (fun e_ => (Kd.R_ne HO724.out BK710.out (by decide)) e_) hs_)); have n1_ := Aside0.mk (Kd.R_mono (ok' := fun k_ => some k_ ≠ (.slice Ao43 t722.length co43 : Value).ownBlock ∧ some k_ ≠ (.slice Ao54 t733.length co54 : Value).ownBlock) (Kd.R_keptB (HO715.out) hkp (fun k_ hk_ hs_ => (hk_.1.2) hs_)) (fun k_ hk_ => ⟨hk_.1.1.2, hk_.1.2⟩)); have n2_ := Aside0.mk (Kd.R_mono (ok' := fun k_ => some k_ ≠ (.slice Ao48 t726.length co48 : Value).ownBlock ∧ some k_ ≠ (.slice Ao57 t737.length co57 : Value).ownBlock) (Kd.R_keptB ((Kd.R_apart' HO718.out (Kd.R_typed HO724.out) (by decide))) hkp (fun k_ hk_ hs_ => (hk_.2) hs_)) (fun k_ hk_ => ⟨hk_.1.1.1.2, hk_.1.1.2⟩)); have n3_ := Aside0.mk (Kd.R_mono (ok' := fun k_ => some k_ ≠ (.slice Ao50 t729.length co50 : Value).ownBlock) (Kd.R_keptB ((Kd.R_apart' HO721.out (Kd.R_typed HO724.out) (by decide))) hkp (fun k_ hk_ hs_ => (hk_.2) hs_)) (fun k_ hk_ => hk_.1.1.2)); have n4_ := Aside0.mk (Kd.R_reok rfl hy0 (fun k_ e_ => HO724.out.1 k_ e_)); have n5_ := Aside0.mk (blk_kept (kq BK725.out) hkp (fun hs_ => (fun e_ => (Kd.R_ne HO724.out BK725.out (by decide)) e_) hs_)); have n6_ := Aside0.mk (Kd.R_mono (ok' := fun k_ => some k_ ≠ (.slice Ao38 t716.length co38 : Value).ownBlock ∧ some k_ ≠ (.slice Ao57 t737.length co57 : Value).ownBlock) (Kd.R_keptB ((Kd.R_apart' HO728.out (Kd.R_typed HO724.out) (by decide))) hkp (fun k_ hk_ hs_ => (hk_.2) hs_)) (fun k_ hk_ => ⟨hk_.1.1.1.2, hk_.1.1.2⟩)); have n7_ := Aside0.mk (Kd.R_mono (ok' := fun k_ => some k_ ≠ (.slice Ao51 t719.length co51 : Value).ownBlock) (Kd.R_keptB ((Kd.R_apart' HO731.out (Kd.R_typed HO724.out) (by decide))) hkp (fun k_ hk_ hs_ => (hk_.2) hs_)) (fun k_ hk_ => hk_.1.1.2)); have n8_ := Aside0.mk (Kd.R_mono (ok' := fun k_ => some k_ ≠ (.slice Ao37 t713.length co37 : Value).ownBlock ∧ some k_ ≠ (.slice Ao43 t722.length co43 : Value).ownBlock) (Kd.R_keptB (HO735.out) hkp (fun k_ hk_ hs_ => (hk_.2) hs_)) (fun k_ hk_ => ⟨hk_.1.1.2, hk_.1.2⟩)); have n9_ := Aside0.mk (Kd.R_mono (ok' := fun k_ => some k_ ≠ (.slice Ao38 t716.length co38 : Value).ownBlock ∧ some k_ ≠ (.slice Ao48 t726.length co48 : Value).ownBlock) (Kd.R_keptB ((Kd.R_apart' HO739.out (Kd.R_typed HO724.out) (by decide))) hkp (fun k_ hk_ hs_ => (hk_.2) hs_)) (fun k_ hk_ => ⟨hk_.1.1.1.2, hk_.1.1.2⟩)); have n10_ := Aside0.mk (hb); clear BK710; clear HO715; clear HO718; clear HO721; clear HO724; clear BK725; clear HO728; clear HO731; clear HO735; clear HO739; clear HB; have BK710 := n0_; have HO715 := n1_; have HO718 := n2_; have HO721 := n3_; have HO724 := n4_; have BK725 := n5_; have HO728 := n6_; have HO731 := n7_; have HO735 := n8_; have HO739 := n9_; have HB := n10_; clear n0_ n1_ n2_ n3_ n4_ n5_ n6_ n7_ n8_ n9_ n10_; (try clear hb); (try clear hkp); (try clear hy0)) | ((with_reducible refine gate_callee (f := 21) rfl ?_); refine goesL_ (some 59) rfl rfl Try.func21 (by kernel_rfl) rfl #[.slice Ao48 t726.length co48, .int .i64 t741] rfl (aq) ?_; (with_reducible refine (laws_markLineS.calls k (fun k_ => some k_ = (.slice Ao48 t726.length co48 : Value).ownBlock) (.slice Ao48 t726.length co48) t726 t741 t743 t744 w _ ?side1 ?side2 A29.out).mono ?_); (case side1 => repeat (first | (with_reducible first | exact HB.out | apply below_alloc | apply pw_below_drewN | apply below_drew1 | refine below_set ?_ GE710.out | refine below_set ?_ GE725.out) | exact HB.out)); (case side2 => exact Kd.R_tight rfl HO728.out); rintro e w61 ⟨rfl, hy0, hb, hkp⟩; refine ⟨_, rfl, ?_⟩; have n0_ := Aside0.mk (blk_kept (kq BK710.out) hkp (fun hs_ => (fun e_ => (Kd.R_ne HO728.out BK710.out (by decide)) e_) hs_)); have n1_ := Aside0.mk (Kd.R_mono (ok' := fun k_ => some k_ ≠ (.slice Ao43 t722.length co43 : Value).ownBlock ∧ some k_ ≠ (.slice Ao54 t733.length co54 : Value).ownBlock) (Kd.R_keptB ((Kd.R_apart' HO715.out (Kd.R_typed HO728.out) (by decide))) hkp (fun k_ hk_ hs_ => (hk_.2) hs_)) (fun k_ hk_ => ⟨hk_.1.1.1, hk_.1.1.2⟩)); have n2_ := Aside0.mk (Kd.R_mono (ok' := fun k_ => some k_ ≠ (.slice Ao48 t726.length co48 : Value).ownBlock ∧ some k_ ≠ (.slice Ao57 t737.length co57 : Value).ownBlock) (Kd.R_keptB (HO718.out) hkp (fun k_ hk_ hs_ => (hk_.1) hs_)) (fun k_ hk_ => ⟨hk_.1.1, hk_.1.2⟩)); have n3_ := Aside0.mk (Kd.R_mono (ok' := fun k_ => some k_ ≠ (.slice Ao50 t729.length co50 : Value).ownBlock) (Kd.R_keptB ((Kd.R_apart' HO721.out (Kd.R_typed HO728.out) (by decide))) hkp (fun k_ hk_ hs_ => (hk_.2) hs_)) (fun k_ hk_ => hk_.1.1)); have n4_ := Aside0.mk (Kd.R_mono (ok' := fun k_ => some k_ ≠ (.slice Ao37 t713.length co37 : Value).ownBlock ∧ some k_ ≠ (.slice Ao54 t733.length co54 : Value).ownBlock) (Kd.R_keptB ((Kd.R_apart' HO724.out (Kd.R_typed HO728.out) (by decide))) hkp (fun k_ hk_ hs_ => (hk_.2) hs_)) (fun k_ hk_ => ⟨hk_.1.1.1.2, hk_.1.1.2⟩)); have n5_ := Aside0.mk (blk_kept (kq BK725.out) hkp (fun hs_ => (fun e_ => (Kd.R_ne HO728.out BK725.out (by decide)) e_) hs_)); have n6_ := Aside0.mk (Kd.R_reok rfl hy0 (fun k_ e_ => HO728.out.1 k_ e_)); have n7_ := Aside0.mk (Kd.R_mono (ok' := fun k_ => some k_ ≠ (.slice Ao51 t719.length co51 : Value).ownBlock) (Kd.R_keptB ((Kd.R_apart' HO731.out (Kd.R_typed HO728.out) (by decide))) hkp (fun k_ hk_ hs_ => (hk_.2) hs_)) (fun k_ hk_ => hk_.1.1)); have n8_ := Aside0.mk (Kd.R_mono (ok' := fun k_ => some k_ ≠ (.slice Ao37 t713.length co37 : Value).ownBlock ∧ some k_ ≠ (.slice Ao43 t722.length co43 : Value).ownBlock) (Kd.R_keptB ((Kd.R_apart' HO735.out (Kd.R_typed HO728.out) (by decide))) hkp (fun k_ hk_ hs_ => (hk_.2) hs_)) (fun k_ hk_ => ⟨hk_.1.1.1, hk_.1.1.2⟩)); have n9_ := Aside0.mk (Kd.R_mono (ok' := fun k_ => some k_ ≠ (.slice Ao38 t716.length co38 : Value).ownBlock ∧ some k_ ≠ (.slice Ao48 t726.length co48 : Value).ownBlock) (Kd.R_keptB (HO739.out) hkp (fun k_ hk_ hs_ => (hk_.2) hs_)) (fun k_ hk_ => ⟨hk_.1.1, hk_.1.2⟩)); have n10_ := Aside0.mk (hb); clear BK710; clear HO715; clear HO718; clear HO721; clear HO724; clear BK725; clear HO728; clear HO731; clear HO735; clear HO739; clear HB; have BK710 := n0_; have HO715 := n1_; have HO718 := n2_; have HO721 := n3_; have HO724 := n4_; have BK725 := n5_; have HO728 := n6_; have HO731 := n7_; have HO735 := n8_; have HO739 := n9_; have HB := n10_; clear n0_ n1_ n2_ n3_ n4_ n5_ n6_ n7_ n8_ n9_ n10_; (try clear hb); (try clear hkp); (try clear hy0)))
            (try simp only [Act.put, List.setIfInBounds_toArray, List.set_cons_zero, List.set_cons_succ])
            go_cut [67] (fun v67 wc => ∃ (kq : Nat) (x67_29 : Bool), v67 = .bool x67_29 ∧ Aside0 (laws_FnExactWayToLoop.j0 kq l1 a2 t719 t729 x67_29 l0_0 = some r) ∧ Aside0 (kq ≤ k) ∧ Aside0 (Kd.R (Kd.int .i64) 3 wc w.heap.size (fun k_ => some k_ ≠ ((.slice Ao50 t729.length co50) : Value).ownBlock) (.slice Ao51 t719.length co51) t719) ∧ Aside0 (Kd.R (Kd.int .i64) 3 wc w.heap.size (fun k_ => some k_ ≠ ((.slice Ao51 t719.length co51) : Value).ownBlock) (.slice Ao50 t729.length co50) t729) ∧ Aside0 (Kd.R k68 68 wc w.heap.size (fun _ => True) (.slice Ao43 t722.length co43) t742) ∧ Aside0 (wc.heap[gb710]? = some (.cells #[(.slice A0_0 l0_0.length c0_0)] 24 (0, 0))) ∧ Aside0 (wc.heap[gb725]? = some (.cells #[(.slice Ao43 t722.length co43)] 31 (0, 0))) ∧ Aside0 (Below w.heap.size w wc))
            case first =>
              have H := HC30.out
              clear HC30
              by_cases c62 : t743 < 0
              · rw [if_pos c62] at H
                have c62b0 : decide (t743 < 0) = true := decide_eq_true c62
                clear c62
                (first | rw [c62b0] | (simp only [i64_w, i32_w]; rw [c62b0]) | skip)
                have H' := Aside0.mk H
                clear H
                go_wp2
                go_meet
                case rel => exact ⟨_, (true), (sq), H', ⟨by first | omega | exact Nat.le_refl _⟩, ⟨rq HO721.out⟩, ⟨rq HO731.out⟩, ⟨by (with_reducible repeat (first | apply Kd.R_alloc | apply Kd.R_drewN | apply Kd.R_drew)); exact Kd.R_mono HO724.out (fun _ hk => trivial)⟩, ⟨kq BK710.out⟩, ⟨kq BK725.out⟩, ⟨by repeat (first | (with_reducible first | exact HB.out | apply below_alloc | apply pw_below_drewN | apply below_drew1 | refine below_set ?_ GE710.out | refine below_set ?_ GE725.out) | exact HB.out)⟩⟩
              · rw [if_neg c62] at H
                have c62b0 : decide (t743 < 0) = false := decide_eq_false c62
                clear c62
                (first | rw [c62b0] | (simp only [i64_w, i32_w]; rw [c62b0]) | skip)
                replace H := Option.bind_eq_some_iff.mp H
                obtain ⟨t745, A630, H⟩ := H
                replace H : (laws_FnExactWayToLoop.j0 k l1 a2 t719 t729 (!t745) l0_0) = some r := H
                have A63 := Aside0.mk A630
                clear A630
                have H' := Aside0.mk H
                clear H
                go_wp2_with (first | (go_at_call 19; (with_reducible refine (laws_eqIntS.calls k _ _ t729 _ _ t719 t745 _ ?side1 ?side2 ?side3 ?side4 A63.out).mono ?_); (case side1 => repeat (first | exact (Kd.R_reads' HO731.out).2.2 | (with_reducible refine Kd.C_alloc ?_ _) | (with_reducible refine Kd.C_drewN ?_ _) | (with_reducible refine Kd.C_drew ?_))); (case side2 => exact (Kd.R_reads' HO731.out).2.1); (case side3 => repeat (first | exact (Kd.R_reads' HO721.out).2.2 | (with_reducible refine Kd.C_alloc ?_ _) | (with_reducible refine Kd.C_drewN ?_ _) | (with_reducible refine Kd.C_drew ?_))); (case side4 => exact (Kd.R_reads' HO721.out).2.1); rintro e w' ⟨rfl, ⟨nd, rfl⟩⟩))
                go_meet
                case rel => exact ⟨_, (!t745), (sq), H', ⟨by first | omega | exact Nat.le_refl _⟩, ⟨rq HO721.out⟩, ⟨rq HO731.out⟩, ⟨by (with_reducible repeat (first | apply Kd.R_alloc | apply Kd.R_drewN | apply Kd.R_drew)); exact Kd.R_mono HO724.out (fun _ hk => trivial)⟩, ⟨kq BK710.out⟩, ⟨kq BK725.out⟩, ⟨by repeat (first | (with_reducible first | exact HB.out | apply below_alloc | apply pw_below_drewN | apply below_drew1 | refine below_set ?_ GE710.out | refine below_set ?_ GE725.out) | exact HB.out)⟩⟩
            case rest =>
              clear HC30
              try clear c1
              try clear c2
              try clear p2
              try clear c3
              try clear c4
              try clear c5
              try clear c5b0
              try clear c6
              try clear c8
              try clear c9
              try clear c10
              try clear c10b0
              try clear c12
              try clear c13
              try clear c15
              try clear c16
              try clear c19
              try clear c20
              try clear c21
              try clear c24
              try clear c27
              try clear c30
              try clear c31
              try clear c44
              try clear c62
              try clear c62b0
              try clear hcz12_0
              try clear hcz32_0
              try clear hcz34_0
              try clear hcz40_0
              try clear hcz45_0
              try clear hcz47_0
              try clear hcz59_0
              try clear hcz7_0
              try clear hfz12_0
              try clear hfz32_0
              try clear hfz34_0
              try clear hfz40_0
              try clear hfz45_0
              try clear hfz47_0
              try clear hfz59_0
              try clear hfz7_0
              obtain ⟨kq, x67_29, rfl, HA, HJ29, HO_8, HO_11, HO_726000, BK710, BK725, HB⟩ := hcut
              have hl726000_29 := (Kd.R_reads' HO_726000.out).1
              rw [hl726000_29] at HO_726000
              (try simp only [hl726000_29])
              (try simp only [hl726000_29] at BK710)
              (try simp only [hl726000_29] at BK725)
              (try simp only [hl726000_29] at HO_8)
              (try simp only [hl726000_29] at HO_11)
              cases kq with
              | zero => exact absurd HA.out (by simp [laws_FnExactWayToLoop.j0])
              | succ kj29 =>
                have H := HA.out
                clear HA
                simp only [laws_FnExactWayToLoop.j0] at H
                by_cases c64 : x67_29 = true
                · subst c64
                  have H1 : (some false) = some r := by rw [if_pos rfl] at H; exact H
                  clear H
                  have H := H1
                  clear H1
                  exact absurd ((Option.some.inj H).trans hT) Bool.false_ne_true
                · replace c64 := Bool.eq_false_iff.mpr c64
                  subst c64
                  have H1 : ((laws_markIntS.f kj29 t729 1).bind fun bt746 => ((laws_heldIntS.f kj29 bt746.2 1).bind fun t748 => (if t748 < 0 then (some false) else (if t748 = bt746.1 then ((laws_toTree.f kj29 l0_0).bind fun t749 => ((laws_toLineS.f kj29 l1).bind fun t752 => ((impl_WayToLoop.f kj29 t749 t752 a2).bind fun t755 => ((laws_eqIntS.f kj29 t755 t719).bind fun t758 => (if t758 = true then ((laws_heldIntS.f kj29 bt746.2 1).bind fun t759 => (if t759 < 0 then (some false) else (if t759 = bt746.1 then (some true) else (some false)))) else (some false)))))) else (some false))))) = some r := by rw [if_neg (show ¬ (false = true) by decide)] at H; exact H
                  clear H
                  have H := H1
                  clear H1
                  replace H := Option.bind_eq_some_iff.mp H
                  obtain ⟨⟨t746, t747⟩, A650, H⟩ := H
                  replace H : ((laws_heldIntS.f kj29 t747 1).bind fun t748 => (if t748 < 0 then (some false) else (if t748 = t746 then ((laws_toTree.f kj29 l0_0).bind fun t749 => ((laws_toLineS.f kj29 l1).bind fun t752 => ((impl_WayToLoop.f kj29 t749 t752 a2).bind fun t755 => ((laws_eqIntS.f kj29 t755 t719).bind fun t758 => (if t758 = true then ((laws_heldIntS.f kj29 t747 1).bind fun t759 => (if t759 < 0 then (some false) else (if t759 = t746 then (some true) else (some false)))) else (some false)))))) else (some false)))) = some r := H
                  have A65 := Aside0.mk A650
                  clear A650
                  replace H := Option.bind_eq_some_iff.mp H
                  obtain ⟨t748, A660, H⟩ := H
                  replace H : (if t748 < 0 then (some false) else (if t748 = t746 then ((laws_toTree.f kj29 l0_0).bind fun t749 => ((laws_toLineS.f kj29 l1).bind fun t752 => ((impl_WayToLoop.f kj29 t749 t752 a2).bind fun t755 => ((laws_eqIntS.f kj29 t755 t719).bind fun t758 => (if t758 = true then ((laws_heldIntS.f kj29 t747 1).bind fun t759 => (if t759 < 0 then (some false) else (if t759 = t746 then (some true) else (some false)))) else (some false)))))) else (some false))) = some r := H
                  have A66 := Aside0.mk A660
                  clear A660
                  by_cases c67 : t748 < 0
                  · rw [if_pos c67] at H
                    have c67b0 : decide (t748 < 0) = true := decide_eq_true c67
                    clear c67
                    exact absurd ((Option.some.inj H).trans hT) Bool.false_ne_true
                  · rw [if_neg c67] at H
                    have c67b0 : decide (t748 < 0) = false := decide_eq_false c67
                    clear c67
                    by_cases c68 : t748 = t746
                    · rw [if_pos c68] at H
                      have c68b0 : (t748 == t746) = true := beq_iff_eq.mpr c68
                      have c68b1 : (t748 != t746) = false := bne_eq_false_iff_eq.mpr c68
                      clear c68
                      replace H := Option.bind_eq_some_iff.mp H
                      obtain ⟨t749, A690, H⟩ := H
                      replace H : ((laws_toLineS.f kj29 l1).bind fun t752 => ((impl_WayToLoop.f kj29 t749 t752 a2).bind fun t755 => ((laws_eqIntS.f kj29 t755 t719).bind fun t758 => (if t758 = true then ((laws_heldIntS.f kj29 t747 1).bind fun t759 => (if t759 < 0 then (some false) else (if t759 = t746 then (some true) else (some false)))) else (some false))))) = some r := H
                      have A69 := Aside0.mk A690
                      clear A690
                      replace H := Option.bind_eq_some_iff.mp H
                      obtain ⟨t752, A700, H⟩ := H
                      replace H : ((impl_WayToLoop.f kj29 t749 t752 a2).bind fun t755 => ((laws_eqIntS.f kj29 t755 t719).bind fun t758 => (if t758 = true then ((laws_heldIntS.f kj29 t747 1).bind fun t759 => (if t759 < 0 then (some false) else (if t759 = t746 then (some true) else (some false)))) else (some false)))) = some r := H
                      have A70 := Aside0.mk A700
                      clear A700
                      replace H := Option.bind_eq_some_iff.mp H
                      obtain ⟨t755, A710, H⟩ := H
                      replace H : ((laws_eqIntS.f kj29 t755 t719).bind fun t758 => (if t758 = true then ((laws_heldIntS.f kj29 t747 1).bind fun t759 => (if t759 < 0 then (some false) else (if t759 = t746 then (some true) else (some false)))) else (some false))) = some r := H
                      have A71 := Aside0.mk A710
                      clear A710
                      replace H := Option.bind_eq_some_iff.mp H
                      obtain ⟨t758, A720, H⟩ := H
                      replace H : (if t758 = true then ((laws_heldIntS.f kj29 t747 1).bind fun t759 => (if t759 < 0 then (some false) else (if t759 = t746 then (some true) else (some false)))) else (some false)) = some r := H
                      have A72 := Aside0.mk A720
                      clear A720
                      by_cases c73 : t758 = true
                      · subst c73
                        have H1 : ((laws_heldIntS.f kj29 t747 1).bind fun t759 => (if t759 < 0 then (some false) else (if t759 = t746 then (some true) else (some false)))) = some r := by rw [if_pos rfl] at H; exact H
                        clear H
                        have H := H1
                        clear H1
                        replace H := Option.bind_eq_some_iff.mp H
                        obtain ⟨t759, A740, H⟩ := H
                        replace H : (if t759 < 0 then (some false) else (if t759 = t746 then (some true) else (some false))) = some r := H
                        have A74 := Aside0.mk A740
                        clear A740
                        by_cases c75 : t759 < 0
                        · rw [if_pos c75] at H
                          have c75b0 : decide (t759 < 0) = true := decide_eq_true c75
                          clear c75
                          exact absurd ((Option.some.inj H).trans hT) Bool.false_ne_true
                        · rw [if_neg c75] at H
                          have c75b0 : decide (t759 < 0) = false := decide_eq_false c75
                          clear c75
                          by_cases c76 : t759 = t746
                          · rw [if_pos c76] at H
                            have c76b0 : (t759 == t746) = true := beq_iff_eq.mpr c76
                            have c76b1 : (t759 != t746) = false := bne_eq_false_iff_eq.mpr c76
                            clear c76
                            obtain rfl := Option.some.inj H
                            go_wp2_with (first | ((with_reducible refine gate_callee (f := 22) rfl ?_); refine goesL_ (some 70) rfl rfl Try.func22 (by kernel_rfl) rfl #[.slice Ao50 t729.length co50, .int .i64 1] rfl (aq) ?_; (with_reducible refine (laws_markIntS.calls kj29 (fun k_ => some k_ = (.slice Ao50 t729.length co50 : Value).ownBlock) (.slice Ao50 t729.length co50) t729 1 t746 t747 w _ ?side1 ?side2 A65.out).mono ?_); (case side1 => repeat (first | (with_reducible first | exact HB.out | apply below_alloc | apply pw_below_drewN | apply below_drew1 | refine below_set ?_ GE710.out | refine below_set ?_ GE725.out) | exact HB.out)); (case side2 => exact Kd.R_tight rfl HO_11.out); rintro e w77 ⟨rfl, hy0, hb, hkp⟩; refine ⟨_, rfl, ?_⟩; have n0_ := Aside0.mk (Kd.R_mono (ok' := fun k_ => some k_ ≠ (.slice Ao50 t729.length co50 : Value).ownBlock) (Kd.R_keptB (HO_8.out) hkp (fun k_ hk_ hs_ => (hk_) hs_)) (fun k_ hk_ => hk_.1)); have n1_ := Aside0.mk (Kd.R_reok rfl hy0 (fun k_ e_ => HO_11.out.1 k_ e_)); have n2_ := Aside0.mk (Kd.R_mono (ok' := fun k_ => True) (Kd.R_keptB ((Kd.R_apart' HO_726000.out (Kd.R_typed HO_11.out) (by decide))) hkp (fun k_ hk_ hs_ => (hk_.2) hs_)) (fun k_ hk_ => trivial)); have n3_ := Aside0.mk (blk_kept (kq BK710.out) hkp (fun hs_ => (fun e_ => (Kd.R_ne HO_11.out BK710.out (by decide)) e_) hs_)); have n4_ := Aside0.mk (blk_kept (kq BK725.out) hkp (fun hs_ => (fun e_ => (Kd.R_ne HO_11.out BK725.out (by decide)) e_) hs_)); have n5_ := Aside0.mk (hb); clear HO_8; clear HO_11; clear HO_726000; clear BK710; clear BK725; clear HB; have HO_8 := n0_; have HO_11 := n1_; have HO_726000 := n2_; have BK710 := n3_; have BK725 := n4_; have HB := n5_; clear n0_ n1_ n2_ n3_ n4_ n5_; (try clear hb); (try clear hkp); (try clear hy0)) | ((with_reducible refine gate_callee (f := 23) rfl ?_); refine goesL_ (some 73) rfl rfl Try.func23 (by kernel_rfl) rfl #[.slice Ao50 t747.length co50, .int .i64 1] rfl (by (try simp only [List.map_toArray, List.map_cons, List.map_nil]); first | done | (rw [show t747.length = t729.length from (Kd.R_reads' HO_11.out).1.symm] <;> rfl) | rfl | (simp only [List.length_drop, List.length_take]; rfl)) ?_; (with_reducible refine (laws_heldIntS.calls kj29 _ _ t747 1 t748 _ ?side1 ?side2 A66.out).mono ?_); (case side1 => repeat (first | exact (Kd.R_reads' HO_11.out).2.2 | (with_reducible refine Kd.C_alloc ?_ _) | (with_reducible refine Kd.C_drewN ?_ _) | (with_reducible refine Kd.C_drew ?_))); (case side2 => rw [show t747.length = t729.length from (Kd.R_reads' HO_11.out).1.symm]; exact (Kd.R_reads' HO_11.out).2.1); rintro e w' ⟨rfl, ⟨nd, rfl⟩⟩; refine ⟨_, rfl, ?_⟩; have hnb78 := NB710_725.out; have hnc78 := NB725_710.out; have hcz79_0 : w77.cell? ⟨gb710, 0, none⟩ = some (.slice A0_0 l0_0.length c0_0) := (blk_cell BK710.out 0).trans rfl; have hfz79_0 := blk_frozen BK710.out 0) | ((with_reducible refine gate_callee (f := 12) rfl ?_); refine goesL_ (some 80) rfl rfl Try.func12 (by kernel_rfl) rfl #[.agg #[.slice A0_0 l0_0.length c0_0]] rfl (aq) ?_; (with_reducible refine (laws_toTree.calls kj29 _ _ l0_0 t749 _ ?side1 ?side2 A69.out).mono ?_); (case side1 => repeat (first | exact (Kd.C_below HR0_0.out (by repeat (first | (with_reducible first | exact HB.out | apply below_alloc | apply pw_below_drewN | apply below_drew1 | refine below_set ?_ GE710.out | refine below_set ?_ GE725.out) | exact HB.out))) | (with_reducible refine Kd.C_alloc ?_ _) | (with_reducible refine Kd.C_drewN ?_ _) | (with_reducible refine Kd.C_drew ?_))); (case side2 => exact HC0_0.out); rintro e w80 ⟨v750, rfl, ho0, hb⟩; refine ⟨_, rfl, ?_⟩; have n0_ := Aside0.mk (Kd.R_below (rq HO_8.out) hb); have n1_ := Aside0.mk (Kd.R_below (rq HO_11.out) hb); have n2_ := Aside0.mk (Kd.R_elder' (rq HO_726000.out) (Kd.R_base ho0) hb); have n3_ := Aside0.mk (Kd.R_lower (Kd.R_new' ho0 (Kd.R_lt (rq HO_726000.out))) (below_size (by repeat (first | (with_reducible first | exact HB.out | apply below_alloc | apply pw_below_drewN | apply below_drew1 | refine below_set ?_ GE710.out | refine below_set ?_ GE725.out) | exact HB.out)))); have n4_ := Aside0.mk (blk_below (g := gb710) (o := .cells #[.slice A0_0 l0_0.length c0_0] 24 (0, 0)) (kq BK710.out) hb); have n5_ := Aside0.mk (blk_below (g := gb725) (o := .cells #[.slice Ao43 t742.length co43] 31 (0, 0)) (kq BK725.out) hb); have n6_ := Aside0.mk (below_step (by repeat (first | (with_reducible first | exact HB.out | apply below_alloc | apply pw_below_drewN | apply below_drew1 | refine below_set ?_ GE710.out | refine below_set ?_ GE725.out) | exact HB.out)) hb); clear HO_8; clear HO_11; clear HO_726000; clear BK710; clear BK725; clear HB; have HO_8 := n0_; have HO_11 := n1_; have HO_726000 := n2_; have HO751 := n3_; have BK710 := n4_; have BK725 := n5_; have HB := n6_; clear n0_ n1_ n2_ n3_ n4_ n5_ n6_; (try clear hb); (try clear hb2); (try clear hk); (try clear hi); (try clear ho0)) | ((with_reducible refine gate_callee (f := 13) rfl ?_); refine goesL_ (some 82) rfl rfl Try.func13 (by kernel_rfl) rfl #[.slice A1 l1.length c1] rfl (aq) ?_; (with_reducible refine (laws_toLineS.calls kj29 _ _ l1 t752 _ ?side1 ?side2 A70.out).mono ?_); (case side1 => exact cq (Kd.C_below HR1.out HB.out)); (case side2 => exact HC1.out); rintro e w81 ⟨v753, rfl, ho0, hb⟩; refine ⟨_, rfl, ?_⟩; have n0_ := Aside0.mk (Kd.R_below (rq HO_8.out) hb); have n1_ := Aside0.mk (Kd.R_below (rq HO_11.out) hb); have n2_ := Aside0.mk (Kd.R_below (rq HO_726000.out) hb); have n3_ := Aside0.mk (Kd.R_below (rq HO751.out) hb); have n4_ := Aside0.mk (Kd.R_lower ho0 (below_size (by repeat (first | (with_reducible first | exact HB.out | apply below_alloc | apply pw_below_drewN | apply below_drew1 | refine below_set ?_ GE710.out | refine below_set ?_ GE725.out) | exact HB.out)))); have n5_ := Aside0.mk (blk_below (g := gb710) (o := .cells #[.slice A0_0 l0_0.length c0_0] 24 (0, 0)) (kq BK710.out) hb); have n6_ := Aside0.mk (blk_below (g := gb725) (o := .cells #[.slice Ao43 t742.length co43] 31 (0, 0)) (kq BK725.out) hb); have n7_ := Aside0.mk (below_step (by repeat (first | (with_reducible first | exact HB.out | apply below_alloc | apply pw_below_drewN | apply below_drew1 | refine below_set ?_ GE710.out | refine below_set ?_ GE725.out) | exact HB.out)) hb); clear HO_8; clear HO_11; clear HO_726000; clear HO751; clear BK710; clear BK725; clear HB; have HO_8 := n0_; have HO_11 := n1_; have HO_726000 := n2_; have HO751 := n3_; have HO754 := n4_; have BK710 := n5_; have BK725 := n6_; have HB := n7_; clear n0_ n1_ n2_ n3_ n4_ n5_ n6_ n7_; (try clear hb); (try clear hb2); (try clear hk); (try clear hi); (try clear ho0); obtain ⟨Ao82, co82, eo82⟩ := Kd.R_slice HO751.out; subst eo82; obtain ⟨Ao83, co83, eo83⟩ := Kd.R_slice HO754.out; subst eo83) | ((with_reducible refine gate_callee (f := 31) rfl ?_); refine goesL_ (some 84) rfl rfl Try.func31 (by kernel_rfl) rfl #[.agg #[.slice Ao82 t749.length co82], .slice Ao83 t752.length co83, .int .i64 a2] rfl (aq) ?_; (with_reducible refine (impl_WayToLoop.calls kj29 _ _ t749 _ _ t752 a2 t755 _ ?side1 ?side2 ?side3 ?side4 A71.out).mono ?_); (case side1 => repeat (first | exact (Kd.R_reads' HO751.out).2.2 | (with_reducible refine Kd.C_alloc ?_ _) | (with_reducible refine Kd.C_drewN ?_ _) | (with_reducible refine Kd.C_drew ?_))); (case side2 => exact (Kd.R_reads' HO751.out).2.1); (case side3 => repeat (first | exact (Kd.R_reads' HO754.out).2.2 | (with_reducible refine Kd.C_alloc ?_ _) | (with_reducible refine Kd.C_drewN ?_ _) | (with_reducible refine Kd.C_drew ?_))); (case side4 => exact (Kd.R_reads' HO754.out).2.1); rintro e w84 ⟨v756, rfl, ho0, hb⟩; refine ⟨_, rfl, ?_⟩; have n0_ := Aside0.mk (Kd.R_elder' (rq HO_8.out) (Kd.R_base ho0) hb); have n1_ := Aside0.mk (Kd.R_elder' (rq HO_11.out) (Kd.R_base ho0) hb); have n2_ := Aside0.mk (Kd.R_below (rq HO_726000.out) hb); have n3_ := Aside0.mk (Kd.R_below (rq HO751.out) hb); have n4_ := Aside0.mk (Kd.R_below (rq HO754.out) hb); have n5_ := Aside0.mk (Kd.R_lower (Kd.R_new' (Kd.R_new' ho0 (Kd.R_lt (rq HO_8.out))) (Kd.R_lt (rq HO_11.out))) (below_size (by repeat (first | (with_reducible first | exact HB.out | apply below_alloc | apply pw_below_drewN | apply below_drew1 | refine below_set ?_ GE710.out | refine below_set ?_ GE725.out) | exact HB.out)))); have n6_ := Aside0.mk (blk_below (g := gb710) (o := .cells #[.slice A0_0 l0_0.length c0_0] 24 (0, 0)) (kq BK710.out) hb); have n7_ := Aside0.mk (blk_below (g := gb725) (o := .cells #[.slice Ao43 t742.length co43] 31 (0, 0)) (kq BK725.out) hb); have n8_ := Aside0.mk (below_step (by repeat (first | (with_reducible first | exact HB.out | apply below_alloc | apply pw_below_drewN | apply below_drew1 | refine below_set ?_ GE710.out | refine below_set ?_ GE725.out) | exact HB.out)) hb); clear HO_8; clear HO_11; clear HO_726000; clear HO751; clear HO754; clear BK710; clear BK725; clear HB; have HO_8 := n0_; have HO_11 := n1_; have HO_726000 := n2_; have HO751 := n3_; have HO754 := n4_; have HO757 := n5_; have BK710 := n6_; have BK725 := n7_; have HB := n8_; clear n0_ n1_ n2_ n3_ n4_ n5_ n6_ n7_ n8_; (try clear hb); (try clear hb2); (try clear hk); (try clear hi); (try clear ho0); obtain ⟨Ao85, co85, eo85⟩ := Kd.R_slice HO757.out; subst eo85) | ((with_reducible refine gate_callee (f := 19) rfl ?_); refine goesL_ (some 87) rfl rfl Try.func19 (by kernel_rfl) rfl #[.slice Ao85 t755.length co85, .slice Ao51 t719.length co51] rfl (aq) ?_; (with_reducible refine (laws_eqIntS.calls kj29 _ _ t755 _ _ t719 true _ ?side1 ?side2 ?side3 ?side4 A72.out).mono ?_); (case side1 => repeat (first | exact (Kd.R_reads' HO757.out).2.2 | (with_reducible refine Kd.C_alloc ?_ _) | (with_reducible refine Kd.C_drewN ?_ _) | (with_reducible refine Kd.C_drew ?_))); (case side2 => exact (Kd.R_reads' HO757.out).2.1); (case side3 => repeat (first | exact (Kd.R_reads' HO_8.out).2.2 | (with_reducible refine Kd.C_alloc ?_ _) | (with_reducible refine Kd.C_drewN ?_ _) | (with_reducible refine Kd.C_drew ?_))); (case side4 => exact (Kd.R_reads' HO_8.out).2.1); rintro e w' ⟨rfl, ⟨nd, rfl⟩⟩; refine ⟨_, rfl, ?_⟩) | ((with_reducible refine gate_callee (f := 23) rfl ?_); refine goesL_ (some 91) rfl rfl Try.func23 (by kernel_rfl) rfl #[.slice Ao50 t747.length co50, .int .i64 1] rfl (by (try simp only [List.map_toArray, List.map_cons, List.map_nil]); first | done | (rw [show t747.length = t729.length from (Kd.R_reads' HO_11.out).1.symm] <;> rfl) | rfl | (simp only [List.length_drop, List.length_take]; rfl)) ?_; (with_reducible refine (laws_heldIntS.calls kj29 _ _ t747 1 t759 _ ?side1 ?side2 A74.out).mono ?_); (case side1 => repeat (first | exact (Kd.R_reads' HO_11.out).2.2 | (with_reducible refine Kd.C_alloc ?_ _) | (with_reducible refine Kd.C_drewN ?_ _) | (with_reducible refine Kd.C_drew ?_))); (case side2 => rw [show t747.length = t729.length from (Kd.R_reads' HO_11.out).1.symm]; exact (Kd.R_reads' HO_11.out).2.1); rintro e w' ⟨rfl, ⟨nd, rfl⟩⟩; refine ⟨_, rfl, ?_⟩))
                            go_ret
                            exact ⟨by first | rfl | (simp [errW_none, errW_some] <;> rfl) | (simp [*, errW_none, errW_some] <;> rfl), by repeat (first | (with_reducible first | exact HB.out | apply below_alloc | apply pw_below_drewN | apply below_drew1 | refine below_set ?_ GE710.out | refine below_set ?_ GE725.out) | exact HB.out)⟩
                          · rw [if_neg c76] at H
                            have c76b0 : (t759 == t746) = false := beq_eq_false_iff_ne.mpr c76
                            have c76b1 : (t759 != t746) = true := bne_iff_ne.mpr c76
                            exact absurd ((Option.some.inj H).trans hT) Bool.false_ne_true
                      · replace c73 := Bool.eq_false_iff.mpr c73
                        subst c73
                        have H1 : (some false) = some r := by rw [if_neg (show ¬ (false = true) by decide)] at H; exact H
                        clear H
                        have H := H1
                        clear H1
                        exact absurd ((Option.some.inj H).trans hT) Bool.false_ne_true
                    · rw [if_neg c68] at H
                      have c68b0 : (t748 == t746) = false := beq_eq_false_iff_ne.mpr c68
                      have c68b1 : (t748 != t746) = true := bne_iff_ne.mpr c68
                      exact absurd ((Option.some.inj H).trans hT) Bool.false_ne_true
          · replace c27 := Bool.eq_false_iff.mpr c27
            subst c27
            have H1 : (some false) = some r := by rw [if_neg (show ¬ (false = true) by decide)] at H; exact H
            clear H
            have H := H1
            clear H1
            exact absurd ((Option.some.inj H).trans hT) Bool.false_ne_true
        · replace c24 := Bool.eq_false_iff.mpr c24
          subst c24
          have H1 : (some false) = some r := by rw [if_neg (show ¬ (false = true) by decide)] at H; exact H
          clear H
          have H := H1
          clear H1
          exact absurd ((Option.some.inj H).trans hT) Bool.false_ne_true
      · replace c21 := Bool.eq_false_iff.mpr c21
        subst c21
        have H1 : (some false) = some r := by rw [if_neg (show ¬ (false = true) by decide)] at H; exact H
        clear H
        have H := H1
        clear H1
        exact absurd ((Option.some.inj H).trans hT) Bool.false_ne_true
end Go.Proofs.Ytbclgpgolbmlpaa.P
end
