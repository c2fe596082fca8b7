/- One part of the proofs on this program: functions of the program as plain functions, that the code comes to them, and facts on them. -/
import Derived.Test.YtbclgpgolbmlpaaYAll1
import Derived.Test.YtbclgpgolbmlpaaYAll2
import Derived.Test.YtbclgpgolbmlpaaYAll3
import Derived.Test.YtbclgpgolbmlpaaYAll5
import Derived.Test.YtbclgpgolbmlpaaYBEF1
import Derived.Test.YtbclgpgolbmlpaaYWAuto
section
namespace Go.Proofs.Ytbclgpgolbmlpaa.P
open Go.RowKit Go.Proofs.YtbclgpgolbmlpaaW.PrintWords Go.Proofs.YtbclgpgolbmlpaaW.PrintLast Go.Proofs.YtbclgpgolbmlpaaW.PrintMore
attribute [local go_sem] max2_int min2_int max_two min_two max_three min_three max_four min_four isSome_cell_setCell   -- for this text's walks alone
set_option linter.unusedVariables false
set_option linter.unusedSimpArgs false
def spec_lastOf.j0 : Nat → List (S50) → Int → Bool → Option (Int)
  | 0, _, _, _ => none
  | k + 1, x0, x1, x27 => if x27 = true then (some (-1)) else ((spec_tryOf.f k x0 x1).bind fun t587 => ((spec_chainOf.f k x0 t587).bind fun t588 => (if 0 ≤ (wrap64 ((t588.length : Int) - 1)) then (if (wrap64 ((t588.length : Int) - 1)) < (t588.length : Int) then (if 0 ≤ (rd t588 (wrap64 ((t588.length : Int) - 1))) then (if (rd t588 (wrap64 ((t588.length : Int) - 1))) < (x0.length : Int) then (if ((rd_T50 x0 (rd t588 (wrap64 ((t588.length : Int) - 1)))).f1) = 10 then (some (rd t588 (wrap64 ((t588.length : Int) - 1)))) else (some (-1))) else (none)) else (none)) else (none)) else (none))))
def spec_lastOf.f (k : Nat) (l0 : List (S50)) (a1 : Int) : Option (Int) := if 0 ≤ a1 then (if a1 < (l0.length : Int) then (if ((rd_T50 l0 a1).f1) = 11 then (some a1) else (if ((rd_T50 l0 a1).f1) = 12 then (spec_lastOf.j0 k l0 a1 true) else (spec_lastOf.j0 k l0 a1 (((rd_T50 l0 a1).f1) == 10)))) else (none)) else (none)
theorem spec_lastOf.mono_l : ∀ k, (∀ y0 y1 y2, LeO (spec_lastOf.j0 k y0 y1 y2) (spec_lastOf.j0 (k + 1) y0 y1 y2))
  | 0 => fun _ _ _ r h => by simp [spec_lastOf.j0] at h
  | k + 1 => by
    have ih0 := spec_lastOf.mono_l k
    · intro y0 y1 y2
      unfold spec_lastOf.j0
      repeat' first
      | (with_reducible exact ih0 _ _ _)
      | (with_reducible exact spec_chainOf.mono _ _ _)
      | (with_reducible exact spec_tryOf.mono _ _ _)
      | (with_reducible exact LeO.refl _)
      | (with_reducible exact LeO.none _)
      | (with_reducible refine LeO.ite ?_ ?_)
      | (with_reducible refine LeO.bind ?_ (fun _ => ?_))
      | exact ih0 _ _ _
      | exact spec_chainOf.mono _ _ _
      | exact spec_tryOf.mono _ _ _
      | exact LeO.none _
      | refine LeO.ite ?_ ?_
      | refine LeO.bind ?_ (fun _ => ?_)
theorem spec_lastOf.mono : ∀ a0 a1 k, LeO (spec_lastOf.f k a0 a1) (spec_lastOf.f (k + 1) a0 a1) := by
  intro a0 a1 k
  have ih0 := spec_lastOf.mono_l k
  unfold spec_lastOf.f
  repeat' first
      | (with_reducible exact ih0 _ _ _)
      | (with_reducible exact spec_chainOf.mono _ _ _)
      | (with_reducible exact spec_tryOf.mono _ _ _)
      | (with_reducible exact LeO.refl _)
      | (with_reducible exact LeO.none _)
      | (with_reducible refine LeO.ite ?_ ?_)
      | (with_reducible refine LeO.bind ?_ (fun _ => ?_))
      | exact ih0 _ _ _
      | exact spec_chainOf.mono _ _ _
      | exact spec_tryOf.mono _ _ _
      | exact LeO.none _
      | refine LeO.ite ?_ ?_
      | refine LeO.bind ?_ (fun _ => ?_)
set_option maxHeartbeats 8000000 in
set_option maxRecDepth 100000 in
theorem spec_lastOf.calls (k : Nat) (A0 : Option Addr) (c0 : Nat) (l0 : List (S50)) (a1 : Int) (r : Int) (w : World) (hr0 : Kd.C k50 w A0 l0.length l0) (hc0 : l0.length ≤ c0) (h : spec_lastOf.f k l0 a1 = some r) :
    Calls Try.prog 71 #[.slice A0 l0.length c0, .int .i64 a1] w fun e w' => e = .returned (.int .i64 r) ∧ Below w.heap.size w w' := by
  have HR0 := Aside0.mk hr0
  have HC0 := Aside0.mk hc0
  clear hr0 hc0
  have HB := Aside0.mk (Below.refl w.heap.size w)
  have H : (if 0 ≤ a1 then (if a1 < (l0.length : Int) then (if ((rd_T50 l0 a1).f1) = 11 then (some a1) else (if ((rd_T50 l0 a1).f1) = 12 then (spec_lastOf.j0 k l0 a1 true) else (spec_lastOf.j0 k l0 a1 (((rd_T50 l0 a1).f1) == 10)))) else (none)) else (none)) = some r := h
  clear h
  by_cases c3 : 0 ≤ a1
  · rw [if_pos c3] at H
    have c3b0 : decide (0 ≤ a1) = true := decide_eq_true c3
    clear c3
    by_cases c4 : a1 < (l0.length : Int)
    · rw [if_pos c4] at H
      have c4b0 : decide (a1 < (l0.length : Int)) = true := decide_eq_true c4
      clear c4
      by_cases c5 : ((rd_T50 l0 a1).f1) = 11
      · rw [if_pos c5] at H
        have c5b0 : (((rd_T50 l0 a1).f1) == 11) = true := beq_iff_eq.mpr c5
        have c5b1 : (((rd_T50 l0 a1).f1) != 11) = false := bne_eq_false_iff_eq.mpr c5
        clear c5
        obtain rfl := Option.some.inj H
        have p584 : 0 ≤ (a1 : Int) := of_decide_eq_true (uq)
        have q584 : a1 < (l0.length : Int) := of_decide_eq_true (uq)
        obtain ⟨ad584, e584, hx584_0, hx584_1, hx584_2, hx584_3⟩ := at_T50 HR0.out a1 p584 q584
        cases e584
        replace p584 := eq_true p584
        replace q584 := eq_true q584
        go_enter Try.func71, Try.ntmps71
        go_wp2
        go_ret
        exact ⟨by first | rfl | (simp [errW_none, errW_some] <;> rfl) | (simp [*, errW_none, errW_some] <;> rfl), bq⟩
      · rw [if_neg c5] at H
        have c5b0 : (((rd_T50 l0 a1).f1) == 11) = false := beq_eq_false_iff_ne.mpr c5
        have c5b1 : (((rd_T50 l0 a1).f1) != 11) = true := bne_iff_ne.mpr c5
        have HC6 := Aside0.mk H
        clear H
        have p584 : 0 ≤ (a1 : Int) := of_decide_eq_true (uq)
        have q584 : a1 < (l0.length : Int) := of_decide_eq_true (uq)
        obtain ⟨ad584, e584, hx584_0, hx584_1, hx584_2, hx584_3⟩ := at_T50 HR0.out a1 p584 q584
        cases e584
        replace p584 := eq_true p584
        replace q584 := eq_true q584
        go_enter Try.func71, Try.ntmps71
        go_upto_region 3 with (fail)
        go_cut [27] (fun v27 wc => ∃ (kq : Nat) (x27_5 : Bool), v27 = .bool x27_5 ∧ Aside0 (spec_lastOf.j0 kq l0 a1 x27_5 = some r) ∧ Aside0 (kq ≤ k) ∧ Aside0 (Below w.heap.size w wc))
        case first =>
          have H := HC6.out
          clear HC6
          by_cases c7 : ((rd_T50 l0 a1).f1) = 12
          · rw [if_pos c7] at H
            have c7b0 : (((rd_T50 l0 a1).f1) == 12) = true := beq_iff_eq.mpr c7
            have c7b1 : (((rd_T50 l0 a1).f1) != 12) = false := bne_eq_false_iff_eq.mpr c7
            clear c7
            (first | rw [c7b0] | (simp only [i64_w, i32_w]; rw [c7b0]) | skip)
            have H' := Aside0.mk H
            clear H
            have p585 : 0 ≤ (a1 : Int) := of_decide_eq_true (uq)
            have q585 : a1 < (l0.length : Int) := of_decide_eq_true (uq)
            obtain ⟨ad585, e585, hx585_0, hx585_1, hx585_2, hx585_3⟩ := at_T50 HR0.out a1 p585 q585
            obtain rfl : ad584 = ad585 := (by injection e585)
            replace hx585_0 := (HB.out.cell (World.block_lt_of_cell? w _ hx585_0)).trans hx585_0
            replace hx585_1 := (HB.out.cell (World.block_lt_of_cell? w _ hx585_1)).trans hx585_1
            replace hx585_2 := (HB.out.cell (World.block_lt_of_cell? w _ hx585_2)).trans hx585_2
            replace hx585_3 := (HB.out.cell (World.block_lt_of_cell? w _ hx585_3)).trans hx585_3
            replace p585 := eq_true p585
            replace q585 := eq_true q585
            go_wp2
            go_meet
            case rel => exact ⟨_, (true), (sq), H', ⟨by first | omega | exact Nat.le_refl _⟩, ⟨bq⟩⟩
          · rw [if_neg c7] at H
            have c7b0 : (((rd_T50 l0 a1).f1) == 12) = false := beq_eq_false_iff_ne.mpr c7
            have c7b1 : (((rd_T50 l0 a1).f1) != 12) = true := bne_iff_ne.mpr c7
            (first | rw [c7b0] | (simp only [i64_w, i32_w]; rw [c7b0]) | skip)
            have H' := Aside0.mk H
            clear H
            have p585 : 0 ≤ (a1 : Int) := of_decide_eq_true (uq)
            have q585 : a1 < (l0.length : Int) := of_decide_eq_true (uq)
            obtain ⟨ad585, e585, hx585_0, hx585_1, hx585_2, hx585_3⟩ := at_T50 HR0.out a1 p585 q585
            obtain rfl : ad584 = ad585 := (by injection e585)
            replace hx585_0 := (HB.out.cell (World.block_lt_of_cell? w _ hx585_0)).trans hx585_0
            replace hx585_1 := (HB.out.cell (World.block_lt_of_cell? w _ hx585_1)).trans hx585_1
            replace hx585_2 := (HB.out.cell (World.block_lt_of_cell? w _ hx585_2)).trans hx585_2
            replace hx585_3 := (HB.out.cell (World.block_lt_of_cell? w _ hx585_3)).trans hx585_3
            replace p585 := eq_true p585
            replace q585 := eq_true q585
            have p586 : 0 ≤ (a1 : Int) := of_decide_eq_true (uq)
            have q586 : a1 < (l0.length : Int) := of_decide_eq_true (uq)
            obtain ⟨ad586, e586, hx586_0, hx586_1, hx586_2, hx586_3⟩ := at_T50 HR0.out a1 p586 q586
            obtain rfl : ad584 = ad586 := (by injection e586)
            replace hx586_0 := (HB.out.cell (World.block_lt_of_cell? w _ hx586_0)).trans hx586_0
            replace hx586_1 := (HB.out.cell (World.block_lt_of_cell? w _ hx586_1)).trans hx586_1
            replace hx586_2 := (HB.out.cell (World.block_lt_of_cell? w _ hx586_2)).trans hx586_2
            replace hx586_3 := (HB.out.cell (World.block_lt_of_cell? w _ hx586_3)).trans hx586_3
            replace p586 := eq_true p586
            replace q586 := eq_true q586
            go_wp2
            go_meet
            case rel => exact ⟨_, ((((rd_T50 l0 a1).f1) == 10)), (sq), H', ⟨by first | omega | exact Nat.le_refl _⟩, ⟨bq⟩⟩
        case rest =>
          clear HC6
          try clear p2
          try clear c3
          try clear c3b0
          try clear c4
          try clear c4b0
          try clear c5
          try clear c5b0
          try clear c5b1
          try clear p5
          try clear q5
          try clear hx5
          try clear c7
          try clear c7b0
          try clear c7b1
          try clear hx584_0
          try clear hx584_1
          try clear hx584_2
          try clear hx584_3
          try clear hx585_0
          try clear hx585_1
          try clear hx585_2
          try clear hx585_3
          try clear hx586_0
          try clear hx586_1
          try clear hx586_2
          try clear hx586_3
          try clear p584
          try clear p585
          try clear p586
          try clear q584
          try clear q585
          try clear q586
          obtain ⟨kq, x27_5, rfl, HA, HJ5, HB⟩ := hcut
          cases kq with
          | zero => exact absurd HA.out (by simp [spec_lastOf.j0])
          | succ kj5 =>
            have H := HA.out
            clear HA
            simp only [spec_lastOf.j0] at H
            by_cases c8 : x27_5 = true
            · subst c8
              have H1 : (some (-1)) = some r := by rw [if_pos rfl] at H; exact H
              clear H
              have H := H1
              clear H1
              obtain rfl := Option.some.inj H
              go_wp2
              go_ret
              exact ⟨by first | rfl | (simp [errW_none, errW_some] <;> rfl) | (simp [*, errW_none, errW_some] <;> rfl), bq⟩
            · replace c8 := Bool.eq_false_iff.mpr c8
              subst c8
              have H1 : ((spec_tryOf.f kj5 l0 a1).bind fun t587 => ((spec_chainOf.f kj5 l0 t587).bind fun t588 => (if 0 ≤ (wrap64 ((t588.length : Int) - 1)) then (if (wrap64 ((t588.length : Int) - 1)) < (t588.length : Int) then (if 0 ≤ (rd t588 (wrap64 ((t588.length : Int) - 1))) then (if (rd t588 (wrap64 ((t588.length : Int) - 1))) < (l0.length : Int) then (if ((rd_T50 l0 (rd t588 (wrap64 ((t588.length : Int) - 1)))).f1) = 10 then (some (rd t588 (wrap64 ((t588.length : Int) - 1)))) else (some (-1))) else (none)) else (none)) else (none)) else (none)))) = some r := by rw [if_neg (show ¬ (false = true) by decide)] at H; exact H
              clear H
              have H := H1
              clear H1
              replace H := Option.bind_eq_some_iff.mp H
              obtain ⟨t587, A90, H⟩ := H
              replace H : ((spec_chainOf.f kj5 l0 t587).bind fun t588 => (if 0 ≤ (wrap64 ((t588.length : Int) - 1)) then (if (wrap64 ((t588.length : Int) - 1)) < (t588.length : Int) then (if 0 ≤ (rd t588 (wrap64 ((t588.length : Int) - 1))) then (if (rd t588 (wrap64 ((t588.length : Int) - 1))) < (l0.length : Int) then (if ((rd_T50 l0 (rd t588 (wrap64 ((t588.length : Int) - 1)))).f1) = 10 then (some (rd t588 (wrap64 ((t588.length : Int) - 1)))) else (some (-1))) else (none)) else (none)) else (none)) else (none))) = some r := H
              have A9 := Aside0.mk A90
              clear A90
              replace H := Option.bind_eq_some_iff.mp H
              obtain ⟨t588, A100, H⟩ := H
              replace H : (if 0 ≤ (wrap64 ((t588.length : Int) - 1)) then (if (wrap64 ((t588.length : Int) - 1)) < (t588.length : Int) then (if 0 ≤ (rd t588 (wrap64 ((t588.length : Int) - 1))) then (if (rd t588 (wrap64 ((t588.length : Int) - 1))) < (l0.length : Int) then (if ((rd_T50 l0 (rd t588 (wrap64 ((t588.length : Int) - 1)))).f1) = 10 then (some (rd t588 (wrap64 ((t588.length : Int) - 1)))) else (some (-1))) else (none)) else (none)) else (none)) else (none)) = some r := H
              have A10 := Aside0.mk A100
              clear A100
              obtain ⟨ji11, hji11⟩ : ∃ j_ : Int, (wrap64 ((t588.length : Int) - 1)) = j_ := ⟨_, rfl⟩
              replace H : (if 0 ≤ (ji11) then (if (ji11) < (t588.length : Int) then (if 0 ≤ (rd t588 (ji11)) then (if (rd t588 (ji11)) < (l0.length : Int) then (if ((rd_T50 l0 (rd t588 (ji11))).f1) = 10 then (some (rd t588 (ji11))) else (some (-1))) else (none)) else (none)) else (none)) else (none)) = some r := by first | (rw [hji11] at H; exact H) | (simp only [hji11] at H ⊢; exact H)
              (try rw [hji11] at A9)
              (try rw [hji11] at A10)
              have hji11w : (IntKind.i64.wrap ((t588.length : Int) - 1)) = ji11 := (i64_w _).trans hji11
              by_cases c12 : 0 ≤ (ji11)
              · rw [if_pos c12] at H
                have c12b0 : decide (0 ≤ (ji11)) = true := decide_eq_true c12
                clear c12
                by_cases c13 : (ji11) < (t588.length : Int)
                · rw [if_pos c13] at H
                  have c13b0 : decide ((ji11) < (t588.length : Int)) = true := decide_eq_true c13
                  clear c13
                  by_cases c14 : 0 ≤ (rd t588 (ji11))
                  · rw [if_pos c14] at H
                    have c14b0 : decide (0 ≤ (rd t588 (ji11))) = true := decide_eq_true c14
                    clear c14
                    by_cases c15 : (rd t588 (ji11)) < (l0.length : Int)
                    · rw [if_pos c15] at H
                      have c15b0 : decide ((rd t588 (ji11)) < (l0.length : Int)) = true := decide_eq_true c15
                      clear c15
                      by_cases c16 : ((rd_T50 l0 (rd t588 (ji11))).f1) = 10
                      · rw [if_pos c16] at H
                        have c16b0 : (((rd_T50 l0 (rd t588 (ji11))).f1) == 10) = true := beq_iff_eq.mpr c16
                        have c16b1 : (((rd_T50 l0 (rd t588 (ji11))).f1) != 10) = false := bne_eq_false_iff_eq.mpr c16
                        clear c16
                        obtain rfl := Option.some.inj H
                        go_wp2_with (first | ((with_reducible refine gate_callee (f := 43) rfl ?_); refine goesL_ (some 31) rfl rfl Try.func43 (by kernel_rfl) rfl #[.slice (some ad584) l0.length c0, .int .i64 a1] rfl (aq) ?_; (with_reducible refine (spec_tryOf.calls kj5 _ _ l0 a1 t587 _ ?side1 ?side2 A9.out).mono ?_); (case side1 => exact cq (Kd.C_below HR0.out HB.out)); (case side2 => exact HC0.out); rintro e w' ⟨rfl, ⟨nd, rfl⟩⟩; refine ⟨_, rfl, ?_⟩) | ((with_reducible refine gate_callee (f := 42) rfl ?_); refine goesL_ (some 32) rfl rfl Try.func42 (by kernel_rfl) rfl #[.slice (some ad584) l0.length c0, .int .i64 t587] rfl (aq) ?_; (with_reducible refine (spec_chainOf.calls kj5 _ _ l0 t587 t588 _ ?side1 ?side2 A10.out).mono ?_); (case side1 => repeat (first | exact (Kd.C_below HR0.out (bq)) | (with_reducible refine Kd.C_alloc ?_ _) | (with_reducible refine Kd.C_drewN ?_ _) | (with_reducible refine Kd.C_drew ?_))); (case side2 => exact HC0.out); rintro e w17 ⟨v589, rfl, ho0, hb⟩; refine ⟨_, rfl, ?_⟩; have n0_ := Aside0.mk (Kd.R_lower ho0 (below_size (bq))); have n1_ := Aside0.mk (below_step (bq) hb); clear HB; have HO590 := n0_; have HB := n1_; clear n0_ n1_; (try clear hb); (try clear hb2); (try clear hk); (try clear hi); (try clear ho0); obtain ⟨Ao18, co18, eo18⟩ := Kd.R_slice HO590.out; subst eo18; have p591 : 0 ≤ ((ji11) : Int) := of_decide_eq_true (uq); have q591 : (ji11) < (t588.length : Int) := of_decide_eq_true (uq); obtain ⟨ad591, e591, hx591_0⟩ := Kd.at_int (Kd.R_reads' HO590.out).2.2 (ji11) p591 q591; cases e591; replace p591 := eq_true p591; replace q591 := eq_true q591; have p592 : 0 ≤ ((rd t588 (ji11)) : Int) := of_decide_eq_true (uq); have q592 : (rd t588 (ji11)) < (l0.length : Int) := of_decide_eq_true (uq); obtain ⟨ad592, e592, hx592_0, hx592_1, hx592_2, hx592_3⟩ := at_T50 HR0.out (rd t588 (ji11)) p592 q592; obtain rfl : ad584 = ad592 := (by injection e592); replace hx592_0 := (HB.out.cell (World.block_lt_of_cell? w _ hx592_0)).trans hx592_0; replace hx592_1 := (HB.out.cell (World.block_lt_of_cell? w _ hx592_1)).trans hx592_1; replace hx592_2 := (HB.out.cell (World.block_lt_of_cell? w _ hx592_2)).trans hx592_2; replace hx592_3 := (HB.out.cell (World.block_lt_of_cell? w _ hx592_3)).trans hx592_3; replace p592 := eq_true p592; replace q592 := eq_true q592))
                        go_ret
                        exact ⟨by first | rfl | (simp [errW_none, errW_some] <;> rfl) | (simp only [← hji11]; first | rfl | (simp [errW_none, errW_some] <;> rfl)) | (simp [*, errW_none, errW_some] <;> rfl), bq⟩
                      · rw [if_neg c16] at H
                        have c16b0 : (((rd_T50 l0 (rd t588 (ji11))).f1) == 10) = false := beq_eq_false_iff_ne.mpr c16
                        have c16b1 : (((rd_T50 l0 (rd t588 (ji11))).f1) != 10) = true := bne_iff_ne.mpr c16
                        obtain rfl := Option.some.inj H
                        go_wp2_with (first | ((with_reducible refine gate_callee (f := 43) rfl ?_); refine goesL_ (some 31) rfl rfl Try.func43 (by kernel_rfl) rfl #[.slice (some ad584) l0.length c0, .int .i64 a1] rfl (aq) ?_; (with_reducible refine (spec_tryOf.calls kj5 _ _ l0 a1 t587 _ ?side1 ?side2 A9.out).mono ?_); (case side1 => exact cq (Kd.C_below HR0.out HB.out)); (case side2 => exact HC0.out); rintro e w' ⟨rfl, ⟨nd, rfl⟩⟩; refine ⟨_, rfl, ?_⟩) | ((with_reducible refine gate_callee (f := 42) rfl ?_); refine goesL_ (some 32) rfl rfl Try.func42 (by kernel_rfl) rfl #[.slice (some ad584) l0.length c0, .int .i64 t587] rfl (aq) ?_; (with_reducible refine (spec_chainOf.calls kj5 _ _ l0 t587 t588 _ ?side1 ?side2 A10.out).mono ?_); (case side1 => repeat (first | exact (Kd.C_below HR0.out (bq)) | (with_reducible refine Kd.C_alloc ?_ _) | (with_reducible refine Kd.C_drewN ?_ _) | (with_reducible refine Kd.C_drew ?_))); (case side2 => exact HC0.out); rintro e w19 ⟨v589, rfl, ho0, hb⟩; refine ⟨_, rfl, ?_⟩; have n0_ := Aside0.mk (Kd.R_lower ho0 (below_size (bq))); have n1_ := Aside0.mk (below_step (bq) hb); clear HB; have HO590 := n0_; have HB := n1_; clear n0_ n1_; (try clear hb); (try clear hb2); (try clear hk); (try clear hi); (try clear ho0); obtain ⟨Ao20, co20, eo20⟩ := Kd.R_slice HO590.out; subst eo20; have p591 : 0 ≤ ((ji11) : Int) := of_decide_eq_true (uq); have q591 : (ji11) < (t588.length : Int) := of_decide_eq_true (uq); obtain ⟨ad591, e591, hx591_0⟩ := Kd.at_int (Kd.R_reads' HO590.out).2.2 (ji11) p591 q591; cases e591; replace p591 := eq_true p591; replace q591 := eq_true q591; have p592 : 0 ≤ ((rd t588 (ji11)) : Int) := of_decide_eq_true (uq); have q592 : (rd t588 (ji11)) < (l0.length : Int) := of_decide_eq_true (uq); obtain ⟨ad592, e592, hx592_0, hx592_1, hx592_2, hx592_3⟩ := at_T50 HR0.out (rd t588 (ji11)) p592 q592; obtain rfl : ad584 = ad592 := (by injection e592); replace hx592_0 := (HB.out.cell (World.block_lt_of_cell? w _ hx592_0)).trans hx592_0; replace hx592_1 := (HB.out.cell (World.block_lt_of_cell? w _ hx592_1)).trans hx592_1; replace hx592_2 := (HB.out.cell (World.block_lt_of_cell? w _ hx592_2)).trans hx592_2; replace hx592_3 := (HB.out.cell (World.block_lt_of_cell? w _ hx592_3)).trans hx592_3; replace p592 := eq_true p592; replace q592 := eq_true q592))
                        go_ret
                        exact ⟨by first | rfl | (simp [errW_none, errW_some] <;> rfl) | (simp only [← hji11]; first | rfl | (simp [errW_none, errW_some] <;> rfl)) | (simp [*, errW_none, errW_some] <;> rfl), bq⟩
                    · rw [if_neg c15] at H
                      exact absurd H (by simp)
                  · rw [if_neg c14] at H
                    exact absurd H (by simp)
                · rw [if_neg c13] at H
                  exact absurd H (by simp)
              · rw [if_neg c12] at H
                exact absurd H (by simp)
    · rw [if_neg c4] at H
      exact absurd H (by simp)
  · rw [if_neg c3] at H
    exact absurd H (by simp)
end Go.Proofs.Ytbclgpgolbmlpaa.P
end

section
namespace Go.Proofs.Ytbclgpgolbmlpaa.P
open Go.RowKit Go.Proofs.YtbclgpgolbmlpaaW.PrintWords Go.Proofs.YtbclgpgolbmlpaaW.PrintLast Go.Proofs.YtbclgpgolbmlpaaW.PrintMore
attribute [local go_sem] max2_int min2_int max_two min_two max_three min_three max_four min_four isSome_cell_setCell   -- for this text's walks alone
set_option linter.unusedVariables false
set_option linter.unusedSimpArgs false
def spec_wayOut.l0 : Nat → List (S50) → List Int → List Int → Int → Option (List Int)
  | 0, _, _, _, _ => none
  | k + 1, x0, x1, x5, x6 => if x6 < (x1.length : Int) then (if 0 ≤ x6 then ((spec_lastOf.f k x0 (rd x1 x6)).bind fun t597 => (if t597 ≥ 0 then (if x5.length < 17592186044416 then (spec_wayOut.l0 k x0 x1 (x5 ++ [t597]) (wrap64 (x6 + 1))) else (none)) else (spec_wayOut.l0 k x0 x1 x5 (wrap64 (x6 + 1))))) else (none)) else (some x5)
def spec_wayOut.f (k : Nat) (l0 : List (S50)) (l1 : List Int) : Option (List Int) := spec_wayOut.l0 k l0 l1 (([] : List Int)) 0
theorem spec_wayOut.mono_l : ∀ k, (∀ y0 y1 y2 y3, LeO (spec_wayOut.l0 k y0 y1 y2 y3) (spec_wayOut.l0 (k + 1) y0 y1 y2 y3))
  | 0 => fun _ _ _ _ r h => by simp [spec_wayOut.l0] at h
  | k + 1 => by
    have ih0 := spec_wayOut.mono_l k
    · intro y0 y1 y2 y3
      unfold spec_wayOut.l0
      repeat' first
      | (with_reducible exact ih0 _ _ _ _)
      | (with_reducible exact spec_lastOf.mono _ _ _)
      | (with_reducible exact LeO.refl _)
      | (with_reducible exact LeO.none _)
      | (with_reducible refine LeO.ite ?_ ?_)
      | (with_reducible refine LeO.bind ?_ (fun _ => ?_))
      | exact ih0 _ _ _ _
      | exact spec_lastOf.mono _ _ _
      | exact LeO.none _
      | refine LeO.ite ?_ ?_
      | refine LeO.bind ?_ (fun _ => ?_)
theorem spec_wayOut.mono : ∀ a0 a1 k, LeO (spec_wayOut.f k a0 a1) (spec_wayOut.f (k + 1) a0 a1) := by
  intro a0 a1 k
  have ih0 := spec_wayOut.mono_l k
  unfold spec_wayOut.f
  repeat' first
      | (with_reducible exact ih0 _ _ _ _)
      | (with_reducible exact spec_lastOf.mono _ _ _)
      | (with_reducible exact LeO.refl _)
      | (with_reducible exact LeO.none _)
      | (with_reducible refine LeO.ite ?_ ?_)
      | (with_reducible refine LeO.bind ?_ (fun _ => ?_))
      | exact ih0 _ _ _ _
      | exact spec_lastOf.mono _ _ _
      | exact LeO.none _
      | refine LeO.ite ?_ ?_
      | refine LeO.bind ?_ (fun _ => ?_)
set_option maxHeartbeats 8000000 in
set_option maxRecDepth 100000 in
theorem spec_wayOut.calls (k : Nat) (A0 : Option Addr) (c0 : Nat) (l0 : List (S50)) (A1 : Option Addr) (c1 : Nat) (l1 : List Int) (r : List Int) (w : World) (hr0 : Kd.C k50 w A0 l0.length l0) (hc0 : l0.length ≤ c0) (hr1 : Kd.C (Kd.int .i64) w A1 l1.length l1) (hc1 : l1.length ≤ c1) (h : spec_wayOut.f k l0 l1 = some r) :
    Calls Try.prog 52 #[.slice A0 l0.length c0, .slice A1 l1.length c1] w fun e w' => ∃ v0_ : Value, e = .returned (v0_) ∧ Kd.R (Kd.int .i64) 3 w' w.heap.size (fun _ => True) v0_ r ∧ Below w.heap.size w w' := by
  have HR0 := Aside0.mk hr0
  have HC0 := Aside0.mk hc0
  clear hr0 hc0
  have HR1 := Aside0.mk hr1
  have HC1 := Aside0.mk hc1
  clear hr1 hc1
  have HB := Aside0.mk (Below.refl w.heap.size w)
  have H : (spec_wayOut.l0 k l0 l1 (([] : List Int)) 0) = some r := h
  clear h
  obtain ⟨y593, hy593⟩ : ∃ y_ : List Int, y_ = (([] : List Int)) := ⟨_, rfl⟩
  replace H : (spec_wayOut.l0 k l0 l1 y593 0) = some r := by first | (rw [hy593]; with_reducible exact H) | (have H2_ := (Option.bind_some _ _).symm.trans H; rw [hy593]; with_reducible exact H2_) | (have H2_ := (Option.bind_some _ _).symm.trans H; with_reducible exact H2_) | with_reducible exact H | (rw [hy593]; exact H) | exact H
  have Ny593 := Aside0.mk hy593
  clear hy593
  have H' := Aside0.mk H
  clear H
  go_enter Try.func52, Try.ntmps52
  go_wp2_with (first | ((with_reducible refine gate_dst (N := 8) rfl ?_); refine Kd.R_lit (Kd.int .i64) _ 3 ?hg (N := 8) ?hd (xs := ([] : List Int)) (inner := []) (ok := fun _ => True) (okp := fun _ => True) ?hr ?hp (fun _ hk => hk) trivial (Below.refl _ _) (Nat.le_refl _) (by simp) ?_; (case hd => rfl); (case hg => rfl); (case hr => first | (go_simp; done) | (go_simp; rfl)); (case hp => exact (Reps.none _ _)); intro v594 w3 ho4 hb hg_ hnew_; clear hg_ hnew_; (first | rw [← Ny593.out] at ho4 | (simp only [Int.reduceToNat] at ho4; rw [← Ny593.out] at ho4)); have n0_ := Aside0.mk (Kd.R_lower ho4 (below_size (bq))); have n1_ := Aside0.mk (below_step (bq) hb); clear HB; have HO595 := n0_; have HB := n1_; clear n0_ n1_; clear hb ho4))
  go_loopg [5, 6] k (fun kq v5 v6 w' => ∃ (x5_1 : List Int) (x6_1 : Int), v6 = .int .i64 x6_1 ∧ Aside0 (spec_wayOut.l0 kq l0 l1 x5_1 x6_1 = some r) ∧ Aside0 (kq ≤ k) ∧ Aside0 (Kd.R (Kd.int .i64) 3 w' w.heap.size (fun _ => True) v5 x5_1) ∧ Aside0 (Below w.heap.size w w'))
  case atStart => exact ⟨(y593), (0), (sq), H', ⟨Nat.le_refl _⟩, ⟨rq HO595.out⟩, ⟨bq⟩⟩
  case round =>
    clear H'
    try clear c1
    try clear p2
    obtain ⟨x5_1, x6_1, rfl, HA, HK1, HO_5, HB⟩ := hrel
    cases gk with
    | zero => exact absurd HA.out (by simp [spec_wayOut.l0])
    | succ k1 =>
      have H := HA.out
      clear HA
      simp only [spec_wayOut.l0] at H
      by_cases c5 : x6_1 < (l1.length : Int)
      · rw [if_pos c5] at H
        have c5b0 : decide (x6_1 < (l1.length : Int)) = true := decide_eq_true c5
        clear c5
        by_cases c6 : 0 ≤ x6_1
        · rw [if_pos c6] at H
          have c6b0 : decide (0 ≤ x6_1) = true := decide_eq_true c6
          clear c6
          replace H := Option.bind_eq_some_iff.mp H
          obtain ⟨t597, A70, H⟩ := H
          replace H : (if t597 ≥ 0 then (if x5_1.length < 17592186044416 then (spec_wayOut.l0 k1 l0 l1 (x5_1 ++ [t597]) (wrap64 (x6_1 + 1))) else (none)) else (spec_wayOut.l0 k1 l0 l1 x5_1 (wrap64 (x6_1 + 1)))) = some r := H
          have A7 := Aside0.mk A70
          clear A70
          by_cases c8 : t597 ≥ 0
          · rw [if_pos c8] at H
            have c8b0 : decide (0 ≤ t597) = true := decide_eq_true c8
            clear c8
            by_cases c9 : x5_1.length < 17592186044416
            · rw [if_pos c9] at H
              have LMc9 := Aside0.mk c9
              clear c9
              obtain ⟨y598, hy598⟩ : ∃ y_ : List Int, y_ = (x5_1 ++ [t597]) := ⟨_, rfl⟩
              replace H : (spec_wayOut.l0 k1 l0 l1 y598 (wrap64 (x6_1 + 1))) = some r := by first | (rw [hy598]; with_reducible exact H) | (have H2_ := (Option.bind_some _ _).symm.trans H; rw [hy598]; with_reducible exact H2_) | (have H2_ := (Option.bind_some _ _).symm.trans H; with_reducible exact H2_) | with_reducible exact H | (rw [hy598]; exact H) | exact H
              have Ny598 := Aside0.mk hy598
              clear hy598
              have H' := Aside0.mk H
              clear H
              have p596 : 0 ≤ (x6_1 : Int) := of_decide_eq_true (uq)
              have q596 : x6_1 < (l1.length : Int) := of_decide_eq_true (uq)
              obtain ⟨ad596, e596, hx596_0⟩ := Kd.at_int HR1.out x6_1 p596 q596
              cases e596
              replace hx596_0 := (HB.out.cell (World.block_lt_of_cell? w _ hx596_0)).trans hx596_0
              replace p596 := eq_true p596
              replace q596 := eq_true q596
              go_wp2_with (first | ((with_reducible refine gate_callee (f := 71) rfl ?_); refine goesL_ (some 20) rfl rfl Try.func71 (by kernel_rfl) rfl #[.slice A0 l0.length c0, .int .i64 (rd l1 x6_1)] rfl (aq) ?_; (with_reducible refine (spec_lastOf.calls k1 _ _ l0 (rd l1 x6_1) t597 _ ?side1 ?side2 A7.out).mono ?_); (case side1 => exact cq (Kd.C_below HR0.out HB.out)); (case side2 => exact HC0.out); rintro e w10 ⟨rfl, hb⟩; refine ⟨_, rfl, ?_⟩; have n0_ := Aside0.mk (Kd.R_below (rq HO_5.out) hb); have n1_ := Aside0.mk (below_step (bq) hb); clear HO_5; clear HB; have HO_5 := n0_; have HB := n1_; clear n0_ n1_; (try clear hb); (try clear hb2); (try clear hk); (try clear hi)) | ((with_reducible refine gate_builtin (b := .append) (xs := #[.tmp 23, .tmp 25]) rfl ?_); at_builtin; refine Kd.R_append (Kd.int .i64) (w0 := w) w.heap.size rfl (.tmp 23) (.tmp 25) 38 3 (.int .i64 0) 8 rfl Try.underlying38 info3 rfl (by decide) (by omega) u5 x5_1 t597 [.int .i64 t597] (fun _ => True) (fun _ => False) rfl rfl ?aP (fun _ hk => hk.elim) ?aF ?aO ?aB ?aS ?aL ?_; (case aP => exact rfl); (case aB => exact (bq)); (case aF => exact (fun _ _ => trivial)); (case aO => exact (rq HO_5.out)); (case aS => exact (below_size (bq))); (case aL => have := LMc9.out; omega); intro v599 w11 ho hb hg hat; rw [← Ny598.out] at ho; have n0_ := Aside0.mk (hb); have n1_ := Aside0.mk (ho); clear HB; clear HO_5; have HB := n0_; have HO600 := n1_; clear n0_ n1_; clear ho hb hg hat))
              go_roundg k1
              case measure => have := HK1.out; omega
              case rel => exact ⟨(y598), (wrap64 (x6_1 + 1)), (sq), H', ⟨by have := HK1.out; omega⟩, ⟨rq HO600.out⟩, ⟨bq⟩⟩
            · rw [if_neg c9] at H
              exact absurd H (by simp)
          · rw [if_neg c8] at H
            have c8b0 : decide (0 ≤ t597) = false := decide_eq_false c8
            clear c8
            have H' := Aside0.mk H
            clear H
            have p596 : 0 ≤ (x6_1 : Int) := of_decide_eq_true (uq)
            have q596 : x6_1 < (l1.length : Int) := of_decide_eq_true (uq)
            obtain ⟨ad596, e596, hx596_0⟩ := Kd.at_int HR1.out x6_1 p596 q596
            cases e596
            replace hx596_0 := (HB.out.cell (World.block_lt_of_cell? w _ hx596_0)).trans hx596_0
            replace p596 := eq_true p596
            replace q596 := eq_true q596
            go_wp2_with (first | ((with_reducible refine gate_callee (f := 71) rfl ?_); refine goesL_ (some 20) rfl rfl Try.func71 (by kernel_rfl) rfl #[.slice A0 l0.length c0, .int .i64 (rd l1 x6_1)] rfl (aq) ?_; (with_reducible refine (spec_lastOf.calls k1 _ _ l0 (rd l1 x6_1) t597 _ ?side1 ?side2 A7.out).mono ?_); (case side1 => exact cq (Kd.C_below HR0.out HB.out)); (case side2 => exact HC0.out); rintro e w12 ⟨rfl, hb⟩; refine ⟨_, rfl, ?_⟩; have n0_ := Aside0.mk (Kd.R_below (rq HO_5.out) hb); have n1_ := Aside0.mk (below_step (bq) hb); clear HO_5; clear HB; have HO_5 := n0_; have HB := n1_; clear n0_ n1_; (try clear hb); (try clear hb2); (try clear hk); (try clear hi)))
            go_roundg k1
            case measure => have := HK1.out; omega
            case rel => exact ⟨(x5_1), (wrap64 (x6_1 + 1)), (sq), H', ⟨by have := HK1.out; omega⟩, ⟨rq HO_5.out⟩, ⟨bq⟩⟩
        · rw [if_neg c6] at H
          exact absurd H (by simp)
      · rw [if_neg c5] at H
        have c5b0 : decide (x6_1 < (l1.length : Int)) = false := decide_eq_false c5
        clear c5
        obtain rfl := Option.some.inj H
        go_wp2
        go_ret
        exact ⟨_, by first | rfl | (simp [errW_none, errW_some] <;> rfl) | (simp [*, errW_none, errW_some] <;> rfl), rq HO_5.out, bq⟩
end Go.Proofs.Ytbclgpgolbmlpaa.P
end

section
namespace Go.Proofs.Ytbclgpgolbmlpaa.P
open Go.RowKit Go.Proofs.YtbclgpgolbmlpaaW.PrintWords Go.Proofs.YtbclgpgolbmlpaaW.PrintLast Go.Proofs.YtbclgpgolbmlpaaW.PrintMore
attribute [local go_sem] max2_int min2_int max_two min_two max_three min_three max_four min_four isSome_cell_setCell   -- for this text's walks alone
set_option linter.unusedVariables false
set_option linter.unusedSimpArgs false
def spec_WayOut.f (k : Nat) (l0_0 : List (S68)) (l1 : List (S50)) (a2 : Int) : Option (List Int) := (spec_goodLine.f k l0_0 l1 a2).bind fun t602 => (if t602 = true then ((spec_enclosing.f k l1 a2).bind fun t603 => ((spec_wayOut.f k l1 t603).bind fun t606 => (some t606))) else (some ([] : List Int)))
theorem spec_WayOut.mono : ∀ a0 a1 a2 k, LeO (spec_WayOut.f k a0 a1 a2) (spec_WayOut.f (k + 1) a0 a1 a2) := by
  intro a0 a1 a2 k
  unfold spec_WayOut.f
  repeat' first
      | (with_reducible exact spec_enclosing.mono _ _ _)
      | (with_reducible exact spec_goodLine.mono _ _ _ _)
      | (with_reducible exact spec_wayOut.mono _ _ _)
      | (with_reducible exact LeO.refl _)
      | (with_reducible exact LeO.none _)
      | (with_reducible refine LeO.ite ?_ ?_)
      | (with_reducible refine LeO.bind ?_ (fun _ => ?_))
      | exact spec_enclosing.mono _ _ _
      | exact spec_goodLine.mono _ _ _ _
      | exact spec_wayOut.mono _ _ _
      | exact LeO.none _
      | refine LeO.ite ?_ ?_
      | refine LeO.bind ?_ (fun _ => ?_)
set_option maxHeartbeats 8000000 in
set_option maxRecDepth 100000 in
theorem spec_WayOut.calls (k : Nat) (A0_0 : Option Addr) (c0_0 : Nat) (l0_0 : List (S68)) (A1 : Option Addr) (c1 : Nat) (l1 : List (S50)) (a2 : Int) (r : List Int) (w : World) (hr0_0 : Kd.C k68 w A0_0 l0_0.length l0_0) (hc0_0 : l0_0.length ≤ c0_0) (hr1 : Kd.C k50 w A1 l1.length l1) (hc1 : l1.length ≤ c1) (h : spec_WayOut.f k l0_0 l1 a2 = some r) :
    Calls Try.prog 28 #[.agg #[.slice A0_0 l0_0.length c0_0], .slice A1 l1.length c1, .int .i64 a2] w fun e w' => ∃ v0_ : Value, e = .returned (v0_) ∧ Kd.R (Kd.int .i64) 3 w' w.heap.size (fun _ => True) v0_ r ∧ Below w.heap.size w w' := by
  have hu31 := Try.underlying31
  have HR0_0 := Aside0.mk hr0_0
  have HC0_0 := Aside0.mk hc0_0
  clear hr0_0 hc0_0
  have HR1 := Aside0.mk hr1
  have HC1 := Aside0.mk hc1
  clear hr1 hc1
  have HB := Aside0.mk (Below.refl w.heap.size w)
  have H : ((spec_goodLine.f k l0_0 l1 a2).bind fun t602 => (if t602 = true then ((spec_enclosing.f k l1 a2).bind fun t603 => ((spec_wayOut.f k l1 t603).bind fun t606 => (some t606))) else (some ([] : List Int)))) = some r := h
  clear h
  replace H := Option.bind_eq_some_iff.mp H
  obtain ⟨t602, A40, H⟩ := H
  replace H : (if t602 = true then ((spec_enclosing.f k l1 a2).bind fun t603 => ((spec_wayOut.f k l1 t603).bind fun t606 => (some t606))) else (some ([] : List Int))) = some r := H
  have A4 := Aside0.mk A40
  clear A40
  by_cases c5 : t602 = true
  · subst c5
    have H1 : ((spec_enclosing.f k l1 a2).bind fun t603 => ((spec_wayOut.f k l1 t603).bind fun t606 => (some t606))) = some r := by rw [if_pos rfl] at H; exact H
    clear H
    have H := H1
    clear H1
    replace H := Option.bind_eq_some_iff.mp H
    obtain ⟨t603, A60, H⟩ := H
    replace H : ((spec_wayOut.f k l1 t603).bind fun t606 => (some t606)) = some r := H
    have A6 := Aside0.mk A60
    clear A60
    replace H := Option.bind_eq_some_iff.mp H
    obtain ⟨t606, A70, H⟩ := H
    replace H : (some t606) = some r := H
    have A7 := Aside0.mk A70
    clear A70
    obtain rfl := Option.some.inj H
    go_enter Try.func28, Try.ntmps28
    go_wp2_with (first | ((with_reducible refine gate_dst (N := 3) rfl ?_); refine box_event ?hg (N := 3) ?hd (cs := #[.slice A0_0 l0_0.length c0_0]) (t := 31) ?hr ?_; (case hd => rfl); (case hg => rfl); (case hr => first | (go_simp; done) | (go_simp; rfl)); intro gb601 hg w8 hbox hb; have n0_ := Aside0.mk (below_step (bq) hb); have n1_ := Aside0.mk (hbox); have n2_ := Aside0.mk ((by rw [hg]; exact (below_size (bq)) : w.heap.size ≤ gb601)); have n3_ := Aside0.mk ((by rw [hg]; exact (below_size (bq)) : w.heap.size ≤ gb601)); clear HB; have HB := n0_; have BK601 := n1_; have GW601 := n2_; have GE601 := n3_; clear n0_ n1_ n2_ n3_; clear hb hbox hg; have hcz9_0 : w8.cell? ⟨gb601, 0, none⟩ = some (.slice A0_0 l0_0.length c0_0) := (blk_cell BK601.out 0).trans rfl; have hfz9_0 := blk_frozen BK601.out 0) | ((with_reducible refine gate_callee (f := 33) rfl ?_); refine goesL_ (some 10) rfl rfl Try.func33 (by kernel_rfl) rfl #[.agg #[.slice A0_0 l0_0.length c0_0], .slice A1 l1.length c1, .int .i64 a2] rfl (aq) ?_; (with_reducible refine (spec_goodLine.calls k _ _ l0_0 _ _ l1 a2 true _ ?side1 ?side2 ?side3 ?side4 A4.out).mono ?_); (case side1 => exact cq (Kd.C_below HR0_0.out HB.out)); (case side2 => exact HC0_0.out); (case side3 => repeat (first | exact (Kd.C_below HR1.out HB.out) | (with_reducible refine Kd.C_alloc ?_ _) | (with_reducible refine Kd.C_drewN ?_ _) | (with_reducible refine Kd.C_drew ?_))); (case side4 => exact HC1.out); rintro e w10 ⟨rfl, hb⟩; refine ⟨_, rfl, ?_⟩; have n0_ := Aside0.mk (blk_below (g := gb601) (o := .cells #[.slice A0_0 l0_0.length c0_0] 31 (0, 0)) (kq BK601.out) hb); have n1_ := Aside0.mk (below_step (by repeat (first | (with_reducible first | exact HB.out | apply below_alloc | apply pw_below_drewN | apply below_drew1 | refine below_set ?_ GE601.out) | exact HB.out)) hb); clear BK601; clear HB; have BK601 := n0_; have HB := n1_; clear n0_ n1_; (try clear hb); (try clear hb2); (try clear hk); (try clear hi)) | ((with_reducible refine gate_callee (f := 34) rfl ?_); refine goesL_ (some 15) rfl rfl Try.func34 (by kernel_rfl) rfl #[.slice A1 l1.length c1, .int .i64 a2] rfl (aq) ?_; (with_reducible refine (spec_enclosing.calls k _ _ l1 a2 t603 _ ?side1 ?side2 A6.out).mono ?_); (case side1 => exact cq (Kd.C_below HR1.out HB.out)); (case side2 => exact HC1.out); rintro e w11 ⟨v604, rfl, ho0, hb⟩; refine ⟨_, rfl, ?_⟩; have n0_ := Aside0.mk (Kd.R_lower ho0 (below_size (by repeat (first | (with_reducible first | exact HB.out | apply below_alloc | apply pw_below_drewN | apply below_drew1 | refine below_set ?_ GE601.out) | exact HB.out)))); have n1_ := Aside0.mk (blk_below (g := gb601) (o := .cells #[.slice A0_0 l0_0.length c0_0] 31 (0, 0)) (kq BK601.out) hb); have n2_ := Aside0.mk (below_step (by repeat (first | (with_reducible first | exact HB.out | apply below_alloc | apply pw_below_drewN | apply below_drew1 | refine below_set ?_ GE601.out) | exact HB.out)) hb); clear BK601; clear HB; have HO605 := n0_; have BK601 := n1_; have HB := n2_; clear n0_ n1_ n2_; (try clear hb); (try clear hb2); (try clear hk); (try clear hi); (try clear ho0); obtain ⟨Ao12, co12, eo12⟩ := Kd.R_slice HO605.out; subst eo12) | ((with_reducible refine gate_callee (f := 52) rfl ?_); refine goesL_ (some 16) rfl rfl Try.func52 (by kernel_rfl) rfl #[.slice A1 l1.length c1, .slice Ao12 t603.length co12] rfl (aq) ?_; (with_reducible refine (spec_wayOut.calls k _ _ l1 _ _ t603 t606 _ ?side1 ?side2 ?side3 ?side4 A7.out).mono ?_); (case side1 => exact cq (Kd.C_below HR1.out HB.out)); (case side2 => exact HC1.out); (case side3 => repeat (first | exact (Kd.R_reads' HO605.out).2.2 | (with_reducible refine Kd.C_alloc ?_ _) | (with_reducible refine Kd.C_drewN ?_ _) | (with_reducible refine Kd.C_drew ?_))); (case side4 => exact (Kd.R_reads' HO605.out).2.1); rintro e w13 ⟨v607, rfl, ho0, hb⟩; refine ⟨_, rfl, ?_⟩; have n0_ := Aside0.mk (Kd.R_elder' (rq HO605.out) (Kd.R_base ho0) hb); have n1_ := Aside0.mk (Kd.R_lower (Kd.R_new' ho0 (Kd.R_lt (rq HO605.out))) (below_size (by repeat (first | (with_reducible first | exact HB.out | apply below_alloc | apply pw_below_drewN | apply below_drew1 | refine below_set ?_ GE601.out) | exact HB.out)))); have n2_ := Aside0.mk (blk_below (g := gb601) (o := .cells #[.slice A0_0 l0_0.length c0_0] 31 (0, 0)) (kq BK601.out) hb); have n3_ := Aside0.mk (below_step (by repeat (first | (with_reducible first | exact HB.out | apply below_alloc | apply pw_below_drewN | apply below_drew1 | refine below_set ?_ GE601.out) | exact HB.out)) hb); clear HO605; clear BK601; clear HB; have HO605 := n0_; have HO608 := n1_; have BK601 := n2_; have HB := n3_; clear n0_ n1_ n2_ n3_; (try clear hb); (try clear hb2); (try clear hk); (try clear hi); (try clear ho0)))
    go_ret
    exact ⟨_, by first | rfl | (simp [errW_none, errW_some] <;> rfl) | (simp [*, errW_none, errW_some] <;> rfl), by (with_reducible repeat (first | apply Kd.R_alloc | apply Kd.R_drewN | apply Kd.R_drew)); exact Kd.R_mono HO608.out (fun _ hk => trivial), by repeat (first | (with_reducible first | exact HB.out | apply below_alloc | apply pw_below_drewN | apply below_drew1 | refine below_set ?_ GE601.out) | exact HB.out)⟩
  · replace c5 := Bool.eq_false_iff.mpr c5
    subst c5
    have H1 : (some ([] : List Int)) = some r := by rw [if_neg (show ¬ (false = true) by decide)] at H; exact H
    clear H
    have H := H1
    clear H1
    obtain rfl := Option.some.inj H
    go_enter Try.func28, Try.ntmps28
    go_wp2_with (first | ((with_reducible refine gate_dst (N := 3) rfl ?_); refine box_event ?hg (N := 3) ?hd (cs := #[.slice A0_0 l0_0.length c0_0]) (t := 31) ?hr ?_; (case hd => rfl); (case hg => rfl); (case hr => first | (go_simp; done) | (go_simp; rfl)); intro gb601 hg w14 hbox hb; have n0_ := Aside0.mk (below_step (bq) hb); have n1_ := Aside0.mk (hbox); have n2_ := Aside0.mk ((by rw [hg]; exact (below_size (bq)) : w.heap.size ≤ gb601)); have n3_ := Aside0.mk ((by rw [hg]; exact (below_size (bq)) : w.heap.size ≤ gb601)); clear HB; have HB := n0_; have BK601 := n1_; have GW601 := n2_; have GE601 := n3_; clear n0_ n1_ n2_ n3_; clear hb hbox hg; have hcz15_0 : w14.cell? ⟨gb601, 0, none⟩ = some (.slice A0_0 l0_0.length c0_0) := (blk_cell BK601.out 0).trans rfl; have hfz15_0 := blk_frozen BK601.out 0) | ((with_reducible refine gate_callee (f := 33) rfl ?_); refine goesL_ (some 10) rfl rfl Try.func33 (by kernel_rfl) rfl #[.agg #[.slice A0_0 l0_0.length c0_0], .slice A1 l1.length c1, .int .i64 a2] rfl (aq) ?_; (with_reducible refine (spec_goodLine.calls k _ _ l0_0 _ _ l1 a2 false _ ?side1 ?side2 ?side3 ?side4 A4.out).mono ?_); (case side1 => exact cq (Kd.C_below HR0_0.out HB.out)); (case side2 => exact HC0_0.out); (case side3 => repeat (first | exact (Kd.C_below HR1.out HB.out) | (with_reducible refine Kd.C_alloc ?_ _) | (with_reducible refine Kd.C_drewN ?_ _) | (with_reducible refine Kd.C_drew ?_))); (case side4 => exact HC1.out); rintro e w16 ⟨rfl, hb⟩; refine ⟨_, rfl, ?_⟩; have n0_ := Aside0.mk (blk_below (g := gb601) (o := .cells #[.slice A0_0 l0_0.length c0_0] 31 (0, 0)) (kq BK601.out) hb); have n1_ := Aside0.mk (below_step (by repeat (first | (with_reducible first | exact HB.out | apply below_alloc | apply pw_below_drewN | apply below_drew1 | refine below_set ?_ GE601.out) | exact HB.out)) hb); clear BK601; clear HB; have BK601 := n0_; have HB := n1_; clear n0_ n1_; (try clear hb); (try clear hb2); (try clear hk); (try clear hi)))
    go_ret
    exact ⟨_, by first | rfl | (simp [errW_none, errW_some] <;> rfl) | (simp [*, errW_none, errW_some] <;> rfl), by first | exact Kd.R_nil _ _ _ _ _ | exact Kd.N_nil _ _ _ _ _ | exact Kd.V_nil _ _ _ _ _ | exact Kd.Q_nil _ _ _ _ _ | exact Kd.S_nil _ _ _ _ _, by repeat (first | (with_reducible first | exact HB.out | apply below_alloc | apply pw_below_drewN | apply below_drew1 | refine below_set ?_ GE601.out) | exact HB.out)⟩
end Go.Proofs.Ytbclgpgolbmlpaa.P
end

section
namespace Go.Proofs.Ytbclgpgolbmlpaa.P
open Go.RowKit Go.Proofs.YtbclgpgolbmlpaaW.PrintWords Go.Proofs.YtbclgpgolbmlpaaW.PrintLast Go.Proofs.YtbclgpgolbmlpaaW.PrintMore
attribute [local go_sem] max2_int min2_int max_two min_two max_three min_three max_four min_four isSome_cell_setCell   -- for this text's walks alone
set_option linter.unusedVariables false
set_option linter.unusedSimpArgs false
mutual
def impl_way.l0 : Nat → List (S50) → Int → List Int → List Int → Int → Int → Option (List Int)
  | 0, _, _, _, _, _, _ => none
  | k + 1, x0, x2, x7, x15, x16, x17 => if x17 < x16 then (if 0 ≤ x17 then (if x17 < (x15.length : Int) then (if (rd x15 x17) = x2 then ((slices_Clip_int_int.f x7).bind fun t619 => (some t619)) else (if 0 ≤ (rd x15 x17) then (if (rd x15 x17) < (x0.length : Int) then (if ((rd_T50 x0 (rd x15 x17)).f1) = 11 then (if x7.length < 17592186044416 then (impl_way.l0 k x0 x2 (x7 ++ [rd x15 x17]) x15 x16 (wrap64 (x17 + 1))) else (none)) else (if ((rd_T50 x0 (rd x15 x17)).f1) = 7 then (impl_way.j1 k x0 x2 x7 (rd x15 x17) x15 x16 x17 (((rd_T50 x0 (rd x15 x17)).f1) == 7)) else (if ((rd_T50 x0 (rd x15 x17)).f1) = 8 then (impl_way.j1 k x0 x2 x7 (rd x15 x17) x15 x16 x17 (((rd_T50 x0 (rd x15 x17)).f1) == 8)) else (impl_way.j1 k x0 x2 x7 (rd x15 x17) x15 x16 x17 (((rd_T50 x0 (rd x15 x17)).f1) == 9))))) else (none)) else (none))) else (none)) else (none)) else ((slices_Clip_int_int.f x7).bind fun t615 => (some t615))
def impl_way.j1 : Nat → List (S50) → Int → List Int → Int → List Int → Int → Int → Bool → Option (List Int)
  | 0, _, _, _, _, _, _, _, _ => none
  | k + 1, x0, x2, x7, x9, x15, x16, x17, x35 => if x35 = true then ((impl_tryOf.f k x0 x9).bind fun t626 => (if 0 ≤ (wrap64 ((t626.length : Int) - 1)) then (if (wrap64 ((t626.length : Int) - 1)) < (t626.length : Int) then (if 0 ≤ (rd t626 (wrap64 ((t626.length : Int) - 1))) then (if (rd t626 (wrap64 ((t626.length : Int) - 1))) < (x0.length : Int) then (if ((rd_T50 x0 (rd t626 (wrap64 ((t626.length : Int) - 1)))).f1) = 10 then (if x7.length < 17592186044416 then (impl_way.l0 k x0 x2 (x7 ++ [rd t626 (wrap64 ((t626.length : Int) - 1))]) x15 x16 (wrap64 (x17 + 1))) else (none)) else (impl_way.l0 k x0 x2 x7 x15 x16 (wrap64 (x17 + 1)))) else (none)) else (none)) else (none)) else (none))) else (impl_way.l0 k x0 x2 x7 x15 x16 (wrap64 (x17 + 1)))
end
def impl_way.f (k : Nat) (l0 : List (S50)) (a1 : Int) (a2 : Int) : Option (List Int) := (impl_enclosing.f k l0 a1).bind fun t612 => (impl_way.l0 k l0 a2 (([] : List Int)) t612 (t612.length : Int) 0)
theorem impl_way.mono_l : ∀ k, (∀ y0 y1 y2 y3 y4 y5, LeO (impl_way.l0 k y0 y1 y2 y3 y4 y5) (impl_way.l0 (k + 1) y0 y1 y2 y3 y4 y5)) ∧ (∀ y0 y1 y2 y3 y4 y5 y6 y7, LeO (impl_way.j1 k y0 y1 y2 y3 y4 y5 y6 y7) (impl_way.j1 (k + 1) y0 y1 y2 y3 y4 y5 y6 y7))
  | 0 => ⟨fun _ _ _ _ _ _ r h => by simp [impl_way.l0] at h, fun _ _ _ _ _ _ _ _ r h => by simp [impl_way.j1] at h⟩
  | k + 1 => by
    obtain ⟨ih0, ih1⟩ := impl_way.mono_l k
    refine ⟨?_, ?_⟩
    · intro y0 y1 y2 y3 y4 y5
      unfold impl_way.l0
      repeat' first
      | (with_reducible exact ih0 _ _ _ _ _ _)
      | (with_reducible exact ih1 _ _ _ _ _ _ _ _)
      | (with_reducible exact impl_enclosing.mono _ _ _)
      | (with_reducible exact impl_tryOf.mono _ _ _)
      | (with_reducible exact LeO.refl _)
      | (with_reducible exact LeO.none _)
      | (with_reducible refine LeO.ite ?_ ?_)
      | (with_reducible refine LeO.bind ?_ (fun _ => ?_))
      | exact ih0 _ _ _ _ _ _
      | exact ih1 _ _ _ _ _ _ _ _
      | exact impl_enclosing.mono _ _ _
      | exact impl_tryOf.mono _ _ _
      | exact LeO.none _
      | refine LeO.ite ?_ ?_
      | refine LeO.bind ?_ (fun _ => ?_)
    · intro y0 y1 y2 y3 y4 y5 y6 y7
      unfold impl_way.j1
      repeat' first
      | (with_reducible exact ih0 _ _ _ _ _ _)
      | (with_reducible exact ih1 _ _ _ _ _ _ _ _)
      | (with_reducible exact impl_enclosing.mono _ _ _)
      | (with_reducible exact impl_tryOf.mono _ _ _)
      | (with_reducible exact LeO.refl _)
      | (with_reducible exact LeO.none _)
      | (with_reducible refine LeO.ite ?_ ?_)
      | (with_reducible refine LeO.bind ?_ (fun _ => ?_))
      | exact ih0 _ _ _ _ _ _
      | exact ih1 _ _ _ _ _ _ _ _
      | exact impl_enclosing.mono _ _ _
      | exact impl_tryOf.mono _ _ _
      | exact LeO.none _
      | refine LeO.ite ?_ ?_
      | refine LeO.bind ?_ (fun _ => ?_)
theorem impl_way.mono : ∀ a0 a1 a2 k, LeO (impl_way.f k a0 a1 a2) (impl_way.f (k + 1) a0 a1 a2) := by
  intro a0 a1 a2 k
  obtain ⟨ih0, ih1⟩ := impl_way.mono_l k
  unfold impl_way.f
  repeat' first
      | (with_reducible exact ih0 _ _ _ _ _ _)
      | (with_reducible exact ih1 _ _ _ _ _ _ _ _)
      | (with_reducible exact impl_enclosing.mono _ _ _)
      | (with_reducible exact impl_tryOf.mono _ _ _)
      | (with_reducible exact LeO.refl _)
      | (with_reducible exact LeO.none _)
      | (with_reducible refine LeO.ite ?_ ?_)
      | (with_reducible refine LeO.bind ?_ (fun _ => ?_))
      | exact ih0 _ _ _ _ _ _
      | exact ih1 _ _ _ _ _ _ _ _
      | exact impl_enclosing.mono _ _ _
      | exact impl_tryOf.mono _ _ _
      | exact LeO.none _
      | refine LeO.ite ?_ ?_
      | refine LeO.bind ?_ (fun _ => ?_)
set_option maxHeartbeats 8000000 in
set_option maxRecDepth 100000 in
theorem impl_way.calls (k : Nat) (A0 : Option Addr) (c0 : Nat) (l0 : List (S50)) (a1 : Int) (a2 : Int) (r : List Int) (w : World) (hr0 : Kd.C k50 w A0 l0.length l0) (hc0 : l0.length ≤ c0) (h : impl_way.f k l0 a1 a2 = some r) :
    Calls Try.prog 53 #[.slice A0 l0.length c0, .int .i64 a1, .int .i64 a2] w fun e w' => ∃ v0_ : Value, e = .returned (v0_) ∧ Kd.R (Kd.int .i64) 3 w' w.heap.size (fun _ => True) v0_ r ∧ Below w.heap.size w w' := by
  have HR0 := Aside0.mk hr0
  have HC0 := Aside0.mk hc0
  clear hr0 hc0
  have HB := Aside0.mk (Below.refl w.heap.size w)
  have H : ((impl_enclosing.f k l0 a1).bind fun t612 => (impl_way.l0 k l0 a2 (([] : List Int)) t612 (t612.length : Int) 0)) = some r := h
  clear h
  obtain ⟨y609, hy609⟩ : ∃ y_ : List Int, y_ = (([] : List Int)) := ⟨_, rfl⟩
  replace H : ((impl_enclosing.f k l0 a1).bind fun t612 => (impl_way.l0 k l0 a2 y609 t612 (t612.length : Int) 0)) = some r := by first | (rw [hy609]; with_reducible exact H) | (have H2_ := (Option.bind_some _ _).symm.trans H; rw [hy609]; with_reducible exact H2_) | (have H2_ := (Option.bind_some _ _).symm.trans H; with_reducible exact H2_) | with_reducible exact H | (rw [hy609]; exact H) | exact H
  have Ny609 := Aside0.mk hy609
  clear hy609
  replace H := Option.bind_eq_some_iff.mp H
  obtain ⟨t612, A40, H⟩ := H
  replace H : (impl_way.l0 k l0 a2 y609 t612 (t612.length : Int) 0) = some r := H
  have A4 := Aside0.mk A40
  clear A40
  have H' := Aside0.mk H
  clear H
  go_enter Try.func53, Try.ntmps53
  go_wp2_with (first | ((with_reducible refine gate_dst (N := 12) rfl ?_); refine Kd.R_lit (Kd.int .i64) _ 3 ?hg (N := 12) ?hd (xs := ([] : List Int)) (inner := []) (ok := fun _ => True) (okp := fun _ => True) ?hr ?hp (fun _ hk => hk) trivial (Below.refl _ _) (Nat.le_refl _) (by simp) ?_; (case hd => rfl); (case hg => rfl); (case hr => first | (go_simp; done) | (go_simp; rfl)); (case hp => exact (Reps.none _ _)); intro v610 w5 ho6 hb hg_ hnew_; clear hg_ hnew_; (first | rw [← Ny609.out] at ho6 | (simp only [Int.reduceToNat] at ho6; rw [← Ny609.out] at ho6)); have n0_ := Aside0.mk (Kd.R_lower ho6 (below_size (bq))); have n1_ := Aside0.mk (below_step (bq) hb); clear HB; have HO611 := n0_; have HB := n1_; clear n0_ n1_; clear hb ho6) | ((with_reducible refine gate_callee (f := 47) rfl ?_); refine goesL_ (some 15) rfl rfl Try.func47 (by kernel_rfl) rfl #[.slice A0 l0.length c0, .int .i64 a1] rfl (aq) ?_; (with_reducible refine (impl_enclosing.calls k _ _ l0 a1 t612 _ ?side1 ?side2 A4.out).mono ?_); (case side1 => exact cq (Kd.C_below HR0.out HB.out)); (case side2 => exact HC0.out); rintro e w7 ⟨v613, rfl, ho0, hb⟩; refine ⟨_, rfl, ?_⟩; have n0_ := Aside0.mk (Kd.R_elder' (rq HO611.out) (Kd.R_base ho0) hb); have n1_ := Aside0.mk (Kd.R_lower (Kd.R_new' ho0 (Kd.R_lt (rq HO611.out))) (below_size (bq))); have n2_ := Aside0.mk (below_step (bq) hb); clear HO611; clear HB; have HO611 := n0_; have HO614 := n1_; have HB := n2_; clear n0_ n1_ n2_; (try clear hb); (try clear hb2); (try clear hk); (try clear hi); (try clear ho0); obtain ⟨Ao8, co8, eo8⟩ := Kd.R_slice HO614.out; subst eo8))
  go_loopg [7, 17] k (fun kq v7 v17 w' => ∃ (x7_1 : List Int) (x17_1 : Int), v17 = .int .i64 x17_1 ∧ Aside0 (impl_way.l0 kq l0 a2 x7_1 t612 (t612.length : Int) x17_1 = some r) ∧ Aside0 (kq ≤ k) ∧ Aside0 (Kd.R (Kd.int .i64) 3 w' w.heap.size (fun k_ => some k_ ≠ ((.slice Ao8 t612.length co8) : Value).ownBlock) v7 x7_1) ∧ Aside0 (Kd.R (Kd.int .i64) 3 w' w.heap.size (fun k_ => some k_ ≠ (v7 : Value).ownBlock) (.slice Ao8 t612.length co8) t612) ∧ Aside0 (Below w.heap.size w w'))
  case atStart => exact ⟨(y609), (0), (sq), H', ⟨Nat.le_refl _⟩, ⟨by (with_reducible repeat (first | apply Kd.R_alloc | apply Kd.R_drewN | apply Kd.R_drew)); exact Kd.R_mono HO611.out (fun _ hk => hk.2)⟩, ⟨by (with_reducible repeat (first | apply Kd.R_alloc | apply Kd.R_drewN | apply Kd.R_drew)); exact Kd.R_mono HO614.out (fun _ hk => hk.2)⟩, ⟨bq⟩⟩
  case round =>
    clear H'
    try clear p2
    try clear c4
    try clear c5
    obtain ⟨x7_1, x17_1, rfl, HA, HK1, HO_7, HO_15, HB⟩ := hrel
    cases gk with
    | zero => exact absurd HA.out (by simp [impl_way.l0])
    | succ k1 =>
      have H := HA.out
      clear HA
      simp only [impl_way.l0] at H
      by_cases c9 : x17_1 < (t612.length : Int)
      · rw [if_pos c9] at H
        have c9b0 : decide (x17_1 < (t612.length : Int)) = true := decide_eq_true c9
        clear c9
        by_cases c10 : 0 ≤ x17_1
        · rw [if_pos c10] at H
          have c10b0 : decide (0 ≤ x17_1) = true := decide_eq_true c10
          clear c10
          by_cases c11 : x17_1 < (t612.length : Int)
          · rw [if_pos c11] at H
            have c11b0 : decide (x17_1 < (t612.length : Int)) = true := decide_eq_true c11
            clear c11
            by_cases c12 : (rd t612 x17_1) = a2
            · rw [if_pos c12] at H
              have c12b0 : ((rd t612 x17_1) == a2) = true := beq_iff_eq.mpr c12
              have c12b1 : ((rd t612 x17_1) != a2) = false := bne_eq_false_iff_eq.mpr c12
              clear c12
              replace H := Option.bind_eq_some_iff.mp H
              obtain ⟨t619, A130, H⟩ := H
              replace H : (some t619) = some r := H
              have A13 := Aside0.mk A130
              clear A130
              obtain rfl := Option.some.inj H
              have p618 : 0 ≤ (x17_1 : Int) := of_decide_eq_true (uq)
              have q618 : x17_1 < (t612.length : Int) := of_decide_eq_true (uq)
              obtain ⟨ad618, e618, hx618_0⟩ := Kd.at_int (Kd.R_reads' HO_15.out).2.2 x17_1 p618 q618
              cases e618
              replace p618 := eq_true p618
              replace q618 := eq_true q618
              obtain ⟨Ao14, co14, eo14⟩ := Kd.R_slice HO_7.out
              subst eo14
              go_wp2_with (first | ((with_reducible refine gate_callee (f := 63) rfl ?_); refine goesL_ (some 60) rfl rfl Try.func63 (by kernel_rfl) rfl #[.slice Ao14 x7_1.length co14] rfl (aq) ?_; (with_reducible refine (slices_Clip_int_int.calls (fun k_ => some k_ = (.slice Ao14 x7_1.length co14 : Value).ownBlock) (.slice Ao14 x7_1.length co14) x7_1 t619 w _ ?side1 ?side2 A13.out).mono ?_); (case side1 => repeat (first | (with_reducible first | exact HB.out | apply below_alloc | apply pw_below_drewN | apply below_drew1) | exact HB.out)); (case side2 => exact Kd.R_tight rfl HO_7.out); rintro e w15 ⟨v620, rfl, ho0, hb, hkp⟩; refine ⟨_, rfl, ?_⟩; have n0_ := Aside0.mk (Kd.R_mono (ok' := fun k_ => some k_ ≠ (v620 : Value).ownBlock) (Kd.R_keptB (HO_15.out) hkp (fun k_ hk_ hs_ => (hk_) hs_)) (fun k_ hk_ => fun e_ => Or.elim (ho0.1 k_ e_.symm) (fun hs_ => hk_.2.1 hs_) (fun hn_ => Nat.not_le.2 hk_.2.2 hn_))); have n1_ := Aside0.mk (Kd.R_mono (ok' := fun k_ => some k_ ≠ (.slice (some ad618) t612.length co8 : Value).ownBlock) ho0 (fun k_ hk_ => Or.elim hk_ (fun hs_ => fun e_ => (((HO_15.out).1 k_ e_.symm)) hs_) (fun hn_ => (Kd.fresh' (Kd.R_lt (rq HO_15.out)) k_ hn_)))); have n2_ := Aside0.mk (hb); clear HO_15; clear HB; clear HO_7; have HO_15 := n0_; have HO621 := n1_; have HB := n2_; clear n0_ n1_ n2_; (try clear hb); (try clear hkp); (try clear ho0)))
              go_ret
              exact ⟨_, by first | rfl | (simp [errW_none, errW_some] <;> rfl) | (simp [*, errW_none, errW_some] <;> rfl), by (with_reducible repeat (first | apply Kd.R_alloc | apply Kd.R_drewN | apply Kd.R_drew)); exact Kd.R_mono HO621.out (fun _ hk => trivial), bq⟩
            · rw [if_neg c12] at H
              have c12b0 : ((rd t612 x17_1) == a2) = false := beq_eq_false_iff_ne.mpr c12
              have c12b1 : ((rd t612 x17_1) != a2) = true := bne_iff_ne.mpr c12
              by_cases c16 : 0 ≤ (rd t612 x17_1)
              · rw [if_pos c16] at H
                have c16b0 : decide (0 ≤ (rd t612 x17_1)) = true := decide_eq_true c16
                clear c16
                by_cases c17 : (rd t612 x17_1) < (l0.length : Int)
                · rw [if_pos c17] at H
                  have c17b0 : decide ((rd t612 x17_1) < (l0.length : Int)) = true := decide_eq_true c17
                  clear c17
                  by_cases c18 : ((rd_T50 l0 (rd t612 x17_1)).f1) = 11
                  · rw [if_pos c18] at H
                    have c18b0 : (((rd_T50 l0 (rd t612 x17_1)).f1) == 11) = true := beq_iff_eq.mpr c18
                    have c18b1 : (((rd_T50 l0 (rd t612 x17_1)).f1) != 11) = false := bne_eq_false_iff_eq.mpr c18
                    clear c18
                    by_cases c19 : x7_1.length < 17592186044416
                    · rw [if_pos c19] at H
                      have LMc19 := Aside0.mk c19
                      clear c19
                      obtain ⟨y623, hy623⟩ : ∃ y_ : List Int, y_ = (x7_1 ++ [rd t612 x17_1]) := ⟨_, rfl⟩
                      replace H : (impl_way.l0 k1 l0 a2 y623 t612 (t612.length : Int) (wrap64 (x17_1 + 1))) = some r := by first | (rw [hy623]; with_reducible exact H) | (have H2_ := (Option.bind_some _ _).symm.trans H; rw [hy623]; with_reducible exact H2_) | (have H2_ := (Option.bind_some _ _).symm.trans H; with_reducible exact H2_) | with_reducible exact H | (rw [hy623]; exact H) | exact H
                      have Ny623 := Aside0.mk hy623
                      clear hy623
                      have H' := Aside0.mk H
                      clear H
                      have p618 : 0 ≤ (x17_1 : Int) := of_decide_eq_true (uq)
                      have q618 : x17_1 < (t612.length : Int) := of_decide_eq_true (uq)
                      obtain ⟨ad618, e618, hx618_0⟩ := Kd.at_int (Kd.R_reads' HO_15.out).2.2 x17_1 p618 q618
                      cases e618
                      replace p618 := eq_true p618
                      replace q618 := eq_true q618
                      have p622 : 0 ≤ ((rd t612 x17_1) : Int) := of_decide_eq_true (uq)
                      have q622 : (rd t612 x17_1) < (l0.length : Int) := of_decide_eq_true (uq)
                      obtain ⟨ad622, e622, hx622_0, hx622_1, hx622_2, hx622_3⟩ := at_T50 HR0.out (rd t612 x17_1) p622 q622
                      cases e622
                      replace hx622_0 := (HB.out.cell (World.block_lt_of_cell? w _ hx622_0)).trans hx622_0
                      replace hx622_1 := (HB.out.cell (World.block_lt_of_cell? w _ hx622_1)).trans hx622_1
                      replace hx622_2 := (HB.out.cell (World.block_lt_of_cell? w _ hx622_2)).trans hx622_2
                      replace hx622_3 := (HB.out.cell (World.block_lt_of_cell? w _ hx622_3)).trans hx622_3
                      replace p622 := eq_true p622
                      replace q622 := eq_true q622
                      go_wp2_with (first | ((with_reducible refine gate_builtin (b := .append) (xs := #[.tmp 31, .tmp 33]) rfl ?_); at_builtin; refine Kd.R_append (Kd.int .i64) (w0 := w) w.heap.size rfl (.tmp 31) (.tmp 33) 38 3 (.int .i64 0) 8 rfl Try.underlying38 info3 rfl (by decide) (by omega) u7 x7_1 (rd t612 x17_1) [.int .i64 (rd t612 x17_1)] (fun k_ => some k_ ≠ (.slice (some ad618) t612.length co8 : Value).ownBlock) (fun _ => False) rfl rfl ?aP (fun _ hk => hk.elim) ?aF ?aO ?aB ?aS ?aL ?_; (case aP => exact rfl); (case aB => exact (bq)); (case aF => exact (fun k_ hk => Kd.fresh' (Kd.R_lt (rq HO_15.out)) k_ hk)); (case aO => exact (rq HO_7.out)); (case aS => exact (below_size (bq))); (case aL => have := LMc19.out; omega); intro v624 w20 ho hb hg hat; rw [← Ny623.out] at ho; have n0_ := Aside0.mk (Kd.R_after (ok := (fun _ => True)) (by (with_reducible repeat (first | apply Kd.R_alloc | apply Kd.R_drewN | apply Kd.R_drew)); exact Kd.R_mono HO_15.out (fun _ hk => ⟨trivial, hk⟩)) hg hat); have n1_ := Aside0.mk (hb); have n2_ := Aside0.mk (ho); clear HO_15; clear HB; clear HO_7; have HO_15 := n0_; have HB := n1_; have HO625 := n2_; clear n0_ n1_ n2_; clear ho hb hg hat))
                      go_roundg k1
                      case measure => have := HK1.out; omega
                      case rel => exact ⟨(y623), (wrap64 (x17_1 + 1)), (sq), H', ⟨by have := HK1.out; omega⟩, ⟨rq HO625.out⟩, ⟨by (with_reducible repeat (first | apply Kd.R_alloc | apply Kd.R_drewN | apply Kd.R_drew)); exact Kd.R_mono HO_15.out (fun _ hk => hk.2)⟩, ⟨bq⟩⟩
                    · rw [if_neg c19] at H
                      exact absurd H (by simp)
                  · rw [if_neg c18] at H
                    have c18b0 : (((rd_T50 l0 (rd t612 x17_1)).f1) == 11) = false := beq_eq_false_iff_ne.mpr c18
                    have c18b1 : (((rd_T50 l0 (rd t612 x17_1)).f1) != 11) = true := bne_iff_ne.mpr c18
                    have HC21 := Aside0.mk H
                    clear H
                    have p618 : 0 ≤ (x17_1 : Int) := of_decide_eq_true (uq)
                    have q618 : x17_1 < (t612.length : Int) := of_decide_eq_true (uq)
                    obtain ⟨ad618, e618, hx618_0⟩ := Kd.at_int (Kd.R_reads' HO_15.out).2.2 x17_1 p618 q618
                    cases e618
                    replace p618 := eq_true p618
                    replace q618 := eq_true q618
                    have p622 : 0 ≤ ((rd t612 x17_1) : Int) := of_decide_eq_true (uq)
                    have q622 : (rd t612 x17_1) < (l0.length : Int) := of_decide_eq_true (uq)
                    obtain ⟨ad622, e622, hx622_0, hx622_1, hx622_2, hx622_3⟩ := at_T50 HR0.out (rd t612 x17_1) p622 q622
                    cases e622
                    replace hx622_0 := (HB.out.cell (World.block_lt_of_cell? w _ hx622_0)).trans hx622_0
                    replace hx622_1 := (HB.out.cell (World.block_lt_of_cell? w _ hx622_1)).trans hx622_1
                    replace hx622_2 := (HB.out.cell (World.block_lt_of_cell? w _ hx622_2)).trans hx622_2
                    replace hx622_3 := (HB.out.cell (World.block_lt_of_cell? w _ hx622_3)).trans hx622_3
                    replace p622 := eq_true p622
                    replace q622 := eq_true q622
                    go_upto_if 35 with (fail)
                    go_cut [35] (fun v35 wc => ∃ (kq : Nat) (x35_20 : Bool), v35 = .bool x35_20 ∧ Aside0 (impl_way.j1 kq l0 a2 x7_1 (rd t612 x17_1) t612 (t612.length : Int) x17_1 x35_20 = some r) ∧ Aside0 (kq ≤ k1) ∧ Aside0 (Kd.R (Kd.int .i64) 3 wc w.heap.size (fun k_ => some k_ ≠ ((.slice (some ad618) t612.length co8) : Value).ownBlock) u7 x7_1) ∧ Aside0 (Kd.R (Kd.int .i64) 3 wc w.heap.size (fun k_ => some k_ ≠ (u7 : Value).ownBlock) (.slice (some ad618) t612.length co8) t612) ∧ Aside0 (Below w.heap.size w wc))
                    case first =>
                      have H := HC21.out
                      clear HC21
                      by_cases c22 : ((rd_T50 l0 (rd t612 x17_1)).f1) = 7
                      · rw [if_pos c22] at H
                        have c22b0 : (((rd_T50 l0 (rd t612 x17_1)).f1) == 7) = true := beq_iff_eq.mpr c22
                        have c22b1 : (((rd_T50 l0 (rd t612 x17_1)).f1) != 7) = false := bne_eq_false_iff_eq.mpr c22
                        clear c22
                        (first | rw [c22b0] | (simp only [i64_w, i32_w]; rw [c22b0]) | skip)
                        have H' := Aside0.mk H
                        clear H
                        go_wp2
                        go_meet
                        case rel => exact ⟨_, ((((rd_T50 l0 (rd t612 x17_1)).f1) == 7)), (sq), H', ⟨by have := HK1.out; first | omega | exact Nat.le_refl _⟩, ⟨rq HO_7.out⟩, ⟨rq HO_15.out⟩, ⟨bq⟩⟩
                      · rw [if_neg c22] at H
                        have c22b0 : (((rd_T50 l0 (rd t612 x17_1)).f1) == 7) = false := beq_eq_false_iff_ne.mpr c22
                        have c22b1 : (((rd_T50 l0 (rd t612 x17_1)).f1) != 7) = true := bne_iff_ne.mpr c22
                        (first | rw [c22b0] | (simp only [i64_w, i32_w]; rw [c22b0]) | skip)
                        by_cases c23 : ((rd_T50 l0 (rd t612 x17_1)).f1) = 8
                        · rw [if_pos c23] at H
                          have c23b0 : (((rd_T50 l0 (rd t612 x17_1)).f1) == 8) = true := beq_iff_eq.mpr c23
                          have c23b1 : (((rd_T50 l0 (rd t612 x17_1)).f1) != 8) = false := bne_eq_false_iff_eq.mpr c23
                          clear c23
                          have H' := Aside0.mk H
                          clear H
                          go_wp2
                          go_meet
                          case rel => exact ⟨_, ((((rd_T50 l0 (rd t612 x17_1)).f1) == 8)), (sq), H', ⟨by have := HK1.out; first | omega | exact Nat.le_refl _⟩, ⟨rq HO_7.out⟩, ⟨rq HO_15.out⟩, ⟨bq⟩⟩
                        · rw [if_neg c23] at H
                          have c23b0 : (((rd_T50 l0 (rd t612 x17_1)).f1) == 8) = false := beq_eq_false_iff_ne.mpr c23
                          have c23b1 : (((rd_T50 l0 (rd t612 x17_1)).f1) != 8) = true := bne_iff_ne.mpr c23
                          have H' := Aside0.mk H
                          clear H
                          go_wp2
                          go_meet
                          case rel => exact ⟨_, ((((rd_T50 l0 (rd t612 x17_1)).f1) == 9)), (sq), H', ⟨by have := HK1.out; first | omega | exact Nat.le_refl _⟩, ⟨rq HO_7.out⟩, ⟨rq HO_15.out⟩, ⟨bq⟩⟩
                    case rest =>
                      clear HC21
                      try clear c1
                      try clear c2
                      try clear p2
                      try clear c4
                      try clear c5
                      try clear c6
                      try clear p6
                      try clear q6
                      try clear hx6
                      try clear c9
                      try clear c9b0
                      try clear c10
                      try clear c10b0
                      try clear c11
                      try clear c11b0
                      try clear c12
                      try clear c12b0
                      try clear c12b1
                      try clear c16
                      try clear c16b0
                      try clear c17
                      try clear c17b0
                      try clear c18
                      try clear c18b0
                      try clear c18b1
                      try clear c19
                      try clear c22
                      try clear c22b0
                      try clear c22b1
                      try clear c23
                      try clear c23b0
                      try clear c23b1
                      try clear hx618_0
                      try clear hx622_0
                      try clear hx622_1
                      try clear hx622_2
                      try clear hx622_3
                      try clear p2
                      try clear p618
                      try clear p622
                      try clear q618
                      try clear q622
                      obtain ⟨kq, x35_20, rfl, HA, HJ20, HO_7, HO_15, HB⟩ := hcut
                      cases kq with
                      | zero => exact absurd HA.out (by simp [impl_way.j1])
                      | succ kj20 =>
                        have H := HA.out
                        clear HA
                        simp only [impl_way.j1] at H
                        by_cases c24 : x35_20 = true
                        · subst c24
                          have H1 : ((impl_tryOf.f kj20 l0 (rd t612 x17_1)).bind fun t626 => (if 0 ≤ (wrap64 ((t626.length : Int) - 1)) then (if (wrap64 ((t626.length : Int) - 1)) < (t626.length : Int) then (if 0 ≤ (rd t626 (wrap64 ((t626.length : Int) - 1))) then (if (rd t626 (wrap64 ((t626.length : Int) - 1))) < (l0.length : Int) then (if ((rd_T50 l0 (rd t626 (wrap64 ((t626.length : Int) - 1)))).f1) = 10 then (if x7_1.length < 17592186044416 then (impl_way.l0 kj20 l0 a2 (x7_1 ++ [rd t626 (wrap64 ((t626.length : Int) - 1))]) t612 (t612.length : Int) (wrap64 (x17_1 + 1))) else (none)) else (impl_way.l0 kj20 l0 a2 x7_1 t612 (t612.length : Int) (wrap64 (x17_1 + 1)))) else (none)) else (none)) else (none)) else (none))) = some r := by rw [if_pos rfl] at H; exact H
                          clear H
                          have H := H1
                          clear H1
                          replace H := Option.bind_eq_some_iff.mp H
                          obtain ⟨t626, A250, H⟩ := H
                          replace H : (if 0 ≤ (wrap64 ((t626.length : Int) - 1)) then (if (wrap64 ((t626.length : Int) - 1)) < (t626.length : Int) then (if 0 ≤ (rd t626 (wrap64 ((t626.length : Int) - 1))) then (if (rd t626 (wrap64 ((t626.length : Int) - 1))) < (l0.length : Int) then (if ((rd_T50 l0 (rd t626 (wrap64 ((t626.length : Int) - 1)))).f1) = 10 then (if x7_1.length < 17592186044416 then (impl_way.l0 kj20 l0 a2 (x7_1 ++ [rd t626 (wrap64 ((t626.length : Int) - 1))]) t612 (t612.length : Int) (wrap64 (x17_1 + 1))) else (none)) else (impl_way.l0 kj20 l0 a2 x7_1 t612 (t612.length : Int) (wrap64 (x17_1 + 1)))) else (none)) else (none)) else (none)) else (none)) = some r := H
                          have A25 := Aside0.mk A250
                          clear A250
                          obtain ⟨ji26, hji26⟩ : ∃ j_ : Int, (wrap64 ((t626.length : Int) - 1)) = j_ := ⟨_, rfl⟩
                          replace H : (if 0 ≤ (ji26) then (if (ji26) < (t626.length : Int) then (if 0 ≤ (rd t626 (ji26)) then (if (rd t626 (ji26)) < (l0.length : Int) then (if ((rd_T50 l0 (rd t626 (ji26))).f1) = 10 then (if x7_1.length < 17592186044416 then (impl_way.l0 kj20 l0 a2 (x7_1 ++ [rd t626 (ji26)]) t612 (t612.length : Int) (wrap64 (x17_1 + 1))) else (none)) else (impl_way.l0 kj20 l0 a2 x7_1 t612 (t612.length : Int) (wrap64 (x17_1 + 1)))) else (none)) else (none)) else (none)) else (none)) = some r := by first | (rw [hji26] at H; exact H) | (simp only [hji26] at H ⊢; exact H)
                          (try rw [hji26] at A25)
                          have hji26w : (IntKind.i64.wrap ((t626.length : Int) - 1)) = ji26 := (i64_w _).trans hji26
                          by_cases c27 : 0 ≤ (ji26)
                          · rw [if_pos c27] at H
                            have c27b0 : decide (0 ≤ (ji26)) = true := decide_eq_true c27
                            clear c27
                            by_cases c28 : (ji26) < (t626.length : Int)
                            · rw [if_pos c28] at H
                              have c28b0 : decide ((ji26) < (t626.length : Int)) = true := decide_eq_true c28
                              clear c28
                              by_cases c29 : 0 ≤ (rd t626 (ji26))
                              · rw [if_pos c29] at H
                                have c29b0 : decide (0 ≤ (rd t626 (ji26))) = true := decide_eq_true c29
                                clear c29
                                by_cases c30 : (rd t626 (ji26)) < (l0.length : Int)
                                · rw [if_pos c30] at H
                                  have c30b0 : decide ((rd t626 (ji26)) < (l0.length : Int)) = true := decide_eq_true c30
                                  clear c30
                                  by_cases c31 : ((rd_T50 l0 (rd t626 (ji26))).f1) = 10
                                  · rw [if_pos c31] at H
                                    have c31b0 : (((rd_T50 l0 (rd t626 (ji26))).f1) == 10) = true := beq_iff_eq.mpr c31
                                    have c31b1 : (((rd_T50 l0 (rd t626 (ji26))).f1) != 10) = false := bne_eq_false_iff_eq.mpr c31
                                    clear c31
                                    by_cases c32 : x7_1.length < 17592186044416
                                    · rw [if_pos c32] at H
                                      have LMc32 := Aside0.mk c32
                                      clear c32
                                      obtain ⟨y631, hy631⟩ : ∃ y_ : List Int, y_ = (x7_1 ++ [rd t626 (ji26)]) := ⟨_, rfl⟩
                                      replace H : (impl_way.l0 kj20 l0 a2 y631 t612 (t612.length : Int) (wrap64 (x17_1 + 1))) = some r := by first | (rw [hy631]; with_reducible exact H) | (have H2_ := (Option.bind_some _ _).symm.trans H; rw [hy631]; with_reducible exact H2_) | (have H2_ := (Option.bind_some _ _).symm.trans H; with_reducible exact H2_) | with_reducible exact H | (rw [hy631]; exact H) | exact H
                                      have Ny631 := Aside0.mk hy631
                                      clear hy631
                                      have H' := Aside0.mk H
                                      clear H
                                      go_wp2_with (first | ((with_reducible refine gate_callee (f := 45) rfl ?_); refine goesL_ (some 41) rfl rfl Try.func45 (by kernel_rfl) rfl #[.slice (some ad622) l0.length c0, .int .i64 (rd t612 x17_1)] rfl (aq) ?_; (with_reducible refine (impl_tryOf.calls kj20 _ _ l0 (rd t612 x17_1) t626 _ ?side1 ?side2 A25.out).mono ?_); (case side1 => exact cq (Kd.C_below HR0.out HB.out)); (case side2 => exact HC0.out); rintro e w33 ⟨v627, rfl, ho0, hb⟩; refine ⟨_, rfl, ?_⟩; have n0_ := Aside0.mk (Kd.R_elder' (rq HO_7.out) (Kd.R_base ho0) hb); have n1_ := Aside0.mk (Kd.R_elder' (rq HO_15.out) (Kd.R_base ho0) hb); have n2_ := Aside0.mk (Kd.R_lower (Kd.R_new' (Kd.R_new' ho0 (Kd.R_lt (rq HO_7.out))) (Kd.R_lt (rq HO_15.out))) (below_size (bq))); have n3_ := Aside0.mk (below_step (bq) hb); clear HO_7; clear HO_15; clear HB; have HO_7 := n0_; have HO_15 := n1_; have HO628 := n2_; have HB := n3_; clear n0_ n1_ n2_ n3_; (try clear hb); (try clear hb2); (try clear hk); (try clear hi); (try clear ho0); obtain ⟨Ao34, co34, eo34⟩ := Kd.R_slice HO628.out; subst eo34; have p629 : 0 ≤ ((ji26) : Int) := of_decide_eq_true (uq); have q629 : (ji26) < (t626.length : Int) := of_decide_eq_true (uq); obtain ⟨ad629, e629, hx629_0⟩ := Kd.at_int (Kd.R_reads' HO628.out).2.2 (ji26) p629 q629; cases e629; replace p629 := eq_true p629; replace q629 := eq_true q629; have p630 : 0 ≤ ((rd t626 (ji26)) : Int) := of_decide_eq_true (uq); have q630 : (rd t626 (ji26)) < (l0.length : Int) := of_decide_eq_true (uq); obtain ⟨ad630, e630, hx630_0, hx630_1, hx630_2, hx630_3⟩ := at_T50 HR0.out (rd t626 (ji26)) p630 q630; obtain rfl : ad622 = ad630 := (by injection e630); replace hx630_0 := (HB.out.cell (World.block_lt_of_cell? w _ hx630_0)).trans hx630_0; replace hx630_1 := (HB.out.cell (World.block_lt_of_cell? w _ hx630_1)).trans hx630_1; replace hx630_2 := (HB.out.cell (World.block_lt_of_cell? w _ hx630_2)).trans hx630_2; replace hx630_3 := (HB.out.cell (World.block_lt_of_cell? w _ hx630_3)).trans hx630_3; replace p630 := eq_true p630; replace q630 := eq_true q630) | ((with_reducible refine gate_builtin (b := .append) (xs := #[.tmp 54, .tmp 56]) rfl ?_); at_builtin; refine Kd.R_append (Kd.int .i64) (w0 := w) w.heap.size rfl (.tmp 54) (.tmp 56) 38 3 (.int .i64 0) 8 rfl Try.underlying38 info3 rfl (by decide) (by omega) u7 x7_1 (rd t626 (ji26)) [.int .i64 (rd t626 (ji26))] (fun k_ => some k_ ≠ (.slice (some ad618) t612.length co8 : Value).ownBlock ∧ some k_ ≠ (.slice (some ad629) t626.length co34 : Value).ownBlock) (fun _ => False) rfl rfl ?aP (fun _ hk => hk.elim) ?aF ?aO ?aB ?aS ?aL ?_; (case aP => exact rfl); (case aB => exact (bq)); (case aF => exact (fun k_ hk => ⟨Kd.fresh' (Kd.R_lt (rq HO_15.out)) k_ hk, Kd.fresh' (Kd.R_lt (rq HO628.out)) k_ hk⟩)); (case aO => exact (rq HO_7.out)); (case aS => exact (below_size (bq))); (case aL => have := LMc32.out; omega); intro v632 w35 ho hb hg hat; rw [← Ny631.out] at ho; have n0_ := Aside0.mk (Kd.R_after (ok := (fun k_ => some k_ ≠ (.slice (some ad629) t626.length co34 : Value).ownBlock)) (by (with_reducible repeat (first | apply Kd.R_alloc | apply Kd.R_drewN | apply Kd.R_drew)); exact Kd.R_mono HO_15.out (fun _ hk => ⟨hk.2, hk.1⟩)) hg hat); have n1_ := Aside0.mk (Kd.R_after (ok := (fun k_ => some k_ ≠ (.slice (some ad618) t612.length co8 : Value).ownBlock)) (by (with_reducible repeat (first | apply Kd.R_alloc | apply Kd.R_drewN | apply Kd.R_drew)); exact Kd.R_mono HO628.out (fun _ hk => ⟨hk.2, hk.1.2⟩)) hg hat); have n2_ := Aside0.mk (hb); have n3_ := Aside0.mk (ho); clear HO_15; clear HO628; clear HB; clear HO_7; have HO_15 := n0_; have HO628 := n1_; have HB := n2_; have HO633 := n3_; clear n0_ n1_ n2_ n3_; clear ho hb hg hat))
                                      go_roundg kj20
                                      case measure => have := HK1.out; have := HJ20.out; omega
                                      case rel => exact ⟨(y631), (wrap64 (x17_1 + 1)), (sq), H', ⟨by have := HK1.out; have := HJ20.out; omega⟩, ⟨by (with_reducible repeat (first | apply Kd.R_alloc | apply Kd.R_drewN | apply Kd.R_drew)); exact Kd.R_mono HO633.out (fun _ hk => hk.1)⟩, ⟨by (with_reducible repeat (first | apply Kd.R_alloc | apply Kd.R_drewN | apply Kd.R_drew)); exact Kd.R_mono HO_15.out (fun _ hk => hk.2)⟩, ⟨bq⟩⟩
                                    · rw [if_neg c32] at H
                                      exact absurd H (by simp)
                                  · rw [if_neg c31] at H
                                    have c31b0 : (((rd_T50 l0 (rd t626 (ji26))).f1) == 10) = false := beq_eq_false_iff_ne.mpr c31
                                    have c31b1 : (((rd_T50 l0 (rd t626 (ji26))).f1) != 10) = true := bne_iff_ne.mpr c31
                                    have H' := Aside0.mk H
                                    clear H
                                    go_wp2_with (first | ((with_reducible refine gate_callee (f := 45) rfl ?_); refine goesL_ (some 41) rfl rfl Try.func45 (by kernel_rfl) rfl #[.slice (some ad622) l0.length c0, .int .i64 (rd t612 x17_1)] rfl (aq) ?_; (with_reducible refine (impl_tryOf.calls kj20 _ _ l0 (rd t612 x17_1) t626 _ ?side1 ?side2 A25.out).mono ?_); (case side1 => exact cq (Kd.C_below HR0.out HB.out)); (case side2 => exact HC0.out); rintro e w36 ⟨v627, rfl, ho0, hb⟩; refine ⟨_, rfl, ?_⟩; have n0_ := Aside0.mk (Kd.R_elder' (rq HO_7.out) (Kd.R_base ho0) hb); have n1_ := Aside0.mk (Kd.R_elder' (rq HO_15.out) (Kd.R_base ho0) hb); have n2_ := Aside0.mk (Kd.R_lower (Kd.R_new' (Kd.R_new' ho0 (Kd.R_lt (rq HO_7.out))) (Kd.R_lt (rq HO_15.out))) (below_size (bq))); have n3_ := Aside0.mk (below_step (bq) hb); clear HO_7; clear HO_15; clear HB; have HO_7 := n0_; have HO_15 := n1_; have HO628 := n2_; have HB := n3_; clear n0_ n1_ n2_ n3_; (try clear hb); (try clear hb2); (try clear hk); (try clear hi); (try clear ho0); obtain ⟨Ao37, co37, eo37⟩ := Kd.R_slice HO628.out; subst eo37; have p629 : 0 ≤ ((ji26) : Int) := of_decide_eq_true (uq); have q629 : (ji26) < (t626.length : Int) := of_decide_eq_true (uq); obtain ⟨ad629, e629, hx629_0⟩ := Kd.at_int (Kd.R_reads' HO628.out).2.2 (ji26) p629 q629; cases e629; replace p629 := eq_true p629; replace q629 := eq_true q629; have p630 : 0 ≤ ((rd t626 (ji26)) : Int) := of_decide_eq_true (uq); have q630 : (rd t626 (ji26)) < (l0.length : Int) := of_decide_eq_true (uq); obtain ⟨ad630, e630, hx630_0, hx630_1, hx630_2, hx630_3⟩ := at_T50 HR0.out (rd t626 (ji26)) p630 q630; obtain rfl : ad622 = ad630 := (by injection e630); replace hx630_0 := (HB.out.cell (World.block_lt_of_cell? w _ hx630_0)).trans hx630_0; replace hx630_1 := (HB.out.cell (World.block_lt_of_cell? w _ hx630_1)).trans hx630_1; replace hx630_2 := (HB.out.cell (World.block_lt_of_cell? w _ hx630_2)).trans hx630_2; replace hx630_3 := (HB.out.cell (World.block_lt_of_cell? w _ hx630_3)).trans hx630_3; replace p630 := eq_true p630; replace q630 := eq_true q630))
                                    go_roundg kj20
                                    case measure => have := HK1.out; have := HJ20.out; omega
                                    case rel => exact ⟨(x7_1), (wrap64 (x17_1 + 1)), (sq), H', ⟨by have := HK1.out; have := HJ20.out; omega⟩, ⟨by (with_reducible repeat (first | apply Kd.R_alloc | apply Kd.R_drewN | apply Kd.R_drew)); exact Kd.R_mono HO_7.out (fun _ hk => hk.1)⟩, ⟨by (with_reducible repeat (first | apply Kd.R_alloc | apply Kd.R_drewN | apply Kd.R_drew)); exact Kd.R_mono HO_15.out (fun _ hk => hk.1)⟩, ⟨bq⟩⟩
                                · rw [if_neg c30] at H
                                  exact absurd H (by simp)
                              · rw [if_neg c29] at H
                                exact absurd H (by simp)
                            · rw [if_neg c28] at H
                              exact absurd H (by simp)
                          · rw [if_neg c27] at H
                            exact absurd H (by simp)
                        · replace c24 := Bool.eq_false_iff.mpr c24
                          subst c24
                          have H1 : (impl_way.l0 kj20 l0 a2 x7_1 t612 (t612.length : Int) (wrap64 (x17_1 + 1))) = some r := by rw [if_neg (show ¬ (false = true) by decide)] at H; exact H
                          clear H
                          have H := H1
                          clear H1
                          have H' := Aside0.mk H
                          clear H
                          go_wp2
                          go_roundg kj20
                          case measure => have := HK1.out; have := HJ20.out; omega
                          case rel => exact ⟨(x7_1), (wrap64 (x17_1 + 1)), (sq), H', ⟨by have := HK1.out; have := HJ20.out; omega⟩, ⟨rq HO_7.out⟩, ⟨rq HO_15.out⟩, ⟨bq⟩⟩
                · rw [if_neg c17] at H
                  exact absurd H (by simp)
              · rw [if_neg c16] at H
                exact absurd H (by simp)
          · rw [if_neg c11] at H
            exact absurd H (by simp)
        · rw [if_neg c10] at H
          exact absurd H (by simp)
      · rw [if_neg c9] at H
        have c9b0 : decide (x17_1 < (t612.length : Int)) = false := decide_eq_false c9
        clear c9
        replace H := Option.bind_eq_some_iff.mp H
        obtain ⟨t615, A380, H⟩ := H
        replace H : (some t615) = some r := H
        have A38 := Aside0.mk A380
        clear A380
        obtain rfl := Option.some.inj H
        obtain ⟨Ao39, co39, eo39⟩ := Kd.R_slice HO_7.out
        subst eo39
        go_wp2_with (first | ((with_reducible refine gate_callee (f := 63) rfl ?_); refine goesL_ (some 60) rfl rfl Try.func63 (by kernel_rfl) rfl #[.slice Ao39 x7_1.length co39] rfl (aq) ?_; (with_reducible refine (slices_Clip_int_int.calls (fun k_ => some k_ = (.slice Ao39 x7_1.length co39 : Value).ownBlock) (.slice Ao39 x7_1.length co39) x7_1 t615 w _ ?side1 ?side2 A38.out).mono ?_); (case side1 => repeat (first | (with_reducible first | exact HB.out | apply below_alloc | apply pw_below_drewN | apply below_drew1) | exact HB.out)); (case side2 => exact Kd.R_tight rfl HO_7.out); rintro e w40 ⟨v616, rfl, ho0, hb, hkp⟩; refine ⟨_, rfl, ?_⟩; have n0_ := Aside0.mk (Kd.R_mono (ok' := fun k_ => some k_ ≠ (v616 : Value).ownBlock) (Kd.R_keptB (HO_15.out) hkp (fun k_ hk_ hs_ => (hk_) hs_)) (fun k_ hk_ => fun e_ => Or.elim (ho0.1 k_ e_.symm) (fun hs_ => hk_.2.1 hs_) (fun hn_ => Nat.not_le.2 hk_.2.2 hn_))); have n1_ := Aside0.mk (Kd.R_mono (ok' := fun k_ => some k_ ≠ (.slice Ao8 t612.length co8 : Value).ownBlock) ho0 (fun k_ hk_ => Or.elim hk_ (fun hs_ => fun e_ => (((HO_15.out).1 k_ e_.symm)) hs_) (fun hn_ => (Kd.fresh' (Kd.R_lt (rq HO_15.out)) k_ hn_)))); have n2_ := Aside0.mk (hb); clear HO_15; clear HB; clear HO_7; have HO_15 := n0_; have HO617 := n1_; have HB := n2_; clear n0_ n1_ n2_; (try clear hb); (try clear hkp); (try clear ho0)))
        go_ret
        exact ⟨_, by first | rfl | (simp [errW_none, errW_some] <;> rfl) | (simp [*, errW_none, errW_some] <;> rfl), by (with_reducible repeat (first | apply Kd.R_alloc | apply Kd.R_drewN | apply Kd.R_drew)); exact Kd.R_mono HO617.out (fun _ hk => trivial), bq⟩
end Go.Proofs.Ytbclgpgolbmlpaa.P
end

section
namespace Go.Proofs.Ytbclgpgolbmlpaa.P
open Go.RowKit Go.Proofs.YtbclgpgolbmlpaaW.PrintWords Go.Proofs.YtbclgpgolbmlpaaW.PrintLast Go.Proofs.YtbclgpgolbmlpaaW.PrintMore
attribute [local go_sem] max2_int min2_int max_two min_two max_three min_three max_four min_four isSome_cell_setCell   -- for this text's walks alone
set_option linter.unusedVariables false
set_option linter.unusedSimpArgs false
def impl_WayOut.f (k : Nat) (l0_0 : List (S68)) (l1 : List (S50)) (a2 : Int) : Option (List Int) := (impl_lineIn.f k l0_0 l1 a2).bind fun t635 => (if t635 = true then ((impl_way.f k l1 a2 (-1)).bind fun t636 => (some t636)) else (some ([] : List Int)))
theorem impl_WayOut.mono : ∀ a0 a1 a2 k, LeO (impl_WayOut.f k a0 a1 a2) (impl_WayOut.f (k + 1) a0 a1 a2) := by
  intro a0 a1 a2 k
  unfold impl_WayOut.f
  repeat' first
      | (with_reducible exact impl_lineIn.mono _ _ _ _)
      | (with_reducible exact impl_way.mono _ _ _ _)
      | (with_reducible exact LeO.refl _)
      | (with_reducible exact LeO.none _)
      | (with_reducible refine LeO.ite ?_ ?_)
      | (with_reducible refine LeO.bind ?_ (fun _ => ?_))
      | exact impl_lineIn.mono _ _ _ _
      | exact impl_way.mono _ _ _ _
      | exact LeO.none _
      | refine LeO.ite ?_ ?_
      | refine LeO.bind ?_ (fun _ => ?_)
set_option maxHeartbeats 8000000 in
set_option maxRecDepth 100000 in
theorem impl_WayOut.calls (k : Nat) (A0_0 : Option Addr) (c0_0 : Nat) (l0_0 : List (S68)) (A1 : Option Addr) (c1 : Nat) (l1 : List (S50)) (a2 : Int) (r : List Int) (w : World) (hr0_0 : Kd.C k68 w A0_0 l0_0.length l0_0) (hc0_0 : l0_0.length ≤ c0_0) (hr1 : Kd.C k50 w A1 l1.length l1) (hc1 : l1.length ≤ c1) (h : impl_WayOut.f k l0_0 l1 a2 = some r) :
    Calls Try.prog 29 #[.agg #[.slice A0_0 l0_0.length c0_0], .slice A1 l1.length c1, .int .i64 a2] w fun e w' => ∃ v0_ : Value, e = .returned (v0_) ∧ Kd.R (Kd.int .i64) 3 w' w.heap.size (fun _ => True) v0_ r ∧ Below w.heap.size w w' := by
  have hu31 := Try.underlying31
  have HR0_0 := Aside0.mk hr0_0
  have HC0_0 := Aside0.mk hc0_0
  clear hr0_0 hc0_0
  have HR1 := Aside0.mk hr1
  have HC1 := Aside0.mk hc1
  clear hr1 hc1
  have HB := Aside0.mk (Below.refl w.heap.size w)
  have H : ((impl_lineIn.f k l0_0 l1 a2).bind fun t635 => (if t635 = true then ((impl_way.f k l1 a2 (-1)).bind fun t636 => (some t636)) else (some ([] : List Int)))) = some r := h
  clear h
  replace H := Option.bind_eq_some_iff.mp H
  obtain ⟨t635, A40, H⟩ := H
  replace H : (if t635 = true then ((impl_way.f k l1 a2 (-1)).bind fun t636 => (some t636)) else (some ([] : List Int))) = some r := H
  have A4 := Aside0.mk A40
  clear A40
  by_cases c5 : t635 = true
  · subst c5
    have H1 : ((impl_way.f k l1 a2 (-1)).bind fun t636 => (some t636)) = some r := by rw [if_pos rfl] at H; exact H
    clear H
    have H := H1
    clear H1
    replace H := Option.bind_eq_some_iff.mp H
    obtain ⟨t636, A60, H⟩ := H
    replace H : (some t636) = some r := H
    have A6 := Aside0.mk A60
    clear A60
    obtain rfl := Option.some.inj H
    go_enter Try.func29, Try.ntmps29
    go_wp2_with (first | ((with_reducible refine gate_dst (N := 3) rfl ?_); refine box_event ?hg (N := 3) ?hd (cs := #[.slice A0_0 l0_0.length c0_0]) (t := 31) ?hr ?_; (case hd => rfl); (case hg => rfl); (case hr => first | (go_simp; done) | (go_simp; rfl)); intro gb634 hg w7 hbox hb; have n0_ := Aside0.mk (below_step (bq) hb); have n1_ := Aside0.mk (hbox); have n2_ := Aside0.mk ((by rw [hg]; exact (below_size (bq)) : w.heap.size ≤ gb634)); have n3_ := Aside0.mk ((by rw [hg]; exact (below_size (bq)) : w.heap.size ≤ gb634)); clear HB; have HB := n0_; have BK634 := n1_; have GW634 := n2_; have GE634 := n3_; clear n0_ n1_ n2_ n3_; clear hb hbox hg; have hcz8_0 : w7.cell? ⟨gb634, 0, none⟩ = some (.slice A0_0 l0_0.length c0_0) := (blk_cell BK634.out 0).trans rfl; have hfz8_0 := blk_frozen BK634.out 0) | ((with_reducible refine gate_callee (f := 37) rfl ?_); refine goesL_ (some 10) rfl rfl Try.func37 (by kernel_rfl) rfl #[.agg #[.slice A0_0 l0_0.length c0_0], .slice A1 l1.length c1, .int .i64 a2] rfl (aq) ?_; (with_reducible refine (impl_lineIn.calls k _ _ l0_0 _ _ l1 a2 true _ ?side1 ?side2 ?side3 ?side4 A4.out).mono ?_); (case side1 => exact cq (Kd.C_below HR0_0.out HB.out)); (case side2 => exact HC0_0.out); (case side3 => repeat (first | exact (Kd.C_below HR1.out HB.out) | (with_reducible refine Kd.C_alloc ?_ _) | (with_reducible refine Kd.C_drewN ?_ _) | (with_reducible refine Kd.C_drew ?_))); (case side4 => exact HC1.out); rintro e w9 ⟨rfl, hb⟩; refine ⟨_, rfl, ?_⟩; have n0_ := Aside0.mk (blk_below (g := gb634) (o := .cells #[.slice A0_0 l0_0.length c0_0] 31 (0, 0)) (kq BK634.out) hb); have n1_ := Aside0.mk (below_step (by repeat (first | (with_reducible first | exact HB.out | apply below_alloc | apply pw_below_drewN | apply below_drew1 | refine below_set ?_ GE634.out) | exact HB.out)) hb); clear BK634; clear HB; have BK634 := n0_; have HB := n1_; clear n0_ n1_; (try clear hb); (try clear hb2); (try clear hk); (try clear hi)) | ((with_reducible refine gate_callee (f := 53) rfl ?_); refine goesL_ (some 14) rfl rfl Try.func53 (by kernel_rfl) rfl #[.slice A1 l1.length c1, .int .i64 a2, .int .i64 (-1)] rfl (aq) ?_; (with_reducible refine (impl_way.calls k _ _ l1 a2 (-1) t636 _ ?side1 ?side2 A6.out).mono ?_); (case side1 => exact cq (Kd.C_below HR1.out HB.out)); (case side2 => exact HC1.out); rintro e w10 ⟨v637, rfl, ho0, hb⟩; refine ⟨_, rfl, ?_⟩; have n0_ := Aside0.mk (Kd.R_lower ho0 (below_size (by repeat (first | (with_reducible first | exact HB.out | apply below_alloc | apply pw_below_drewN | apply below_drew1 | refine below_set ?_ GE634.out) | exact HB.out)))); have n1_ := Aside0.mk (blk_below (g := gb634) (o := .cells #[.slice A0_0 l0_0.length c0_0] 31 (0, 0)) (kq BK634.out) hb); have n2_ := Aside0.mk (below_step (by repeat (first | (with_reducible first | exact HB.out | apply below_alloc | apply pw_below_drewN | apply below_drew1 | refine below_set ?_ GE634.out) | exact HB.out)) hb); clear BK634; clear HB; have HO638 := n0_; have BK634 := n1_; have HB := n2_; clear n0_ n1_ n2_; (try clear hb); (try clear hb2); (try clear hk); (try clear hi); (try clear ho0)))
    go_ret
    exact ⟨_, by first | rfl | (simp [errW_none, errW_some] <;> rfl) | (simp [*, errW_none, errW_some] <;> rfl), rq HO638.out, by repeat (first | (with_reducible first | exact HB.out | apply below_alloc | apply pw_below_drewN | apply below_drew1 | refine below_set ?_ GE634.out) | exact HB.out)⟩
  · replace c5 := Bool.eq_false_iff.mpr c5
    subst c5
    have H1 : (some ([] : List Int)) = some r := by rw [if_neg (show ¬ (false = true) by decide)] at H; exact H
    clear H
    have H := H1
    clear H1
    obtain rfl := Option.some.inj H
    go_enter Try.func29, Try.ntmps29
    go_wp2_with (first | ((with_reducible refine gate_dst (N := 3) rfl ?_); refine box_event ?hg (N := 3) ?hd (cs := #[.slice A0_0 l0_0.length c0_0]) (t := 31) ?hr ?_; (case hd => rfl); (case hg => rfl); (case hr => first | (go_simp; done) | (go_simp; rfl)); intro gb634 hg w11 hbox hb; have n0_ := Aside0.mk (below_step (bq) hb); have n1_ := Aside0.mk (hbox); have n2_ := Aside0.mk ((by rw [hg]; exact (below_size (bq)) : w.heap.size ≤ gb634)); have n3_ := Aside0.mk ((by rw [hg]; exact (below_size (bq)) : w.heap.size ≤ gb634)); clear HB; have HB := n0_; have BK634 := n1_; have GW634 := n2_; have GE634 := n3_; clear n0_ n1_ n2_ n3_; clear hb hbox hg; have hcz12_0 : w11.cell? ⟨gb634, 0, none⟩ = some (.slice A0_0 l0_0.length c0_0) := (blk_cell BK634.out 0).trans rfl; have hfz12_0 := blk_frozen BK634.out 0) | ((with_reducible refine gate_callee (f := 37) rfl ?_); refine goesL_ (some 10) rfl rfl Try.func37 (by kernel_rfl) rfl #[.agg #[.slice A0_0 l0_0.length c0_0], .slice A1 l1.length c1, .int .i64 a2] rfl (aq) ?_; (with_reducible refine (impl_lineIn.calls k _ _ l0_0 _ _ l1 a2 false _ ?side1 ?side2 ?side3 ?side4 A4.out).mono ?_); (case side1 => exact cq (Kd.C_below HR0_0.out HB.out)); (case side2 => exact HC0_0.out); (case side3 => repeat (first | exact (Kd.C_below HR1.out HB.out) | (with_reducible refine Kd.C_alloc ?_ _) | (with_reducible refine Kd.C_drewN ?_ _) | (with_reducible refine Kd.C_drew ?_))); (case side4 => exact HC1.out); rintro e w13 ⟨rfl, hb⟩; refine ⟨_, rfl, ?_⟩; have n0_ := Aside0.mk (blk_below (g := gb634) (o := .cells #[.slice A0_0 l0_0.length c0_0] 31 (0, 0)) (kq BK634.out) hb); have n1_ := Aside0.mk (below_step (by repeat (first | (with_reducible first | exact HB.out | apply below_alloc | apply pw_below_drewN | apply below_drew1 | refine below_set ?_ GE634.out) | exact HB.out)) hb); clear BK634; clear HB; have BK634 := n0_; have HB := n1_; clear n0_ n1_; (try clear hb); (try clear hb2); (try clear hk); (try clear hi)))
    go_ret
    exact ⟨_, by first | rfl | (simp [errW_none, errW_some] <;> rfl) | (simp [*, errW_none, errW_some] <;> rfl), by first | exact Kd.R_nil _ _ _ _ _ | exact Kd.N_nil _ _ _ _ _ | exact Kd.V_nil _ _ _ _ _ | exact Kd.Q_nil _ _ _ _ _ | exact Kd.S_nil _ _ _ _ _, by repeat (first | (with_reducible first | exact HB.out | apply below_alloc | apply pw_below_drewN | apply below_drew1 | refine below_set ?_ GE634.out) | exact HB.out)⟩
end Go.Proofs.Ytbclgpgolbmlpaa.P
end
