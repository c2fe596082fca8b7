/- One part of the proofs on this program: functions of the program as plain functions, that the code comes to them, and facts on them. -/
import Derived.Test.YtkedkinojeoeaaaYAll1
import Derived.Test.YtkedkinojeoeaaaYAll4
import Derived.Test.YtkedkinojeoeaaaYAll6
import Derived.Test.YtkedkinojeoeaaaYAll8
import Derived.Test.YtkedkinojeoeaaaYWAuto
section
namespace Go.Proofs.Ytkedkinojeoeaaa.P
open Go.RowKit Go.Proofs.YtkedkinojeoeaaaW.PrintWords Go.Proofs.YtkedkinojeoeaaaW.PrintLast Go.Proofs.YtkedkinojeoeaaaW.PrintMore
attribute [local go_sem] max2_int min2_int max_two min_two max_three min_three max_four min_four isSome_cell_setCell
set_option linter.unusedVariables false
set_option linter.unusedSimpArgs false
def laws_FnWayOutUp.j0 : Nat → List (S36) → Int → List Int → Bool → List (S75) → Option (Bool)
 | 0, _, _, _, _, _ => none
 | k + 1, x4, x5, x6, x45, x634000 => if x45 = true then ((spec_WayOut.f k x634000 x4 x5).bind fun t642 => ((laws_equalInts.f k x6 t642).bind fun t645 => (some t645))) else ((impl_EnclosingOf.f k x634000 x4 x5).bind fun t646 => (if (t646.length : Int) = 0 then (some ((x6.length : Int) == 0)) else (if 0 < (t646.length : Int) then ((impl_WayOut.f k x634000 x4 (rd t646 0)).bind fun t650 => (if (wrap64 ((x6.length : Int) - (t650.length : Int))) ≥ 0 then (if (wrap64 ((x6.length : Int) - (t650.length : Int))) ≤ 1 then (if 0 ≤ (wrap64 ((x6.length : Int) - (t650.length : Int))) then (if (wrap64 ((x6.length : Int) - (t650.length : Int))) ≤ (x6.length : Int) then ((laws_equalInts.f k (x6.drop ((wrap64 ((x6.length : Int) - (t650.length : Int))) : Int).toNat) t650).bind fun t657 => (some t657)) else (none)) else (none)) else (some false)) else (some false))) else (none))))
def laws_FnWayOutUp.f (k : Nat) (l0 : List Int) : Option (Bool) := if (l0.length : Int) > 1048576 then (some true) else ((spec_DrawWayOut.f k l0).bind fun bt626 => ((impl_WayOut.f k bt626.1 bt626.2.1 bt626.2.2).bind fun t634 => ((spec_WayOut.f k bt626.1 bt626.2.1 bt626.2.2).bind fun t637 => ((laws_equalInts.f k t634 t637).bind fun t640 => (if t640 = true then ((impl_ValidProgram.f k bt626.1 bt626.2.1).bind fun t641 => (if t641 = true then (if bt626.2.2 < 0 then (laws_FnWayOutUp.j0 k bt626.2.1 bt626.2.2 t634 true bt626.1) else (laws_FnWayOutUp.j0 k bt626.2.1 bt626.2.2 t634 (decide (bt626.2.2 ≥ (bt626.2.1.length : Int))) bt626.1)) else (laws_FnWayOutUp.j0 k bt626.2.1 bt626.2.2 t634 true bt626.1))) else (laws_FnWayOutUp.j0 k bt626.2.1 bt626.2.2 t634 true bt626.1))))))
set_option maxHeartbeats 8000000 in
set_option maxRecDepth 100000 in
theorem laws_FnWayOutUp.calls (k : Nat) (A0 : Option Addr) (c0 : Nat) (l0 : List Int) (r : Bool) (w : World) (hr0 : Kd.C (Kd.int .u8) w A0 l0.length l0) (hc0 : l0.length ≤ c0) (hT : r = true) (h : laws_FnWayOutUp.f k l0 = some r) :
  Calls Try.prog 3 #[.slice A0 l0.length c0] w fun e w' => e = .returned (.bool r) ∧ Below w.heap.size w w' := by
 have hu25 := Try.underlying25
 have HR0 := am hr0
 have HC0 := am hc0
 clear hr0 hc0
 have HB := am (Below.refl w.heap.size w)
 have H : (if (l0.length : Int) > 1048576 then (some true) else ((spec_DrawWayOut.f k l0).bind fun bt626 => ((impl_WayOut.f k bt626.1 bt626.2.1 bt626.2.2).bind fun t634 => ((spec_WayOut.f k bt626.1 bt626.2.1 bt626.2.2).bind fun t637 => ((laws_equalInts.f k t634 t637).bind fun t640 => (if t640 = true then ((impl_ValidProgram.f k bt626.1 bt626.2.1).bind fun t641 => (if t641 = true then (if bt626.2.2 < 0 then (laws_FnWayOutUp.j0 k bt626.2.1 bt626.2.2 t634 true bt626.1) else (laws_FnWayOutUp.j0 k bt626.2.1 bt626.2.2 t634 (decide (bt626.2.2 ≥ (bt626.2.1.length : Int))) bt626.1)) else (laws_FnWayOutUp.j0 k bt626.2.1 bt626.2.2 t634 true bt626.1))) else (laws_FnWayOutUp.j0 k bt626.2.1 bt626.2.2 t634 true bt626.1))))))) = some r := h
 clear h
 by_cases c2 : (l0.length : Int) > 1048576
 ·rw [if_pos c2] at H
  have c2b0 : decide (1048576 < (l0.length : Int)) = true := decide_eq_true c2
  have c2b1 : decide (1048576 < l0.length) = true := decide_eq_true (by omega)
  clear c2
  obtain rfl := Option.some.inj H
  go_enter Try.func3, Try.ntmps3
  go_wp2
  go_ret
  exact ⟨Y0, bq⟩
 ·rw [if_neg c2] at H
  have c2b0 : decide (1048576 < (l0.length : Int)) = false := decide_eq_false c2
  have c2b1 : decide (1048576 < l0.length) = false := decide_eq_false (by omega)
  clear c2
  replace H := Option.bind_eq_some_iff.mp H
  obtain ⟨⟨t626, t629, t632⟩, A30, H⟩ := H
  replace H : ((impl_WayOut.f k t626 t629 t632).bind fun t634 => ((spec_WayOut.f k t626 t629 t632).bind fun t637 => ((laws_equalInts.f k t634 t637).bind fun t640 => (if t640 = true then ((impl_ValidProgram.f k t626 t629).bind fun t641 => (if t641 = true then (if t632 < 0 then (laws_FnWayOutUp.j0 k t629 t632 t634 true t626) else (laws_FnWayOutUp.j0 k t629 t632 t634 (decide (t632 ≥ (t629.length : Int))) t626)) else (laws_FnWayOutUp.j0 k t629 t632 t634 true t626))) else (laws_FnWayOutUp.j0 k t629 t632 t634 true t626))))) = some r := H
  have A3 := am A30
  clear A30
  replace H := Option.bind_eq_some_iff.mp H
  obtain ⟨t634, A40, H⟩ := H
  replace H : ((spec_WayOut.f k t626 t629 t632).bind fun t637 => ((laws_equalInts.f k t634 t637).bind fun t640 => (if t640 = true then ((impl_ValidProgram.f k t626 t629).bind fun t641 => (if t641 = true then (if t632 < 0 then (laws_FnWayOutUp.j0 k t629 t632 t634 true t626) else (laws_FnWayOutUp.j0 k t629 t632 t634 (decide (t632 ≥ (t629.length : Int))) t626)) else (laws_FnWayOutUp.j0 k t629 t632 t634 true t626))) else (laws_FnWayOutUp.j0 k t629 t632 t634 true t626)))) = some r := H
  have A4 := am A40
  clear A40
  have HC5 := am H
  clear H
  go_enter Try.func3, Try.ntmps3
  go_upto_region 5 with (first | ((with_reducible refine gate_callee (f := 8) rfl ?_); refine gL (some 15) Try.func8 #[.slice A0 l0.length c0] ?_; (with_reducible refine (spec_DrawWayOut.calls k _ _ l0 t626 t629 t632 _ ?side1 ?side2 A3.out).mono ?_); (case side1 => exact Y31); (case side2 => exact HC0.out); rintro e w6 ⟨v627, v630, rfl, ho0, ho1, hb⟩; refine ⟨_, rfl, ?_⟩; have HO628 := am (Kd.R_lower ho0 (below_size (bq))); have HO631 := am (Kd.Q_lower ho1 (below_size (bq))); replace HB := am (below_step (bq) hb); (try clear hb); (try clear hb2); (try clear hk); (try clear hi); (try clear ho0); (try clear ho1)) | ((with_reducible refine gate_dst (N := 3) rfl ?_); (try (refine gate_guard (by rfl) ?_; dsimp only)); refine box_event ?hg (N := 3) ?hd (cs := #[.slice none 0 0]) (t := 25) ?hr ?_; (case hd => rfl); (case hg => rfl); (case hr => exact Y4); intro gb633 hg w7 hbox hb; have BK633 := am (hbox); have GW633 := am ((Y3 : w.heap.size ≤ gb633)); have GE633 := am ((Y3 : w.heap.size ≤ gb633)); replace HO628 := am (Kd.R_below (rq HO628.out) hb); replace HO631 := am (Kd.Q_below (Y64) hb); replace HB := am (below_step (bq) hb); clear hb hbox hg; obtain ⟨Ao8, co8, eo8⟩ := Kd.R_slice HO628.out; subst eo8; have hcz9_0 := bc0 BK633.out; have hfz9_0 := blk_frozen BK633.out 0; obtain ⟨Ao10, co10, eo10, _⟩ := Kd.Q_slice HO631.out; subst eo10) | ((with_reducible refine gate_callee (f := 9) rfl ?_); refine gL (some 22) Try.func9 #[.agg #[.slice Ao8 t626.length co8], .slice Ao10 t629.length co10, .int .i64 t632] ?_; (with_reducible refine (impl_WayOut.calls k _ _ t626 _ _ t629 t632 t634 _ ?side1 ?side2 ?side3 ?side4 A4.out).mono ?_); (case side1 => refine (Kd.R_reads' (e := 75) (base := w.heap.size) (ok := fun k_ => True) (n := t626.length) (c := co8) ?_).2.2; exact (Y142)); (case side2 => exact (Kd.R_reads' HO628.out).2.1); (case side3 => refine (Kd.Q_reads' (e := 36) (base := w.heap.size) (ok := fun k_ => True) (n := t629.length) (c := co10) ?_).2.2; exact (Y143)); (case side4 => exact (Kd.Q_reads' HO631.out).2.1); rintro e w11 ⟨v635, rfl, ho0, hb⟩; refine ⟨_, rfl, ?_⟩; have HO636 := am (Kd.R_lower ho0 (below_size (Y16))); replace HO628 := am (Kd.R_below (Y142) hb); replace HO631 := am (Kd.Q_below (Y143) hb); replace BK633 := am (blk_below (g := gb633) (o := .cells #[.slice Ao8 t626.length co8] 25 (0, 0)) (by (with_reducible repeat (first | refine blk_drewN ?_ _ | refine blk_drew ?_ | refine blk_alloc ?_ _)); refine blk_put (cs := #[.slice none 0 0]) ?_ 0 _ rfl; (with_reducible repeat (first | refine blk_drewN ?_ _ | refine blk_drew ?_ | refine blk_alloc ?_ _)); exact BK633.out) hb); replace HB := am (below_step (Y16) hb); (try clear hb); (try clear hb2); (try clear hk); (try clear hi); (try clear ho0)))
  (try simp only [Act.put, List.setIfInBounds_toArray, List.set_cons_zero, List.set_cons_succ])
  go_cut [45] (fun v45 wc => ∃ (kq : Nat) (x45_4 : Bool), v45 = .bool x45_4 ∧ Aside0 (laws_FnWayOutUp.j0 kq t629 t632 t634 x45_4 t626 = some r) ∧ Aside0 (kq ≤ k) ∧ Aside0 (Kd.Q k36 36 wc w.heap.size (fun _ => True) (.slice Ao10 t629.length co10) t629) ∧ Aside0 (Kd.R (Kd.int .i64) 3 wc w.heap.size (fun _ => True) v635 t634) ∧ Aside0 (Kd.R k75 75 wc w.heap.size (fun _ => True) (.slice Ao8 t626.length co8) t626) ∧ Aside0 (wc.heap[gb633]? = some (.cells #[(.slice Ao8 t626.length co8)] 25 (0, 0))) ∧ Aside0 (Below w.heap.size w wc))
  case first =>
   have H := HC5.out
   clear HC5
   replace H := Option.bind_eq_some_iff.mp H
   obtain ⟨t637, A120, H⟩ := H
   replace H : ((laws_equalInts.f k t634 t637).bind fun t640 => (if t640 = true then ((impl_ValidProgram.f k t626 t629).bind fun t641 => (if t641 = true then (if t632 < 0 then (laws_FnWayOutUp.j0 k t629 t632 t634 true t626) else (laws_FnWayOutUp.j0 k t629 t632 t634 (decide (t632 ≥ (t629.length : Int))) t626)) else (laws_FnWayOutUp.j0 k t629 t632 t634 true t626))) else (laws_FnWayOutUp.j0 k t629 t632 t634 true t626))) = some r := H
   have A12 := am A120
   clear A120
   replace H := Option.bind_eq_some_iff.mp H
   obtain ⟨t640, A130, H⟩ := H
   replace H : (if t640 = true then ((impl_ValidProgram.f k t626 t629).bind fun t641 => (if t641 = true then (if t632 < 0 then (laws_FnWayOutUp.j0 k t629 t632 t634 true t626) else (laws_FnWayOutUp.j0 k t629 t632 t634 (decide (t632 ≥ (t629.length : Int))) t626)) else (laws_FnWayOutUp.j0 k t629 t632 t634 true t626))) else (laws_FnWayOutUp.j0 k t629 t632 t634 true t626)) = some r := H
   have A13 := am A130
   clear A130
   by_cases c14 : t640 = true
   ·subst c14
    have H1 : ((impl_ValidProgram.f k t626 t629).bind fun t641 => (if t641 = true then (if t632 < 0 then (laws_FnWayOutUp.j0 k t629 t632 t634 true t626) else (laws_FnWayOutUp.j0 k t629 t632 t634 (decide (t632 ≥ (t629.length : Int))) t626)) else (laws_FnWayOutUp.j0 k t629 t632 t634 true t626))) = some r := by rw [if_pos rfl] at H; exact H
    clear H
    have H := H1
    clear H1
    replace H := Option.bind_eq_some_iff.mp H
    obtain ⟨t641, A150, H⟩ := H
    replace H : (if t641 = true then (if t632 < 0 then (laws_FnWayOutUp.j0 k t629 t632 t634 true t626) else (laws_FnWayOutUp.j0 k t629 t632 t634 (decide (t632 ≥ (t629.length : Int))) t626)) else (laws_FnWayOutUp.j0 k t629 t632 t634 true t626)) = some r := H
    have A15 := am A150
    clear A150
    by_cases c16 : t641 = true
    ·subst c16
     have H1 : (if t632 < 0 then (laws_FnWayOutUp.j0 k t629 t632 t634 true t626) else (laws_FnWayOutUp.j0 k t629 t632 t634 (decide (t632 ≥ (t629.length : Int))) t626)) = some r := by rw [if_pos rfl] at H; exact H
     clear H
     have H := H1
     clear H1
     by_cases c17 : t632 < 0
     ·rw [if_pos c17] at H
      have c17b0 : decide (t632 < 0) = true := decide_eq_true c17
      clear c17
      (first | rw [c17b0] | (simp only [i64_w, i32_w]; rw [c17b0]) | skip)
      have H' := am H
      clear H
      have hcz18_0 := bc0 BK633.out
      have hfz18_0 := blk_frozen BK633.out 0
      go_wp2_with (first | ((with_reducible refine gate_callee (f := 11) rfl ?_); refine gL (some 27) Try.func11 #[.agg #[.slice Ao8 t626.length co8], .slice Ao10 t629.length co10, .int .i64 t632] ?_; (with_reducible refine (spec_WayOut.calls k _ _ t626 _ _ t629 t632 t637 _ ?side1 ?side2 ?side3 ?side4 A12.out).mono ?_); (case side1 => exact cq (Kd.R_reads' HO628.out).2.2); (case side2 => exact (Kd.R_reads' HO628.out).2.1); (case side3 => exact cq (Kd.Q_reads' HO631.out).2.2); (case side4 => exact (Kd.Q_reads' HO631.out).2.1); rintro e w19 ⟨v638, rfl, ho0, hb⟩; refine ⟨_, rfl, ?_⟩; have HO639 := am (Kd.R_lower (Kd.R_new' ho0 (Kd.R_lt (rq HO636.out))) (below_size (Y16))); replace HO628 := am (Kd.R_below (rq HO628.out) hb); replace HO631 := am (Kd.Q_below (Y64) hb); replace HO636 := am (Kd.R_elder' (rq HO636.out) (Kd.R_base ho0) hb); replace BK633 := am (blk_below (g := gb633) (o := .cells #[.slice Ao8 t626.length co8] 25 (0, 0)) (kq BK633.out) hb); replace HB := am (below_step (Y16) hb); (try clear hb); (try clear hb2); (try clear hk); (try clear hi); (try clear ho0); obtain ⟨Ao20, co20, eo20⟩ := Kd.R_slice HO636.out; subst eo20; obtain ⟨Ao21, co21, eo21⟩ := Kd.R_slice HO639.out; subst eo21) | ((with_reducible refine gate_callee (f := 10) rfl ?_); refine gL (some 28) Try.func10 #[.slice Ao20 t634.length co20, .slice Ao21 t637.length co21] ?_; (with_reducible refine (laws_equalInts.calls k _ _ t634 _ _ t637 true _ ?side1 ?side2 ?side3 ?side4 A13.out).mono ?_); (case side1 => exact cq (Kd.R_reads' HO636.out).2.2); (case side2 => exact (Kd.R_reads' HO636.out).2.1); (case side3 => exact cq (Kd.R_reads' HO639.out).2.2); (case side4 => exact (Kd.R_reads' HO639.out).2.1); rintro e w' ⟨rfl, ⟨nd, rfl⟩⟩; refine ⟨_, rfl, ?_⟩; have hcz22_0 := bc0 BK633.out; have hfz22_0 := blk_frozen BK633.out 0) | (go_at_call 12; (with_reducible refine (impl_ValidProgram.calls k _ _ t626 _ _ t629 true _ ?side1 ?side2 ?side3 ?side4 A15.out).mono ?_); (case side1 => exact cq (Kd.R_reads' HO628.out).2.2); (case side2 => exact (Kd.R_reads' HO628.out).2.1); (case side3 => exact cq (Kd.Q_reads' HO631.out).2.2); (case side4 => exact (Kd.Q_reads' HO631.out).2.1); rintro e w23 ⟨rfl, hb⟩; replace HO628 := am (Kd.R_below (rq HO628.out) hb); replace HO631 := am (Kd.Q_below (Y64) hb); replace HO636 := am (Kd.R_below (rq HO636.out) hb); replace HO639 := am (Kd.R_below (rq HO639.out) hb); replace BK633 := am (blk_below (g := gb633) (o := .cells #[.slice Ao8 t626.length co8] 25 (0, 0)) (kq BK633.out) hb); replace HB := am (below_step (Y16) hb); (try clear hb); (try clear hb2); (try clear hk); (try clear hi)))
      go_meet
      case rel => exact ⟨_, (true), (sq), H', ⟨Y25⟩, ⟨by (with_reducible repeat (first | apply Kd.Q_alloc | apply Kd.Q_drewN | apply Kd.Q_drew)); exact HO631.out⟩, ⟨by (with_reducible repeat (first | apply Kd.R_alloc | apply Kd.R_drewN | apply Kd.R_drew)); exact Kd.R_mono HO636.out (fun _ hk => trivial)⟩, ⟨rq HO628.out⟩, ⟨kq BK633.out⟩, ⟨Y16⟩⟩
     ·rw [if_neg c17] at H
      have c17b0 : decide (t632 < 0) = false := decide_eq_false c17
      clear c17
      (first | rw [c17b0] | (simp only [i64_w, i32_w]; rw [c17b0]) | skip)
      have H' := am H
      clear H
      have hcz24_0 := bc0 BK633.out
      have hfz24_0 := blk_frozen BK633.out 0
      go_wp2_with (first | ((with_reducible refine gate_callee (f := 11) rfl ?_); refine gL (some 27) Try.func11 #[.agg #[.slice Ao8 t626.length co8], .slice Ao10 t629.length co10, .int .i64 t632] ?_; (with_reducible refine (spec_WayOut.calls k _ _ t626 _ _ t629 t632 t637 _ ?side1 ?side2 ?side3 ?side4 A12.out).mono ?_); (case side1 => exact cq (Kd.R_reads' HO628.out).2.2); (case side2 => exact (Kd.R_reads' HO628.out).2.1); (case side3 => exact cq (Kd.Q_reads' HO631.out).2.2); (case side4 => exact (Kd.Q_reads' HO631.out).2.1); rintro e w25 ⟨v638, rfl, ho0, hb⟩; refine ⟨_, rfl, ?_⟩; have HO639 := am (Kd.R_lower (Kd.R_new' ho0 (Kd.R_lt (rq HO636.out))) (below_size (Y16))); replace HO628 := am (Kd.R_below (rq HO628.out) hb); replace HO631 := am (Kd.Q_below (Y64) hb); replace HO636 := am (Kd.R_elder' (rq HO636.out) (Kd.R_base ho0) hb); replace BK633 := am (blk_below (g := gb633) (o := .cells #[.slice Ao8 t626.length co8] 25 (0, 0)) (kq BK633.out) hb); replace HB := am (below_step (Y16) hb); (try clear hb); (try clear hb2); (try clear hk); (try clear hi); (try clear ho0); obtain ⟨Ao26, co26, eo26⟩ := Kd.R_slice HO636.out; subst eo26; obtain ⟨Ao27, co27, eo27⟩ := Kd.R_slice HO639.out; subst eo27) | ((with_reducible refine gate_callee (f := 10) rfl ?_); refine gL (some 28) Try.func10 #[.slice Ao26 t634.length co26, .slice Ao27 t637.length co27] ?_; (with_reducible refine (laws_equalInts.calls k _ _ t634 _ _ t637 true _ ?side1 ?side2 ?side3 ?side4 A13.out).mono ?_); (case side1 => exact cq (Kd.R_reads' HO636.out).2.2); (case side2 => exact (Kd.R_reads' HO636.out).2.1); (case side3 => exact cq (Kd.R_reads' HO639.out).2.2); (case side4 => exact (Kd.R_reads' HO639.out).2.1); rintro e w' ⟨rfl, ⟨nd, rfl⟩⟩; refine ⟨_, rfl, ?_⟩; have hcz28_0 := bc0 BK633.out; have hfz28_0 := blk_frozen BK633.out 0) | (go_at_call 12; (with_reducible refine (impl_ValidProgram.calls k _ _ t626 _ _ t629 true _ ?side1 ?side2 ?side3 ?side4 A15.out).mono ?_); (case side1 => exact cq (Kd.R_reads' HO628.out).2.2); (case side2 => exact (Kd.R_reads' HO628.out).2.1); (case side3 => exact cq (Kd.Q_reads' HO631.out).2.2); (case side4 => exact (Kd.Q_reads' HO631.out).2.1); rintro e w29 ⟨rfl, hb⟩; replace HO628 := am (Kd.R_below (rq HO628.out) hb); replace HO631 := am (Kd.Q_below (Y64) hb); replace HO636 := am (Kd.R_below (rq HO636.out) hb); replace HO639 := am (Kd.R_below (rq HO639.out) hb); replace BK633 := am (blk_below (g := gb633) (o := .cells #[.slice Ao8 t626.length co8] 25 (0, 0)) (kq BK633.out) hb); replace HB := am (below_step (Y16) hb); (try clear hb); (try clear hb2); (try clear hk); (try clear hi)))
      go_meet
      case rel => exact ⟨_, (decide (t632 ≥ (t629.length : Int))), (sq), H', ⟨Y25⟩, ⟨by (with_reducible repeat (first | apply Kd.Q_alloc | apply Kd.Q_drewN | apply Kd.Q_drew)); exact HO631.out⟩, ⟨by (with_reducible repeat (first | apply Kd.R_alloc | apply Kd.R_drewN | apply Kd.R_drew)); exact Kd.R_mono HO636.out (fun _ hk => trivial)⟩, ⟨rq HO628.out⟩, ⟨kq BK633.out⟩, ⟨Y16⟩⟩
    ·replace c16 := Bool.eq_false_iff.mpr c16
     subst c16
     have H1 : (laws_FnWayOutUp.j0 k t629 t632 t634 true t626) = some r := by rw [if_neg (show ¬ (false = true) by decide)] at H; exact H
     clear H
     have H := H1
     clear H1
     have H' := am H
     clear H
     have hcz30_0 := bc0 BK633.out
     have hfz30_0 := blk_frozen BK633.out 0
     go_wp2_with (first | ((with_reducible refine gate_callee (f := 11) rfl ?_); refine gL (some 27) Try.func11 #[.agg #[.slice Ao8 t626.length co8], .slice Ao10 t629.length co10, .int .i64 t632] ?_; (with_reducible refine (spec_WayOut.calls k _ _ t626 _ _ t629 t632 t637 _ ?side1 ?side2 ?side3 ?side4 A12.out).mono ?_); (case side1 => exact cq (Kd.R_reads' HO628.out).2.2); (case side2 => exact (Kd.R_reads' HO628.out).2.1); (case side3 => exact cq (Kd.Q_reads' HO631.out).2.2); (case side4 => exact (Kd.Q_reads' HO631.out).2.1); rintro e w31 ⟨v638, rfl, ho0, hb⟩; refine ⟨_, rfl, ?_⟩; have HO639 := am (Kd.R_lower (Kd.R_new' ho0 (Kd.R_lt (rq HO636.out))) (below_size (Y16))); replace HO628 := am (Kd.R_below (rq HO628.out) hb); replace HO631 := am (Kd.Q_below (Y64) hb); replace HO636 := am (Kd.R_elder' (rq HO636.out) (Kd.R_base ho0) hb); replace BK633 := am (blk_below (g := gb633) (o := .cells #[.slice Ao8 t626.length co8] 25 (0, 0)) (kq BK633.out) hb); replace HB := am (below_step (Y16) hb); (try clear hb); (try clear hb2); (try clear hk); (try clear hi); (try clear ho0); obtain ⟨Ao32, co32, eo32⟩ := Kd.R_slice HO636.out; subst eo32; obtain ⟨Ao33, co33, eo33⟩ := Kd.R_slice HO639.out; subst eo33) | ((with_reducible refine gate_callee (f := 10) rfl ?_); refine gL (some 28) Try.func10 #[.slice Ao32 t634.length co32, .slice Ao33 t637.length co33] ?_; (with_reducible refine (laws_equalInts.calls k _ _ t634 _ _ t637 true _ ?side1 ?side2 ?side3 ?side4 A13.out).mono ?_); (case side1 => exact cq (Kd.R_reads' HO636.out).2.2); (case side2 => exact (Kd.R_reads' HO636.out).2.1); (case side3 => exact cq (Kd.R_reads' HO639.out).2.2); (case side4 => exact (Kd.R_reads' HO639.out).2.1); rintro e w' ⟨rfl, ⟨nd, rfl⟩⟩; refine ⟨_, rfl, ?_⟩; have hcz34_0 := bc0 BK633.out; have hfz34_0 := blk_frozen BK633.out 0) | (go_at_call 12; (with_reducible refine (impl_ValidProgram.calls k _ _ t626 _ _ t629 false _ ?side1 ?side2 ?side3 ?side4 A15.out).mono ?_); (case side1 => exact cq (Kd.R_reads' HO628.out).2.2); (case side2 => exact (Kd.R_reads' HO628.out).2.1); (case side3 => exact cq (Kd.Q_reads' HO631.out).2.2); (case side4 => exact (Kd.Q_reads' HO631.out).2.1); rintro e w35 ⟨rfl, hb⟩; replace HO628 := am (Kd.R_below (rq HO628.out) hb); replace HO631 := am (Kd.Q_below (Y64) hb); replace HO636 := am (Kd.R_below (rq HO636.out) hb); replace HO639 := am (Kd.R_below (rq HO639.out) hb); replace BK633 := am (blk_below (g := gb633) (o := .cells #[.slice Ao8 t626.length co8] 25 (0, 0)) (kq BK633.out) hb); replace HB := am (below_step (Y16) hb); (try clear hb); (try clear hb2); (try clear hk); (try clear hi)))
     go_meet
     case rel => exact ⟨_, (true), (sq), H', ⟨Y25⟩, ⟨by (with_reducible repeat (first | apply Kd.Q_alloc | apply Kd.Q_drewN | apply Kd.Q_drew)); exact HO631.out⟩, ⟨by (with_reducible repeat (first | apply Kd.R_alloc | apply Kd.R_drewN | apply Kd.R_drew)); exact Kd.R_mono HO636.out (fun _ hk => trivial)⟩, ⟨rq HO628.out⟩, ⟨kq BK633.out⟩, ⟨Y16⟩⟩
   ·replace c14 := Bool.eq_false_iff.mpr c14
    subst c14
    have H1 : (laws_FnWayOutUp.j0 k t629 t632 t634 true t626) = some r := by rw [if_neg (show ¬ (false = true) by decide)] at H; exact H
    clear H
    have H := H1
    clear H1
    have H' := am H
    clear H
    have hcz36_0 := bc0 BK633.out
    have hfz36_0 := blk_frozen BK633.out 0
    go_wp2_with (first | ((with_reducible refine gate_callee (f := 11) rfl ?_); refine gL (some 27) Try.func11 #[.agg #[.slice Ao8 t626.length co8], .slice Ao10 t629.length co10, .int .i64 t632] ?_; (with_reducible refine (spec_WayOut.calls k _ _ t626 _ _ t629 t632 t637 _ ?side1 ?side2 ?side3 ?side4 A12.out).mono ?_); (case side1 => exact cq (Kd.R_reads' HO628.out).2.2); (case side2 => exact (Kd.R_reads' HO628.out).2.1); (case side3 => exact cq (Kd.Q_reads' HO631.out).2.2); (case side4 => exact (Kd.Q_reads' HO631.out).2.1); rintro e w37 ⟨v638, rfl, ho0, hb⟩; refine ⟨_, rfl, ?_⟩; have HO639 := am (Kd.R_lower (Kd.R_new' ho0 (Kd.R_lt (rq HO636.out))) (below_size (Y16))); replace HO628 := am (Kd.R_below (rq HO628.out) hb); replace HO631 := am (Kd.Q_below (Y64) hb); replace HO636 := am (Kd.R_elder' (rq HO636.out) (Kd.R_base ho0) hb); replace BK633 := am (blk_below (g := gb633) (o := .cells #[.slice Ao8 t626.length co8] 25 (0, 0)) (kq BK633.out) hb); replace HB := am (below_step (Y16) hb); (try clear hb); (try clear hb2); (try clear hk); (try clear hi); (try clear ho0); obtain ⟨Ao38, co38, eo38⟩ := Kd.R_slice HO636.out; subst eo38; obtain ⟨Ao39, co39, eo39⟩ := Kd.R_slice HO639.out; subst eo39) | ((with_reducible refine gate_callee (f := 10) rfl ?_); refine gL (some 28) Try.func10 #[.slice Ao38 t634.length co38, .slice Ao39 t637.length co39] ?_; (with_reducible refine (laws_equalInts.calls k _ _ t634 _ _ t637 false _ ?side1 ?side2 ?side3 ?side4 A13.out).mono ?_); (case side1 => exact cq (Kd.R_reads' HO636.out).2.2); (case side2 => exact (Kd.R_reads' HO636.out).2.1); (case side3 => exact cq (Kd.R_reads' HO639.out).2.2); (case side4 => exact (Kd.R_reads' HO639.out).2.1); rintro e w' ⟨rfl, ⟨nd, rfl⟩⟩; refine ⟨_, rfl, ?_⟩))
    go_meet
    case rel => exact ⟨_, (true), (sq), H', ⟨Y25⟩, ⟨by (with_reducible repeat (first | apply Kd.Q_alloc | apply Kd.Q_drewN | apply Kd.Q_drew)); exact HO631.out⟩, ⟨by (with_reducible repeat (first | apply Kd.R_alloc | apply Kd.R_drewN | apply Kd.R_drew)); exact Kd.R_mono HO636.out (fun _ hk => trivial)⟩, ⟨rq HO628.out⟩, ⟨kq BK633.out⟩, ⟨Y16⟩⟩
  case rest =>
   clear HC5
   try clear c1
   try clear c2
   try clear c2b0
   try clear c2b1
   try clear p2
   try clear c3
   try clear c8
   try clear c9
   try clear c10
   try clear c11
   try clear c14
   try clear c16
   try clear c17
   try clear c17b0
   try clear hcz18_0
   try clear hcz22_0
   try clear hcz24_0
   try clear hcz28_0
   try clear hcz30_0
   try clear hcz34_0
   try clear hcz36_0
   try clear hcz9_0
   try clear hfz18_0
   try clear hfz22_0
   try clear hfz24_0
   try clear hfz28_0
   try clear hfz30_0
   try clear hfz34_0
   try clear hfz36_0
   try clear hfz9_0
   obtain ⟨kq, x45_4, rfl, HA, HJ4, HO_4, HO_6, HO_634000, BK633, HB⟩ := hcut
   cases kq with
   | zero => exact absurd HA.out (by simp [laws_FnWayOutUp.j0])
   | succ kj4 =>
    have H := HA.out
    clear HA
    simp only [laws_FnWayOutUp.j0] at H
    by_cases c40 : x45_4 = true
    ·subst c40
     have H1 : ((spec_WayOut.f kj4 t626 t629 t632).bind fun t642 => ((laws_equalInts.f kj4 t634 t642).bind fun t645 => (some t645))) = some r := by rw [if_pos rfl] at H; exact H
     clear H
     have H := H1
     clear H1
     replace H := Option.bind_eq_some_iff.mp H
     obtain ⟨t642, A410, H⟩ := H
     replace H : ((laws_equalInts.f kj4 t634 t642).bind fun t645 => (some t645)) = some r := H
     have A41 := am A410
     clear A410
     replace H := Option.bind_eq_some_iff.mp H
     obtain ⟨t645, A420, H⟩ := H
     replace H : (some t645) = some r := H
     have A42 := am A420
     clear A420
     obtain rfl := Option.some.inj H
     have hcz43_0 := bc0 BK633.out
     have hfz43_0 := blk_frozen BK633.out 0
     go_wp2_with (first | ((with_reducible refine gate_callee (f := 11) rfl ?_); refine gL (some 50) Try.func11 #[.agg #[.slice Ao8 t626.length co8], .slice Ao10 t629.length co10, .int .i64 t632] ?_; (with_reducible refine (spec_WayOut.calls kj4 _ _ t626 _ _ t629 t632 t642 _ ?side1 ?side2 ?side3 ?side4 A41.out).mono ?_); (case side1 => exact cq (Kd.R_reads' HO_634000.out).2.2); (case side2 => exact (Kd.R_reads' HO_634000.out).2.1); (case side3 => exact cq (Kd.Q_reads' HO_4.out).2.2); (case side4 => exact (Kd.Q_reads' HO_4.out).2.1); rintro e w44 ⟨v643, rfl, ho0, hb⟩; refine ⟨_, rfl, ?_⟩; have HO644 := am (Kd.R_lower (Kd.R_new' ho0 (Kd.R_lt (rq HO_6.out))) (below_size (Y16))); replace HO_4 := am (Kd.Q_below (Y39) hb); replace HO_6 := am (Kd.R_elder' (rq HO_6.out) (Kd.R_base ho0) hb); replace HO_634000 := am (Kd.R_below (rq HO_634000.out) hb); replace BK633 := am (blk_below (g := gb633) (o := .cells #[.slice Ao8 t626.length co8] 25 (0, 0)) (kq BK633.out) hb); replace HB := am (below_step (Y16) hb); (try clear hb); (try clear hb2); (try clear hk); (try clear hi); (try clear ho0); obtain ⟨Ao45, co45, eo45⟩ := Kd.R_slice HO_6.out; subst eo45; obtain ⟨Ao46, co46, eo46⟩ := Kd.R_slice HO644.out; subst eo46) | ((with_reducible refine gate_callee (f := 10) rfl ?_); refine gL (some 51) Try.func10 #[.slice Ao45 t634.length co45, .slice Ao46 t642.length co46] ?_; (with_reducible refine (laws_equalInts.calls kj4 _ _ t634 _ _ t642 t645 _ ?side1 ?side2 ?side3 ?side4 A42.out).mono ?_); (case side1 => exact cq (Kd.R_reads' HO_6.out).2.2); (case side2 => exact (Kd.R_reads' HO_6.out).2.1); (case side3 => exact cq (Kd.R_reads' HO644.out).2.2); (case side4 => exact (Kd.R_reads' HO644.out).2.1); rintro e w' ⟨rfl, ⟨nd, rfl⟩⟩; refine ⟨_, rfl, ?_⟩))
     go_ret
     exact ⟨Y0, Y16⟩
    ·replace c40 := Bool.eq_false_iff.mpr c40
     subst c40
     have H1 : ((impl_EnclosingOf.f kj4 t626 t629 t632).bind fun t646 => (if (t646.length : Int) = 0 then (some ((t634.length : Int) == 0)) else (if 0 < (t646.length : Int) then ((impl_WayOut.f kj4 t626 t629 (rd t646 0)).bind fun t650 => (if (wrap64 ((t634.length : Int) - (t650.length : Int))) ≥ 0 then (if (wrap64 ((t634.length : Int) - (t650.length : Int))) ≤ 1 then (if 0 ≤ (wrap64 ((t634.length : Int) - (t650.length : Int))) then (if (wrap64 ((t634.length : Int) - (t650.length : Int))) ≤ (t634.length : Int) then ((laws_equalInts.f kj4 (t634.drop ((wrap64 ((t634.length : Int) - (t650.length : Int))) : Int).toNat) t650).bind fun t657 => (some t657)) else (none)) else (none)) else (some false)) else (some false))) else (none)))) = some r := by rw [if_neg (show ¬ (false = true) by decide)] at H; exact H
     clear H
     have H := H1
     clear H1
     replace H := Option.bind_eq_some_iff.mp H
     obtain ⟨t646, A470, H⟩ := H
     replace H : (if (t646.length : Int) = 0 then (some ((t634.length : Int) == 0)) else (if 0 < (t646.length : Int) then ((impl_WayOut.f kj4 t626 t629 (rd t646 0)).bind fun t650 => (if (wrap64 ((t634.length : Int) - (t650.length : Int))) ≥ 0 then (if (wrap64 ((t634.length : Int) - (t650.length : Int))) ≤ 1 then (if 0 ≤ (wrap64 ((t634.length : Int) - (t650.length : Int))) then (if (wrap64 ((t634.length : Int) - (t650.length : Int))) ≤ (t634.length : Int) then ((laws_equalInts.f kj4 (t634.drop ((wrap64 ((t634.length : Int) - (t650.length : Int))) : Int).toNat) t650).bind fun t657 => (some t657)) else (none)) else (none)) else (some false)) else (some false))) else (none))) = some r := H
     have A47 := am A470
     clear A470
     by_cases c48 : (t646.length : Int) = 0
     ·rw [if_pos c48] at H
      have c48b0 : ((t646.length : Int) == 0) = true := beq_iff_eq.mpr c48
      have c48b1 : ((t646.length : Int) != 0) = false := bne_eq_false_iff_eq.mpr c48
      clear c48
      obtain rfl := Option.some.inj H
      have hcz49_0 := bc0 BK633.out
      have hfz49_0 := blk_frozen BK633.out 0
      go_wp2_with (first | ((with_reducible refine gate_callee (f := 13) rfl ?_); refine gL (some 55) Try.func13 #[.agg #[.slice Ao8 t626.length co8], .slice Ao10 t629.length co10, .int .i64 t632] ?_; (with_reducible refine (impl_EnclosingOf.calls kj4 _ _ t626 _ _ t629 t632 t646 _ ?side1 ?side2 ?side3 ?side4 A47.out).mono ?_); (case side1 => exact cq (Kd.R_reads' HO_634000.out).2.2); (case side2 => exact (Kd.R_reads' HO_634000.out).2.1); (case side3 => exact cq (Kd.Q_reads' HO_4.out).2.2); (case side4 => exact (Kd.Q_reads' HO_4.out).2.1); rintro e w50 ⟨v647, rfl, ho0, hb⟩; refine ⟨_, rfl, ?_⟩; have HO648 := am (Kd.R_lower (Kd.R_new' ho0 (Kd.R_lt (rq HO_6.out))) (below_size (Y16))); replace HO_4 := am (Kd.Q_below (Y39) hb); replace HO_6 := am (Kd.R_elder' (rq HO_6.out) (Kd.R_base ho0) hb); replace HO_634000 := am (Kd.R_below (rq HO_634000.out) hb); replace BK633 := am (blk_below (g := gb633) (o := .cells #[.slice Ao8 t626.length co8] 25 (0, 0)) (kq BK633.out) hb); replace HB := am (below_step (Y16) hb); (try clear hb); (try clear hb2); (try clear hk); (try clear hi); (try clear ho0); obtain ⟨Ao51, co51, eo51⟩ := Kd.R_slice HO648.out; subst eo51; obtain ⟨Ao52, co52, eo52⟩ := Kd.R_slice HO_6.out; subst eo52))
      go_ret
      exact ⟨Y0, Y16⟩
     ·rw [if_neg c48] at H
      have c48b0 : ((t646.length : Int) == 0) = false := beq_eq_false_iff_ne.mpr c48
      have c48b1 : ((t646.length : Int) != 0) = true := bne_iff_ne.mpr c48
      have c48b2 : ¬ (t646 = []) := fun h_ => c48 (by rw [h_]; rfl)
      by_cases c53 : 0 < (t646.length : Int)
      ·rw [if_pos c53] at H
       have c53b0 : decide (0 < (t646.length : Int)) = true := decide_eq_true c53
       have c53b1 : decide (0 < t646.length) = true := decide_eq_true (by omega)
       clear c53
       replace H := Option.bind_eq_some_iff.mp H
       obtain ⟨t650, A540, H⟩ := H
       replace H : (if (wrap64 ((t634.length : Int) - (t650.length : Int))) ≥ 0 then (if (wrap64 ((t634.length : Int) - (t650.length : Int))) ≤ 1 then (if 0 ≤ (wrap64 ((t634.length : Int) - (t650.length : Int))) then (if (wrap64 ((t634.length : Int) - (t650.length : Int))) ≤ (t634.length : Int) then ((laws_equalInts.f kj4 (t634.drop ((wrap64 ((t634.length : Int) - (t650.length : Int))) : Int).toNat) t650).bind fun t657 => (some t657)) else (none)) else (none)) else (some false)) else (some false)) = some r := H
       have A54 := am A540
       clear A540
       by_cases c55 : (wrap64 ((t634.length : Int) - (t650.length : Int))) ≥ 0
       ·rw [if_pos c55] at H
        have c55b0 : decide (0 ≤ (wrap64 ((t634.length : Int) - (t650.length : Int)))) = true := decide_eq_true c55
        clear c55
        by_cases c56 : (wrap64 ((t634.length : Int) - (t650.length : Int))) ≤ 1
        ·rw [if_pos c56] at H
         have c56b0 : decide ((wrap64 ((t634.length : Int) - (t650.length : Int))) ≤ 1) = true := decide_eq_true c56
         clear c56
         obtain ⟨ji57, hji57⟩ : ∃ j_ : Int, (wrap64 ((t634.length : Int) - (t650.length : Int))) = j_ := ⟨_, rfl⟩
         replace H : (if 0 ≤ (ji57) then (if (ji57) ≤ (t634.length : Int) then ((laws_equalInts.f kj4 (t634.drop ((ji57) : Int).toNat) t650).bind fun t657 => (some t657)) else (none)) else (none)) = some r := by first | (rw [hji57] at H; exact H) | (simp only [hji57] at H ⊢; exact H)
         (try rw [hji57] at c55b0)
         (try rw [hji57] at c56b0)
         (try rw [hji57] at A47)
         (try rw [hji57] at A54)
         have hji57w : (IntKind.i64.wrap ((t634.length : Int) - (t650.length : Int))) = ji57 := (i64_w _).trans hji57
         by_cases c58 : 0 ≤ (ji57)
         ·rw [if_pos c58] at H
          have c58b0 := eq_true c58
          have c58b1 : decide (0 ≤ (ji57)) = true := decide_eq_true c58
          clear c58
          by_cases c59 : (ji57) ≤ (t634.length : Int)
          ·rw [if_pos c59] at H
           have c59b0 := eq_true c59
           have c59b1 : decide ((ji57) ≤ (t634.length : Int)) = true := decide_eq_true c59
           clear c59
           obtain ⟨y653, hy653⟩ : ∃ y_ : List Int, y_ = (t634.drop ((ji57) : Int).toNat) := ⟨_, rfl⟩
           replace H : ((laws_equalInts.f kj4 y653 t650).bind fun t657 => (some t657)) = some r := by first | (rw [hy653]; with_reducible exact H) | (have H2_ := (Option.bind_some _ _).symm.trans H; rw [hy653]; with_reducible exact H2_) | (have H2_ := (Option.bind_some _ _).symm.trans H; with_reducible exact H2_) | with_reducible exact H | (rw [hy653]; exact H) | exact H
           have Ny653 := am hy653
           clear hy653
           replace H := Option.bind_eq_some_iff.mp H
           obtain ⟨t657, A600, H⟩ := H
           replace H : (some t657) = some r := H
           have A60 := am A600
           clear A600
           obtain rfl := Option.some.inj H
           have hcz61_0 := bc0 BK633.out
           have hfz61_0 := blk_frozen BK633.out 0
           try go_wp2_with (first | ((with_reducible refine gate_callee (f := 13) rfl ?_); refine gL (some 55) Try.func13 #[.agg #[.slice Ao8 t626.length co8], .slice Ao10 t629.length co10, .int .i64 t632] ?_; (with_reducible refine (impl_EnclosingOf.calls kj4 _ _ t626 _ _ t629 t632 t646 _ ?side1 ?side2 ?side3 ?side4 A47.out).mono ?_); (case side1 => exact cq (Kd.R_reads' HO_634000.out).2.2); (case side2 => exact (Kd.R_reads' HO_634000.out).2.1); (case side3 => exact cq (Kd.Q_reads' HO_4.out).2.2); (case side4 => exact (Kd.Q_reads' HO_4.out).2.1); rintro e w62 ⟨v647, rfl, ho0, hb⟩; refine ⟨_, rfl, ?_⟩; have HO648 := am (Kd.R_lower (Kd.R_new' ho0 (Kd.R_lt (rq HO_6.out))) (below_size (Y16))); replace HO_4 := am (Kd.Q_below (Y39) hb); replace HO_6 := am (Kd.R_elder' (rq HO_6.out) (Kd.R_base ho0) hb); replace HO_634000 := am (Kd.R_below (rq HO_634000.out) hb); replace BK633 := am (blk_below (g := gb633) (o := .cells #[.slice Ao8 t626.length co8] 25 (0, 0)) (kq BK633.out) hb); replace HB := am (below_step (Y16) hb); (try clear hb); (try clear hb2); (try clear hk); (try clear hi); (try clear ho0); obtain ⟨Ao63, co63, eo63⟩ := Kd.R_slice HO648.out; subst eo63))
           replace HO_4 := am (Kd.Q_drew HO_4.out)
           replace HO_6 := am (Kd.R_drew HO_6.out)
           replace HO_634000 := am (Kd.R_drew HO_634000.out)
           replace HO648 := am (Kd.R_drew HO648.out)
           replace BK633 := am (blk_drew BK633.out)
           replace HB := am (below_drew1 HB.out)
           have p649 : 0 ≤ (0 : Int) := (by omega)
           have q649 : 0 < (t646.length : Int) := of_decide_eq_true (uq)
           obtain ⟨ad649, e649, hx649_0⟩ := Kd.at_int (Kd.R_reads' HO648.out).2.2 0 p649 q649
           cases e649
           have qi649 : (0 < t646.length) = True := eq_true (by omega)
           (try rw [show ((0 : Int)).toNat = 0 from rfl] at hx649_0)
           (try rw [Addr.add_zero'] at hx649_0)
           replace p649 := eq_true p649
           replace q649 := eq_true q649
           refine start_ (n := 7) (S := fun w' => w'.cell? ⟨gb633, 0, none⟩ = some (.slice Ao8 t626.length co8) ∧ w'.cell? ad649 = some (.int .i64 (rd t646 0))) (ds := []) #[false, false, false, false, false, false, false] (by kernel_rfl) rfl rfl ⟨(blk_cell BK633.out 0).trans rfl, hx649_0⟩ (fun hHeld => ?_)
           generalize w62.drew = w64 at HO_4 HO_6 HO_634000 HO648 BK633 HB hx649_0 hHeld ⊢
           refine pure_ (i := 1) (N := some 63) (v := ?_) (a' := ?_) #[false, true, false, false, false, false, false] rfl rfl (by kernel_rfl) (fun _ _ _ h => h) (Or.inl ⟨by rfl, ?_⟩) ?_ ?_
           rotate_left
           ·exact sb
           rotate_left
           ·exact sa
           refine pure_ (i := 2) (N := some 64) (v := ?_) (a' := ?_) #[false, true, true, false, false, false, false] rfl rfl (by kernel_rfl) (fun _ _ _ h => h) (Or.inl ⟨by rfl, ?_⟩) ?_ ?_
           rotate_left
           ·exact sb
           rotate_left
           ·exact sa
           refine pure_ (i := 3) (N := some 65) (v := ?_) (a' := ?_) #[false, true, true, true, false, false, false] rfl rfl (by kernel_rfl) (fun _ _ _ h => h) (Or.inl ⟨by rfl, ?_⟩) ?_ ?_
           rotate_left
           ·exact sb
           rotate_left
           ·exact sa
           refine take_ (i := 0) (N := some 62) (v := ?_) (a' := ?_) #[true, true, true, true, false, false, false] rfl rfl (by kernel_rfl) (fun _ _ _ h => h) (Or.inl ⟨by rfl, ?_⟩) hHeld ?_ ?_
           rotate_left
           ·rintro w' ⟨s0, s1⟩
            go_simp
            with_reducible rfl
           rotate_left
           ·exact sa
           refine take_ (i := 4) (N := some 66) (v := ?_) (a' := ?_) #[true, true, true, true, true, false, false] rfl rfl (by kernel_rfl) (fun _ _ _ h => h) (Or.inl ⟨by rfl, ?_⟩) hHeld ?_ ?_
           rotate_left
           ·rintro w' ⟨s0, s1⟩
            go_simp
            with_reducible rfl
           rotate_left
           ·exact sa
           refine one_ (i := 5) (N := some 67) #[true, true, true, true, true, true, false] rfl rfl (by kernel_rfl) (by decide) (fun K hK => ?_)
           refine goes_ Try.func9 (by kernel_rfl) rfl #[.agg #[.slice Ao8 t626.length co8], .slice Ao10 t629.length co10, .int .i64 (rd t646 0)] (by rfl) rfl rfl (aq) ?_
           with_reducible refine (impl_WayOut.calls kj4 _ _ t626 _ _ t629 (rd t646 0) t650 _ ?side1 ?side2 ?side3 ?side4 A54.out).mono ?_
           (case side1 => exact cq (Kd.R_reads' HO_634000.out).2.2)
           (case side2 => exact (Kd.R_reads' HO_634000.out).2.1)
           (case side3 => exact cq (Kd.Q_reads' HO_4.out).2.2)
           (case side4 => exact (Kd.Q_reads' HO_4.out).2.1)
           rintro e w65 ⟨v651, rfl, ho0, hb⟩
           have HS1_ := (hb.cell (World.block_lt_of_cell? _ _ (hHeld.2))).trans (hHeld.2)
           refine ⟨_, rfl, ?_⟩
           have HO652 := am (Kd.R_lower (Kd.R_new' (Kd.R_new' ho0 (Kd.R_lt (rq HO_6.out))) (Kd.R_lt (rq HO648.out))) (below_size (Y16)))
           replace HO_4 := am (Kd.Q_below (Y39) hb)
           replace HO_6 := am (Kd.R_elder' (rq HO_6.out) (Kd.R_base ho0) hb)
           replace HO_634000 := am (Kd.R_below (rq HO_634000.out) hb)
           replace HO648 := am (Kd.R_elder' (rq HO648.out) (Kd.R_base ho0) hb)
           replace BK633 := am (blk_below (g := gb633) (o := .cells #[.slice Ao8 t626.length co8] 25 (0, 0)) (kq BK633.out) hb)
           replace HB := am (below_step (Y16) hb)
           (try clear hb)
           (try clear hb2)
           (try clear hk)
           (try clear hi)
           (try clear ho0)
           refine hK.out _ _ ⟨(blk_cell BK633.out 0).trans rfl, HS1_⟩ (fun hHeld => ?_)
           clear hK K
           refine norm_ (a' := ?_) ?_ ?_
           rotate_left
           ·show Act.put _ (some 67) _ = _
            simp only [Act.put, List.setIfInBounds_toArray, List.set_cons_zero, List.set_cons_succ, i64_w, i32_w]
            rfl
           refine pure_ (i := 6) (N := some 8) (v := ?_) (a' := ?_) #[true, true, true, true, true, true, true] rfl rfl (by kernel_rfl) (fun _ _ _ h => h) (Or.inl ⟨by rfl, ?_⟩) ?_ ?_
           rotate_left
           ·exact sb
           rotate_left
           ·exact sa
           refine done_ (by kernel_rfl) ?_
           obtain ⟨Ao66, co66, eo66⟩ := Kd.R_slice HO_6.out
           subst eo66
           obtain ⟨Ao67, co67, eo67⟩ := Kd.R_slice HO652.out
           subst eo67
           have q68 : ((ji57) : Int) ≤ ((t634.length : Int) : Int) := of_decide_eq_true (uq)
           obtain ⟨i068, hi068, _, hsz68, _⟩ := info_parts info3
           have hroom68 : t634.length ≤ co66 := (Kd.R_reads' HO_6.out).2.1
           have hC68 : Kd.C (Kd.int .i64) _ Ao66 t634.length t634 := (Kd.R_reads' HO_6.out).2.2
           have q068 : (0 : Int) ≤ ((ji57) : Int) := of_decide_eq_true (uq)
           have hcut68 := cut_from (P := Try.prog) 29 3 .i64 Try.underlying29 hi068 1 hsz68 Ao66 t634.length co66 (ji57) q068 q68
           have hr68 := Kd.C_drop (m := ((ji57) : Int).toNat) (c := co66) hC68 (by omega) hroom68
           obtain ⟨A68, hA68⟩ : ∃ A1, A1 = (if co66 = ((ji57) : Int).toNat then Ao66 else (Ao66 : Option Addr).map (·.add (((ji57) : Int).toNat * 1))) := ⟨_, rfl⟩
           obtain ⟨c68, hc68⟩ : ∃ c1, c1 = co66 - ((ji57) : Int).toNat := ⟨_, rfl⟩
           have hy68 : y653.length = t634.length - ((ji57) : Int).toNat := (by rw [Ny653.out, List.length_drop] <;> omega)
           rw [show (t634).drop ((ji57) : Int).toNat = y653 from Ny653.out.symm] at hr68
           replace hr68 : Kd.C (Kd.int .i64) _ A68 y653.length y653 := (by rw [hA68]; exact hr68)
           rw [← hy68, ← hA68, ← hc68] at hcut68
           have HR656 := am hr68
           have HC656 := am (show y653.length ≤ c68 from by rw [hy68, hc68]; exact Nat.sub_le_sub_right hroom68 _)
           clear hr68 hC68 hroom68 hi068 hsz68 hc68
           have KY68 := am hy68
           have KA68 := am hA68
           clear hy68 hA68
           have KL68 := am (show ((ji57) : Int).toNat ≤ t634.length from by omega)
           replace q68 := eq_true q68
           try go_wp2_with (first | (go_at_call 10; (with_reducible refine (laws_equalInts.calls kj4 _ _ y653 _ _ t650 t657 _ ?side1 ?side2 ?side3 ?side4 A60.out).mono ?_); (case side1 => repeat (first | exact (by repeat (first | (with_reducible exact HR656.out) | (with_reducible refine Kd.C_alloc ?_ _) | (with_reducible refine Kd.C_drewN ?_ _) | (with_reducible refine Kd.C_drew ?_) | exact HR656.out)) | (with_reducible refine Kd.C_alloc ?_ _) | (with_reducible refine Kd.C_drewN ?_ _) | (with_reducible refine Kd.C_drew ?_))); (case side2 => exact HC656.out); (case side3 => exact cq (Kd.R_reads' HO652.out).2.2); (case side4 => exact (Kd.R_reads' HO652.out).2.1); rintro e w' ⟨rfl, ⟨nd, rfl⟩⟩))
           go_ret
           exact ⟨by first | rfl | (simp [errW_none, errW_some] <;> rfl) | (simp only [← hji57]; first | rfl | (simp [errW_none, errW_some] <;> rfl)) | (simp [*, errW_none, errW_some] <;> rfl), Y16⟩
          ·rw [if_neg c59] at H
           exact absurd H (by simp)
         ·rw [if_neg c58] at H
          exact absurd H (by simp)
        ·rw [if_neg c56] at H
         have c56b0 : decide ((wrap64 ((t634.length : Int) - (t650.length : Int))) ≤ 1) = false := decide_eq_false c56
         clear c56
         exact absurd ((Option.some.inj H).trans hT) Bool.false_ne_true
       ·rw [if_neg c55] at H
        have c55b0 : decide (0 ≤ (wrap64 ((t634.length : Int) - (t650.length : Int)))) = false := decide_eq_false c55
        clear c55
        exact absurd ((Option.some.inj H).trans hT) Bool.false_ne_true
      ·rw [if_neg c53] at H
       exact absurd H (by simp)
def laws_FnWayOutUp.Pure : Prop := ∀ (l0 : List Int), l0.length ≤ maxLen → l0.length * 1 ≤ 140737488351232 → (∀ x ∈ l0, (Lit.int .u8 x).wf = true) → ∃ k, laws_FnWayOutUp.f k l0 = some true
theorem laws_FnWayOutUp.walk (P : laws_FnWayOutUp.Pure) (a0 : Option Addr) (len0 cap0 : Nat) (z0 : List Int) (w : World) (w0 : (a0 = none ∧ len0 = 0 ∧ cap0 = 0 ∧ z0 = []) ∨ ∃ x, a0 = some x ∧ len0 ≤ cap0 ∧ cap0 ≤ maxLen ∧ z0.length = cap0 ∧ (∀ i, i < z0.length → w.cell? (x.add i) = some (.int .u8 (z0.getD i 0))) ∧ ∀ n ∈ z0, (Lit.int .u8 n).wf = true) (y0 : len0 * 1 ≤ 140737488351232) :
  Calls Try.prog 3 #[.slice a0 len0 cap0] w fun e w' => e = .returned (.bool true) ∧ Below w.heap.size w w' := by
 obtain ⟨l0, rfl, hr0, hm0, hw0, hc0⟩ := ReadsInt.ofRowC w0
 obtain ⟨k, h⟩ := P l0 hm0 y0 hw0
 refine (laws_FnWayOutUp.calls k _ _ l0 true w (Kd.C_of_reads (d := (0 : Int)) (h1 := fun _ => rfl) hr0) hc0 rfl h).mono ?_
 rintro e w' ⟨rfl, hd⟩
 exact ⟨rfl, hd⟩
end Go.Proofs.Ytkedkinojeoeaaa.P
end
