/- One part of the proofs on this program: functions of the program as plain functions, that the code comes to them, and facts on them. -/
import Derived.Test.YtbclgpgolbmlpaaYAll1
import Derived.Test.YtbclgpgolbmlpaaYAll3
import Derived.Test.YtbclgpgolbmlpaaYAll6
import Derived.Test.YtbclgpgolbmlpaaYBCEF1
import Derived.Test.YtbclgpgolbmlpaaYEF1
import Derived.Test.YtbclgpgolbmlpaaYWAuto
section
namespace Go.Proofs.Ytbclgpgolbmlpaa.P
open Go.RowKit Go.Proofs.YtbclgpgolbmlpaaW.PrintWords Go.Proofs.YtbclgpgolbmlpaaW.PrintLast Go.Proofs.YtbclgpgolbmlpaaW.PrintMore
attribute [local go_sem] max2_int min2_int max_two min_two max_three min_three max_four min_four isSome_cell_setCell   -- for this text's walks alone
set_option linter.unusedVariables false
set_option linter.unusedSimpArgs false
def laws_FnExactWayOut.j0 : Nat → List (S53) → Int → List Int → List Int → Bool → List (S66) → Option (Bool)
  | 0, _, _, _, _, _, _ => none
  | k + 1, x1, x2, x8, x11, x67, x640000 => if x67 = true then (some false) else ((laws_markIntS.f k x11 1).bind fun bt675 => ((laws_heldIntS.f k bt675.2 1).bind fun t677 => (if t677 < 0 then (some false) else (if t677 = bt675.1 then ((laws_toTree.f k x640000).bind fun t678 => ((laws_toLineS.f k x1).bind fun t681 => ((impl_WayOut.f k t678 t681 x2).bind fun t684 => ((laws_eqIntS.f k t684 x8).bind fun t687 => (if t687 = true then ((laws_heldIntS.f k bt675.2 1).bind fun t688 => (if t688 < 0 then (some false) else (if t688 = bt675.1 then (some true) else (some false)))) else (some false)))))) else (some false)))))
def laws_FnExactWayOut.f (k : Nat) (l0_0 : List (S66)) (l1 : List (S53)) (a2 : Int) : Option (Bool) := (laws_szTree.f k l0_0 1048576).bind fun t640 => (if t640 < 0 then (some true) else ((laws_szLineS.f l1 t640).bind fun t641 => (if t641 < 0 then (some true) else ((laws_toTree.f k l0_0).bind fun t642 => ((laws_toLineS.f k l1).bind fun t645 => ((spec_WayOut.f k t642 t645 a2).bind fun t648 => ((laws_toTree.f k l0_0).bind fun t651 => ((laws_toLineS.f k l1).bind fun t655 => ((impl_WayOut.f k t651 t655 a2).bind fun t658 => ((laws_eqIntS.f k t658 t648).bind fun t661 => (if t661 = true then ((laws_toTree.f k l0_0).bind fun t662 => ((laws_eqTree.f k t651 t662).bind fun t665 => (if t665 = true then ((laws_toLineS.f k l1).bind fun t666 => ((laws_eqLineS.f k t655 t666).bind fun t669 => (if t669 = true then ((laws_markTree.f k t651 1).bind fun bt670 => ((laws_markLineS.f k t655 bt670.1).bind fun bt672 => (if bt672.1 < 0 then (laws_FnExactWayOut.j0 k l1 a2 t648 t658 true l0_0) else ((laws_eqIntS.f k t658 t648).bind fun t674 => (laws_FnExactWayOut.j0 k l1 a2 t648 t658 (!t674) l0_0))))) else (some false)))) else (some false)))) else (some false))))))))))))
theorem laws_FnExactWayOut.mono_l : ∀ k, (∀ y0 y1 y2 y3 y4 y5, LeO (laws_FnExactWayOut.j0 k y0 y1 y2 y3 y4 y5) (laws_FnExactWayOut.j0 (k + 1) y0 y1 y2 y3 y4 y5))
  | 0 => fun _ _ _ _ _ _ r h => by simp [laws_FnExactWayOut.j0] at h
  | k + 1 => by
    have ih0 := laws_FnExactWayOut.mono_l k
    · intro y0 y1 y2 y3 y4 y5
      unfold laws_FnExactWayOut.j0
      repeat' first
      | (with_reducible exact ih0 _ _ _ _ _ _)
      | (with_reducible exact impl_WayOut.mono _ _ _ _)
      | (with_reducible exact laws_eqIntS.mono _ _ _)
      | (with_reducible exact laws_eqLineS.mono _ _ _)
      | (with_reducible exact laws_eqTree.mono _ _ _)
      | (with_reducible exact laws_heldIntS.mono _ _ _)
      | (with_reducible exact laws_markIntS.mono _ _ _)
      | (with_reducible exact laws_markLineS.mono _ _ _)
      | (with_reducible exact laws_markTree.mono _ _ _)
      | (with_reducible exact laws_szTree.mono _ _ _)
      | (with_reducible exact laws_toLineS.mono _ _)
      | (with_reducible exact laws_toTree.mono _ _)
      | (with_reducible exact spec_WayOut.mono _ _ _ _)
      | (with_reducible exact LeO.refl _)
      | (with_reducible exact LeO.none _)
      | (with_reducible refine LeO.ite ?_ ?_)
      | (with_reducible refine LeO.bind ?_ (fun _ => ?_))
      | exact ih0 _ _ _ _ _ _
      | exact impl_WayOut.mono _ _ _ _
      | exact laws_eqIntS.mono _ _ _
      | exact laws_eqLineS.mono _ _ _
      | exact laws_eqTree.mono _ _ _
      | exact laws_heldIntS.mono _ _ _
      | exact laws_markIntS.mono _ _ _
      | exact laws_markLineS.mono _ _ _
      | exact laws_markTree.mono _ _ _
      | exact laws_szTree.mono _ _ _
      | exact laws_toLineS.mono _ _
      | exact laws_toTree.mono _ _
      | exact spec_WayOut.mono _ _ _ _
      | exact LeO.none _
      | refine LeO.ite ?_ ?_
      | refine LeO.bind ?_ (fun _ => ?_)
theorem laws_FnExactWayOut.mono : ∀ a0 a1 a2 k, LeO (laws_FnExactWayOut.f k a0 a1 a2) (laws_FnExactWayOut.f (k + 1) a0 a1 a2) := by
  intro a0 a1 a2 k
  have ih0 := laws_FnExactWayOut.mono_l k
  unfold laws_FnExactWayOut.f
  repeat' first
      | (with_reducible exact ih0 _ _ _ _ _ _)
      | (with_reducible exact impl_WayOut.mono _ _ _ _)
      | (with_reducible exact laws_eqIntS.mono _ _ _)
      | (with_reducible exact laws_eqLineS.mono _ _ _)
      | (with_reducible exact laws_eqTree.mono _ _ _)
      | (with_reducible exact laws_heldIntS.mono _ _ _)
      | (with_reducible exact laws_markIntS.mono _ _ _)
      | (with_reducible exact laws_markLineS.mono _ _ _)
      | (with_reducible exact laws_markTree.mono _ _ _)
      | (with_reducible exact laws_szTree.mono _ _ _)
      | (with_reducible exact laws_toLineS.mono _ _)
      | (with_reducible exact laws_toTree.mono _ _)
      | (with_reducible exact spec_WayOut.mono _ _ _ _)
      | (with_reducible exact LeO.refl _)
      | (with_reducible exact LeO.none _)
      | (with_reducible refine LeO.ite ?_ ?_)
      | (with_reducible refine LeO.bind ?_ (fun _ => ?_))
      | exact ih0 _ _ _ _ _ _
      | exact impl_WayOut.mono _ _ _ _
      | exact laws_eqIntS.mono _ _ _
      | exact laws_eqLineS.mono _ _ _
      | exact laws_eqTree.mono _ _ _
      | exact laws_heldIntS.mono _ _ _
      | exact laws_markIntS.mono _ _ _
      | exact laws_markLineS.mono _ _ _
      | exact laws_markTree.mono _ _ _
      | exact laws_szTree.mono _ _ _
      | exact laws_toLineS.mono _ _
      | exact laws_toTree.mono _ _
      | exact spec_WayOut.mono _ _ _ _
      | exact LeO.none _
      | refine LeO.ite ?_ ?_
      | refine LeO.bind ?_ (fun _ => ?_)
set_option maxHeartbeats 8000000 in
set_option maxRecDepth 100000 in
theorem laws_FnExactWayOut.calls (k : Nat) (A0_0 : Option Addr) (c0_0 : Nat) (l0_0 : List (S66)) (A1 : Option Addr) (c1 : Nat) (l1 : List (S53)) (a2 : Int) (r : Bool) (w : World) (hr0_0 : Kd.C k66 w A0_0 l0_0.length l0_0) (hc0_0 : l0_0.length ≤ c0_0) (hr1 : Kd.C k53 w A1 l1.length l1) (hc1 : l1.length ≤ c1) (hT : r = true) (h : laws_FnExactWayOut.f k l0_0 l1 a2 = some r) :
    Calls Try.prog 7 #[.agg #[.slice A0_0 l0_0.length c0_0], .slice A1 l1.length c1, .int .i64 a2] w fun e w' => e = .returned (.bool r) ∧ Below w.heap.size w w' := by
  have hu24 := Try.underlying24
  have hu31 := Try.underlying31
  have HR0_0 := Aside0.mk hr0_0
  have HC0_0 := Aside0.mk hc0_0
  clear hr0_0 hc0_0
  have HR1 := Aside0.mk hr1
  have HC1 := Aside0.mk hc1
  clear hr1 hc1
  have HB := Aside0.mk (Below.refl w.heap.size w)
  have H : ((laws_szTree.f k l0_0 1048576).bind fun t640 => (if t640 < 0 then (some true) else ((laws_szLineS.f l1 t640).bind fun t641 => (if t641 < 0 then (some true) else ((laws_toTree.f k l0_0).bind fun t642 => ((laws_toLineS.f k l1).bind fun t645 => ((spec_WayOut.f k t642 t645 a2).bind fun t648 => ((laws_toTree.f k l0_0).bind fun t651 => ((laws_toLineS.f k l1).bind fun t655 => ((impl_WayOut.f k t651 t655 a2).bind fun t658 => ((laws_eqIntS.f k t658 t648).bind fun t661 => (if t661 = true then ((laws_toTree.f k l0_0).bind fun t662 => ((laws_eqTree.f k t651 t662).bind fun t665 => (if t665 = true then ((laws_toLineS.f k l1).bind fun t666 => ((laws_eqLineS.f k t655 t666).bind fun t669 => (if t669 = true then ((laws_markTree.f k t651 1).bind fun bt670 => ((laws_markLineS.f k t655 bt670.1).bind fun bt672 => (if bt672.1 < 0 then (laws_FnExactWayOut.j0 k l1 a2 t648 t658 true l0_0) else ((laws_eqIntS.f k t658 t648).bind fun t674 => (laws_FnExactWayOut.j0 k l1 a2 t648 t658 (!t674) l0_0))))) else (some false)))) else (some false)))) else (some false))))))))))))) = some r := h
  clear h
  replace H := Option.bind_eq_some_iff.mp H
  obtain ⟨t640, A40, H⟩ := H
  replace H : (if t640 < 0 then (some true) else ((laws_szLineS.f l1 t640).bind fun t641 => (if t641 < 0 then (some true) else ((laws_toTree.f k l0_0).bind fun t642 => ((laws_toLineS.f k l1).bind fun t645 => ((spec_WayOut.f k t642 t645 a2).bind fun t648 => ((laws_toTree.f k l0_0).bind fun t651 => ((laws_toLineS.f k l1).bind fun t655 => ((impl_WayOut.f k t651 t655 a2).bind fun t658 => ((laws_eqIntS.f k t658 t648).bind fun t661 => (if t661 = true then ((laws_toTree.f k l0_0).bind fun t662 => ((laws_eqTree.f k t651 t662).bind fun t665 => (if t665 = true then ((laws_toLineS.f k l1).bind fun t666 => ((laws_eqLineS.f k t655 t666).bind fun t669 => (if t669 = true then ((laws_markTree.f k t651 1).bind fun bt670 => ((laws_markLineS.f k t655 bt670.1).bind fun bt672 => (if bt672.1 < 0 then (laws_FnExactWayOut.j0 k l1 a2 t648 t658 true l0_0) else ((laws_eqIntS.f k t658 t648).bind fun t674 => (laws_FnExactWayOut.j0 k l1 a2 t648 t658 (!t674) l0_0))))) else (some false)))) else (some false)))) else (some false)))))))))))) = some r := H
  have A4 := Aside0.mk A40
  clear A40
  by_cases c5 : t640 < 0
  · rw [if_pos c5] at H
    have c5b0 : decide (t640 < 0) = true := decide_eq_true c5
    clear c5
    obtain rfl := Option.some.inj H
    go_enter Try.func7, Try.ntmps7
    go_wp2_with (first | ((with_reducible refine gate_dst (N := 3) rfl ?_); refine box_event ?hg (N := 3) ?hd (cs := #[.slice A0_0 l0_0.length c0_0]) (t := 24) ?hr ?_; (case hd => rfl); (case hg => rfl); (case hr => first | (go_simp; done) | (go_simp; rfl)); intro gb639 hg w6 hbox hb; have n0_ := Aside0.mk (below_step (bq) hb); have n1_ := Aside0.mk (hbox); have n2_ := Aside0.mk ((by rw [hg]; exact (below_size (bq)) : w.heap.size ≤ gb639)); have n3_ := Aside0.mk ((by rw [hg]; exact (below_size (bq)) : w.heap.size ≤ gb639)); clear HB; have HB := n0_; have BK639 := n1_; have GW639 := n2_; have GE639 := n3_; clear n0_ n1_ n2_ n3_; clear hb hbox hg; have hcz7_0 : w6.cell? ⟨gb639, 0, none⟩ = some (.slice A0_0 l0_0.length c0_0) := (blk_cell BK639.out 0).trans rfl; have hfz7_0 := blk_frozen BK639.out 0) | ((with_reducible refine gate_callee (f := 9) rfl ?_); refine goesL_ (some 18) rfl rfl Try.func9 (by kernel_rfl) rfl #[.agg #[.slice A0_0 l0_0.length c0_0], .int .i64 1048576] rfl (aq) ?_; (with_reducible refine (laws_szTree.calls k _ _ l0_0 1048576 t640 _ ?side1 ?side2 A4.out).mono ?_); (case side1 => exact cq (Kd.C_below HR0_0.out HB.out)); (case side2 => exact HC0_0.out); rintro e w8 ⟨rfl, hb⟩; refine ⟨_, rfl, ?_⟩; have n0_ := Aside0.mk (blk_below (g := gb639) (o := .cells #[.slice A0_0 l0_0.length c0_0] 24 (0, 0)) (kq BK639.out) hb); have n1_ := Aside0.mk (below_step (by repeat (first | (with_reducible first | exact HB.out | apply below_alloc | apply pw_below_drewN | apply below_drew1 | refine below_set ?_ GE639.out) | exact HB.out)) hb); clear BK639; clear HB; have BK639 := n0_; have HB := n1_; clear n0_ n1_; (try clear hb); (try clear hb2); (try clear hk); (try clear hi)))
    go_ret
    exact ⟨by first | rfl | (simp [errW_none, errW_some] <;> rfl) | (simp [*, errW_none, errW_some] <;> rfl), by repeat (first | (with_reducible first | exact HB.out | apply below_alloc | apply pw_below_drewN | apply below_drew1 | refine below_set ?_ GE639.out) | exact HB.out)⟩
  · rw [if_neg c5] at H
    have c5b0 : decide (t640 < 0) = false := decide_eq_false c5
    clear c5
    replace H := Option.bind_eq_some_iff.mp H
    obtain ⟨t641, A90, H⟩ := H
    replace H : (if t641 < 0 then (some true) else ((laws_toTree.f k l0_0).bind fun t642 => ((laws_toLineS.f k l1).bind fun t645 => ((spec_WayOut.f k t642 t645 a2).bind fun t648 => ((laws_toTree.f k l0_0).bind fun t651 => ((laws_toLineS.f k l1).bind fun t655 => ((impl_WayOut.f k t651 t655 a2).bind fun t658 => ((laws_eqIntS.f k t658 t648).bind fun t661 => (if t661 = true then ((laws_toTree.f k l0_0).bind fun t662 => ((laws_eqTree.f k t651 t662).bind fun t665 => (if t665 = true then ((laws_toLineS.f k l1).bind fun t666 => ((laws_eqLineS.f k t655 t666).bind fun t669 => (if t669 = true then ((laws_markTree.f k t651 1).bind fun bt670 => ((laws_markLineS.f k t655 bt670.1).bind fun bt672 => (if bt672.1 < 0 then (laws_FnExactWayOut.j0 k l1 a2 t648 t658 true l0_0) else ((laws_eqIntS.f k t658 t648).bind fun t674 => (laws_FnExactWayOut.j0 k l1 a2 t648 t658 (!t674) l0_0))))) else (some false)))) else (some false)))) else (some false)))))))))) = some r := H
    have A9 := Aside0.mk A90
    clear A90
    by_cases c10 : t641 < 0
    · rw [if_pos c10] at H
      have c10b0 : decide (t641 < 0) = true := decide_eq_true c10
      clear c10
      obtain rfl := Option.some.inj H
      go_enter Try.func7, Try.ntmps7
      go_wp2_with (first | ((with_reducible refine gate_dst (N := 3) rfl ?_); refine box_event ?hg (N := 3) ?hd (cs := #[.slice A0_0 l0_0.length c0_0]) (t := 24) ?hr ?_; (case hd => rfl); (case hg => rfl); (case hr => first | (go_simp; done) | (go_simp; rfl)); intro gb639 hg w11 hbox hb; have n0_ := Aside0.mk (below_step (bq) hb); have n1_ := Aside0.mk (hbox); have n2_ := Aside0.mk ((by rw [hg]; exact (below_size (bq)) : w.heap.size ≤ gb639)); have n3_ := Aside0.mk ((by rw [hg]; exact (below_size (bq)) : w.heap.size ≤ gb639)); clear HB; have HB := n0_; have BK639 := n1_; have GW639 := n2_; have GE639 := n3_; clear n0_ n1_ n2_ n3_; clear hb hbox hg; have hcz12_0 : w11.cell? ⟨gb639, 0, none⟩ = some (.slice A0_0 l0_0.length c0_0) := (blk_cell BK639.out 0).trans rfl; have hfz12_0 := blk_frozen BK639.out 0) | ((with_reducible refine gate_callee (f := 9) rfl ?_); refine goesL_ (some 18) rfl rfl Try.func9 (by kernel_rfl) rfl #[.agg #[.slice A0_0 l0_0.length c0_0], .int .i64 1048576] rfl (aq) ?_; (with_reducible refine (laws_szTree.calls k _ _ l0_0 1048576 t640 _ ?side1 ?side2 A4.out).mono ?_); (case side1 => exact cq (Kd.C_below HR0_0.out HB.out)); (case side2 => exact HC0_0.out); rintro e w13 ⟨rfl, hb⟩; refine ⟨_, rfl, ?_⟩; have n0_ := Aside0.mk (blk_below (g := gb639) (o := .cells #[.slice A0_0 l0_0.length c0_0] 24 (0, 0)) (kq BK639.out) hb); have n1_ := Aside0.mk (below_step (by repeat (first | (with_reducible first | exact HB.out | apply below_alloc | apply pw_below_drewN | apply below_drew1 | refine below_set ?_ GE639.out) | exact HB.out)) hb); clear BK639; clear HB; have BK639 := n0_; have HB := n1_; clear n0_ n1_; (try clear hb); (try clear hb2); (try clear hk); (try clear hi)) | ((with_reducible refine gate_callee (f := 10) rfl ?_); refine goesL_ (some 23) rfl rfl Try.func10 (by kernel_rfl) rfl #[.slice A1 l1.length c1, .int .i64 t640] rfl (aq) ?_; (with_reducible refine (laws_szLineS.calls _ _ l1 t640 t641 _ ?side1 ?side2 A9.out).mono ?_); (case side1 => exact cq (Kd.C_below HR1.out HB.out)); (case side2 => exact HC1.out); rintro e w' ⟨rfl, ⟨nd, rfl⟩⟩; refine ⟨_, rfl, ?_⟩))
      go_ret
      exact ⟨by first | rfl | (simp [errW_none, errW_some] <;> rfl) | (simp [*, errW_none, errW_some] <;> rfl), by repeat (first | (with_reducible first | exact HB.out | apply below_alloc | apply pw_below_drewN | apply below_drew1 | refine below_set ?_ GE639.out) | exact HB.out)⟩
    · rw [if_neg c10] at H
      have c10b0 : decide (t641 < 0) = false := decide_eq_false c10
      clear c10
      replace H := Option.bind_eq_some_iff.mp H
      obtain ⟨t642, A140, H⟩ := H
      replace H : ((laws_toLineS.f k l1).bind fun t645 => ((spec_WayOut.f k t642 t645 a2).bind fun t648 => ((laws_toTree.f k l0_0).bind fun t651 => ((laws_toLineS.f k l1).bind fun t655 => ((impl_WayOut.f k t651 t655 a2).bind fun t658 => ((laws_eqIntS.f k t658 t648).bind fun t661 => (if t661 = true then ((laws_toTree.f k l0_0).bind fun t662 => ((laws_eqTree.f k t651 t662).bind fun t665 => (if t665 = true then ((laws_toLineS.f k l1).bind fun t666 => ((laws_eqLineS.f k t655 t666).bind fun t669 => (if t669 = true then ((laws_markTree.f k t651 1).bind fun bt670 => ((laws_markLineS.f k t655 bt670.1).bind fun bt672 => (if bt672.1 < 0 then (laws_FnExactWayOut.j0 k l1 a2 t648 t658 true l0_0) else ((laws_eqIntS.f k t658 t648).bind fun t674 => (laws_FnExactWayOut.j0 k l1 a2 t648 t658 (!t674) l0_0))))) else (some false)))) else (some false)))) else (some false)))))))) = some r := H
      have A14 := Aside0.mk A140
      clear A140
      replace H := Option.bind_eq_some_iff.mp H
      obtain ⟨t645, A150, H⟩ := H
      replace H : ((spec_WayOut.f k t642 t645 a2).bind fun t648 => ((laws_toTree.f k l0_0).bind fun t651 => ((laws_toLineS.f k l1).bind fun t655 => ((impl_WayOut.f k t651 t655 a2).bind fun t658 => ((laws_eqIntS.f k t658 t648).bind fun t661 => (if t661 = true then ((laws_toTree.f k l0_0).bind fun t662 => ((laws_eqTree.f k t651 t662).bind fun t665 => (if t665 = true then ((laws_toLineS.f k l1).bind fun t666 => ((laws_eqLineS.f k t655 t666).bind fun t669 => (if t669 = true then ((laws_markTree.f k t651 1).bind fun bt670 => ((laws_markLineS.f k t655 bt670.1).bind fun bt672 => (if bt672.1 < 0 then (laws_FnExactWayOut.j0 k l1 a2 t648 t658 true l0_0) else ((laws_eqIntS.f k t658 t648).bind fun t674 => (laws_FnExactWayOut.j0 k l1 a2 t648 t658 (!t674) l0_0))))) else (some false)))) else (some false)))) else (some false))))))) = some r := H
      have A15 := Aside0.mk A150
      clear A150
      replace H := Option.bind_eq_some_iff.mp H
      obtain ⟨t648, A160, H⟩ := H
      replace H : ((laws_toTree.f k l0_0).bind fun t651 => ((laws_toLineS.f k l1).bind fun t655 => ((impl_WayOut.f k t651 t655 a2).bind fun t658 => ((laws_eqIntS.f k t658 t648).bind fun t661 => (if t661 = true then ((laws_toTree.f k l0_0).bind fun t662 => ((laws_eqTree.f k t651 t662).bind fun t665 => (if t665 = true then ((laws_toLineS.f k l1).bind fun t666 => ((laws_eqLineS.f k t655 t666).bind fun t669 => (if t669 = true then ((laws_markTree.f k t651 1).bind fun bt670 => ((laws_markLineS.f k t655 bt670.1).bind fun bt672 => (if bt672.1 < 0 then (laws_FnExactWayOut.j0 k l1 a2 t648 t658 true l0_0) else ((laws_eqIntS.f k t658 t648).bind fun t674 => (laws_FnExactWayOut.j0 k l1 a2 t648 t658 (!t674) l0_0))))) else (some false)))) else (some false)))) else (some false)))))) = some r := H
      have A16 := Aside0.mk A160
      clear A160
      replace H := Option.bind_eq_some_iff.mp H
      obtain ⟨t651, A170, H⟩ := H
      replace H : ((laws_toLineS.f k l1).bind fun t655 => ((impl_WayOut.f k t651 t655 a2).bind fun t658 => ((laws_eqIntS.f k t658 t648).bind fun t661 => (if t661 = true then ((laws_toTree.f k l0_0).bind fun t662 => ((laws_eqTree.f k t651 t662).bind fun t665 => (if t665 = true then ((laws_toLineS.f k l1).bind fun t666 => ((laws_eqLineS.f k t655 t666).bind fun t669 => (if t669 = true then ((laws_markTree.f k t651 1).bind fun bt670 => ((laws_markLineS.f k t655 bt670.1).bind fun bt672 => (if bt672.1 < 0 then (laws_FnExactWayOut.j0 k l1 a2 t648 t658 true l0_0) else ((laws_eqIntS.f k t658 t648).bind fun t674 => (laws_FnExactWayOut.j0 k l1 a2 t648 t658 (!t674) l0_0))))) else (some false)))) else (some false)))) else (some false))))) = some r := H
      have A17 := Aside0.mk A170
      clear A170
      replace H := Option.bind_eq_some_iff.mp H
      obtain ⟨t655, A180, H⟩ := H
      replace H : ((impl_WayOut.f k t651 t655 a2).bind fun t658 => ((laws_eqIntS.f k t658 t648).bind fun t661 => (if t661 = true then ((laws_toTree.f k l0_0).bind fun t662 => ((laws_eqTree.f k t651 t662).bind fun t665 => (if t665 = true then ((laws_toLineS.f k l1).bind fun t666 => ((laws_eqLineS.f k t655 t666).bind fun t669 => (if t669 = true then ((laws_markTree.f k t651 1).bind fun bt670 => ((laws_markLineS.f k t655 bt670.1).bind fun bt672 => (if bt672.1 < 0 then (laws_FnExactWayOut.j0 k l1 a2 t648 t658 true l0_0) else ((laws_eqIntS.f k t658 t648).bind fun t674 => (laws_FnExactWayOut.j0 k l1 a2 t648 t658 (!t674) l0_0))))) else (some false)))) else (some false)))) else (some false)))) = some r := H
      have A18 := Aside0.mk A180
      clear A180
      replace H := Option.bind_eq_some_iff.mp H
      obtain ⟨t658, A190, H⟩ := H
      replace H : ((laws_eqIntS.f k t658 t648).bind fun t661 => (if t661 = true then ((laws_toTree.f k l0_0).bind fun t662 => ((laws_eqTree.f k t651 t662).bind fun t665 => (if t665 = true then ((laws_toLineS.f k l1).bind fun t666 => ((laws_eqLineS.f k t655 t666).bind fun t669 => (if t669 = true then ((laws_markTree.f k t651 1).bind fun bt670 => ((laws_markLineS.f k t655 bt670.1).bind fun bt672 => (if bt672.1 < 0 then (laws_FnExactWayOut.j0 k l1 a2 t648 t658 true l0_0) else ((laws_eqIntS.f k t658 t648).bind fun t674 => (laws_FnExactWayOut.j0 k l1 a2 t648 t658 (!t674) l0_0))))) else (some false)))) else (some false)))) else (some false))) = some r := H
      have A19 := Aside0.mk A190
      clear A190
      replace H := Option.bind_eq_some_iff.mp H
      obtain ⟨t661, A200, H⟩ := H
      replace H : (if t661 = true then ((laws_toTree.f k l0_0).bind fun t662 => ((laws_eqTree.f k t651 t662).bind fun t665 => (if t665 = true then ((laws_toLineS.f k l1).bind fun t666 => ((laws_eqLineS.f k t655 t666).bind fun t669 => (if t669 = true then ((laws_markTree.f k t651 1).bind fun bt670 => ((laws_markLineS.f k t655 bt670.1).bind fun bt672 => (if bt672.1 < 0 then (laws_FnExactWayOut.j0 k l1 a2 t648 t658 true l0_0) else ((laws_eqIntS.f k t658 t648).bind fun t674 => (laws_FnExactWayOut.j0 k l1 a2 t648 t658 (!t674) l0_0))))) else (some false)))) else (some false)))) else (some false)) = some r := H
      have A20 := Aside0.mk A200
      clear A200
      by_cases c21 : t661 = true
      · subst c21
        have H1 : ((laws_toTree.f k l0_0).bind fun t662 => ((laws_eqTree.f k t651 t662).bind fun t665 => (if t665 = true then ((laws_toLineS.f k l1).bind fun t666 => ((laws_eqLineS.f k t655 t666).bind fun t669 => (if t669 = true then ((laws_markTree.f k t651 1).bind fun bt670 => ((laws_markLineS.f k t655 bt670.1).bind fun bt672 => (if bt672.1 < 0 then (laws_FnExactWayOut.j0 k l1 a2 t648 t658 true l0_0) else ((laws_eqIntS.f k t658 t648).bind fun t674 => (laws_FnExactWayOut.j0 k l1 a2 t648 t658 (!t674) l0_0))))) else (some false)))) else (some false)))) = some r := by rw [if_pos rfl] at H; exact H
        clear H
        have H := H1
        clear H1
        replace H := Option.bind_eq_some_iff.mp H
        obtain ⟨t662, A220, H⟩ := H
        replace H : ((laws_eqTree.f k t651 t662).bind fun t665 => (if t665 = true then ((laws_toLineS.f k l1).bind fun t666 => ((laws_eqLineS.f k t655 t666).bind fun t669 => (if t669 = true then ((laws_markTree.f k t651 1).bind fun bt670 => ((laws_markLineS.f k t655 bt670.1).bind fun bt672 => (if bt672.1 < 0 then (laws_FnExactWayOut.j0 k l1 a2 t648 t658 true l0_0) else ((laws_eqIntS.f k t658 t648).bind fun t674 => (laws_FnExactWayOut.j0 k l1 a2 t648 t658 (!t674) l0_0))))) else (some false)))) else (some false))) = some r := H
        have A22 := Aside0.mk A220
        clear A220
        replace H := Option.bind_eq_some_iff.mp H
        obtain ⟨t665, A230, H⟩ := H
        replace H : (if t665 = true then ((laws_toLineS.f k l1).bind fun t666 => ((laws_eqLineS.f k t655 t666).bind fun t669 => (if t669 = true then ((laws_markTree.f k t651 1).bind fun bt670 => ((laws_markLineS.f k t655 bt670.1).bind fun bt672 => (if bt672.1 < 0 then (laws_FnExactWayOut.j0 k l1 a2 t648 t658 true l0_0) else ((laws_eqIntS.f k t658 t648).bind fun t674 => (laws_FnExactWayOut.j0 k l1 a2 t648 t658 (!t674) l0_0))))) else (some false)))) else (some false)) = some r := H
        have A23 := Aside0.mk A230
        clear A230
        by_cases c24 : t665 = true
        · subst c24
          have H1 : ((laws_toLineS.f k l1).bind fun t666 => ((laws_eqLineS.f k t655 t666).bind fun t669 => (if t669 = true then ((laws_markTree.f k t651 1).bind fun bt670 => ((laws_markLineS.f k t655 bt670.1).bind fun bt672 => (if bt672.1 < 0 then (laws_FnExactWayOut.j0 k l1 a2 t648 t658 true l0_0) else ((laws_eqIntS.f k t658 t648).bind fun t674 => (laws_FnExactWayOut.j0 k l1 a2 t648 t658 (!t674) l0_0))))) else (some false)))) = some r := by rw [if_pos rfl] at H; exact H
          clear H
          have H := H1
          clear H1
          replace H := Option.bind_eq_some_iff.mp H
          obtain ⟨t666, A250, H⟩ := H
          replace H : ((laws_eqLineS.f k t655 t666).bind fun t669 => (if t669 = true then ((laws_markTree.f k t651 1).bind fun bt670 => ((laws_markLineS.f k t655 bt670.1).bind fun bt672 => (if bt672.1 < 0 then (laws_FnExactWayOut.j0 k l1 a2 t648 t658 true l0_0) else ((laws_eqIntS.f k t658 t648).bind fun t674 => (laws_FnExactWayOut.j0 k l1 a2 t648 t658 (!t674) l0_0))))) else (some false))) = some r := H
          have A25 := Aside0.mk A250
          clear A250
          replace H := Option.bind_eq_some_iff.mp H
          obtain ⟨t669, A260, H⟩ := H
          replace H : (if t669 = true then ((laws_markTree.f k t651 1).bind fun bt670 => ((laws_markLineS.f k t655 bt670.1).bind fun bt672 => (if bt672.1 < 0 then (laws_FnExactWayOut.j0 k l1 a2 t648 t658 true l0_0) else ((laws_eqIntS.f k t658 t648).bind fun t674 => (laws_FnExactWayOut.j0 k l1 a2 t648 t658 (!t674) l0_0))))) else (some false)) = some r := H
          have A26 := Aside0.mk A260
          clear A260
          by_cases c27 : t669 = true
          · subst c27
            have H1 : ((laws_markTree.f k t651 1).bind fun bt670 => ((laws_markLineS.f k t655 bt670.1).bind fun bt672 => (if bt672.1 < 0 then (laws_FnExactWayOut.j0 k l1 a2 t648 t658 true l0_0) else ((laws_eqIntS.f k t658 t648).bind fun t674 => (laws_FnExactWayOut.j0 k l1 a2 t648 t658 (!t674) l0_0))))) = some r := by rw [if_pos rfl] at H; exact H
            clear H
            have H := H1
            clear H1
            replace H := Option.bind_eq_some_iff.mp H
            obtain ⟨⟨t670, t671⟩, A280, H⟩ := H
            replace H : ((laws_markLineS.f k t655 t670).bind fun bt672 => (if bt672.1 < 0 then (laws_FnExactWayOut.j0 k l1 a2 t648 t658 true l0_0) else ((laws_eqIntS.f k t658 t648).bind fun t674 => (laws_FnExactWayOut.j0 k l1 a2 t648 t658 (!t674) l0_0)))) = some r := H
            have A28 := Aside0.mk A280
            clear A280
            replace H := Option.bind_eq_some_iff.mp H
            obtain ⟨⟨t672, t673⟩, A290, H⟩ := H
            replace H : (if t672 < 0 then (laws_FnExactWayOut.j0 k l1 a2 t648 t658 true l0_0) else ((laws_eqIntS.f k t658 t648).bind fun t674 => (laws_FnExactWayOut.j0 k l1 a2 t648 t658 (!t674) l0_0))) = some r := H
            have A29 := Aside0.mk A290
            clear A290
            have HC30 := Aside0.mk H
            clear H
            go_enter Try.func7, Try.ntmps7
            try go_wp2_with (first | ((with_reducible refine gate_dst (N := 3) rfl ?_); refine box_event ?hg (N := 3) ?hd (cs := #[.slice A0_0 l0_0.length c0_0]) (t := 24) ?hr ?_; (case hd => rfl); (case hg => rfl); (case hr => first | (go_simp; done) | (go_simp; rfl)); intro gb639 hg w31 hbox hb; have n0_ := Aside0.mk (below_step (bq) hb); have n1_ := Aside0.mk (hbox); have n2_ := Aside0.mk ((by rw [hg]; exact (below_size (bq)) : w.heap.size ≤ gb639)); have n3_ := Aside0.mk ((by rw [hg]; exact (below_size (bq)) : w.heap.size ≤ gb639)); clear HB; have HB := n0_; have BK639 := n1_; have GW639 := n2_; have GE639 := n3_; clear n0_ n1_ n2_ n3_; clear hb hbox hg; have hcz32_0 : w31.cell? ⟨gb639, 0, none⟩ = some (.slice A0_0 l0_0.length c0_0) := (blk_cell BK639.out 0).trans rfl; have hfz32_0 := blk_frozen BK639.out 0) | ((with_reducible refine gate_callee (f := 9) rfl ?_); refine goesL_ (some 18) rfl rfl Try.func9 (by kernel_rfl) rfl #[.agg #[.slice A0_0 l0_0.length c0_0], .int .i64 1048576] rfl (aq) ?_; (with_reducible refine (laws_szTree.calls k _ _ l0_0 1048576 t640 _ ?side1 ?side2 A4.out).mono ?_); (case side1 => exact cq (Kd.C_below HR0_0.out HB.out)); (case side2 => exact HC0_0.out); rintro e w33 ⟨rfl, hb⟩; refine ⟨_, rfl, ?_⟩; have n0_ := Aside0.mk (blk_below (g := gb639) (o := .cells #[.slice A0_0 l0_0.length c0_0] 24 (0, 0)) (kq BK639.out) hb); have n1_ := Aside0.mk (below_step (by repeat (first | (with_reducible first | exact HB.out | apply below_alloc | apply pw_below_drewN | apply below_drew1 | refine below_set ?_ GE639.out) | exact HB.out)) hb); clear BK639; clear HB; have BK639 := n0_; have HB := n1_; clear n0_ n1_; (try clear hb); (try clear hb2); (try clear hk); (try clear hi)) | ((with_reducible refine gate_callee (f := 10) rfl ?_); refine goesL_ (some 23) rfl rfl Try.func10 (by kernel_rfl) rfl #[.slice A1 l1.length c1, .int .i64 t640] rfl (aq) ?_; (with_reducible refine (laws_szLineS.calls _ _ l1 t640 t641 _ ?side1 ?side2 A9.out).mono ?_); (case side1 => exact cq (Kd.C_below HR1.out HB.out)); (case side2 => exact HC1.out); rintro e w' ⟨rfl, ⟨nd, rfl⟩⟩; refine ⟨_, rfl, ?_⟩; (try (rw [drewN_self w33]; generalize hq_ : World.drewN w33 _ = w33; have n0_ : Aside0 (w33.heap[gb639]? = some (.cells #[.slice A0_0 l0_0.length c0_0] 24 (0, 0))) := ⟨by rw [← hq_]; exact (kq BK639.out)⟩; have n1_ : Aside0 (Below w.heap.size w w33) := ⟨by rw [← hq_]; exact (by repeat (first | (with_reducible first | exact HB.out | apply below_alloc | apply pw_below_drewN | apply below_drew1 | refine below_set ?_ GE639.out) | exact HB.out))⟩; clear BK639 HB hq_; have BK639 := n0_; have HB := n1_; clear n0_ n1_)); have hcz34_0 : w33.cell? ⟨gb639, 0, none⟩ = some (.slice A0_0 l0_0.length c0_0) := (blk_cell BK639.out 0).trans rfl; have hfz34_0 := blk_frozen BK639.out 0) | ((with_reducible refine gate_callee (f := 12) rfl ?_); refine goesL_ (some 27) rfl rfl Try.func12 (by kernel_rfl) rfl #[.agg #[.slice A0_0 l0_0.length c0_0]] rfl (aq) ?_; (with_reducible refine (laws_toTree.calls k _ _ l0_0 t642 _ ?side1 ?side2 A14.out).mono ?_); (case side1 => exact cq (Kd.C_below HR0_0.out HB.out)); (case side2 => exact HC0_0.out); rintro e w35 ⟨v643, rfl, ho0, hb⟩; refine ⟨_, rfl, ?_⟩; have n0_ := Aside0.mk (Kd.R_lower ho0 (below_size (by repeat (first | (with_reducible first | exact HB.out | apply below_alloc | apply pw_below_drewN | apply below_drew1 | refine below_set ?_ GE639.out) | exact HB.out)))); have n1_ := Aside0.mk (blk_below (g := gb639) (o := .cells #[.slice A0_0 l0_0.length c0_0] 24 (0, 0)) (kq BK639.out) hb); have n2_ := Aside0.mk (below_step (by repeat (first | (with_reducible first | exact HB.out | apply below_alloc | apply pw_below_drewN | apply below_drew1 | refine below_set ?_ GE639.out) | exact HB.out)) hb); clear BK639; clear HB; have HO644 := n0_; have BK639 := n1_; have HB := n2_; clear n0_ n1_ n2_; (try clear hb); (try clear hb2); (try clear hk); (try clear hi); (try clear ho0)) | ((with_reducible refine gate_callee (f := 13) rfl ?_); refine goesL_ (some 29) rfl rfl Try.func13 (by kernel_rfl) rfl #[.slice A1 l1.length c1] rfl (aq) ?_; (with_reducible refine (laws_toLineS.calls k _ _ l1 t645 _ ?side1 ?side2 A15.out).mono ?_); (case side1 => exact cq (Kd.C_below HR1.out HB.out)); (case side2 => exact HC1.out); rintro e w36 ⟨v646, rfl, ho0, hb⟩; refine ⟨_, rfl, ?_⟩; have n0_ := Aside0.mk (Kd.R_below (rq HO644.out) hb); have n1_ := Aside0.mk (Kd.R_lower ho0 (below_size (by repeat (first | (with_reducible first | exact HB.out | apply below_alloc | apply pw_below_drewN | apply below_drew1 | refine below_set ?_ GE639.out) | exact HB.out)))); have n2_ := Aside0.mk (blk_below (g := gb639) (o := .cells #[.slice A0_0 l0_0.length c0_0] 24 (0, 0)) (kq BK639.out) hb); have n3_ := Aside0.mk (below_step (by repeat (first | (with_reducible first | exact HB.out | apply below_alloc | apply pw_below_drewN | apply below_drew1 | refine below_set ?_ GE639.out) | exact HB.out)) hb); clear HO644; clear BK639; clear HB; have HO644 := n0_; have HO647 := n1_; have BK639 := n2_; have HB := n3_; clear n0_ n1_ n2_ n3_; (try clear hb); (try clear hb2); (try clear hk); (try clear hi); (try clear ho0); obtain ⟨Ao37, co37, eo37⟩ := Kd.R_slice HO644.out; subst eo37; obtain ⟨Ao38, co38, eo38⟩ := Kd.R_slice HO647.out; subst eo38) | ((with_reducible refine gate_callee (f := 28) rfl ?_); refine goesL_ (some 31) rfl rfl Try.func28 (by kernel_rfl) rfl #[.agg #[.slice Ao37 t642.length co37], .slice Ao38 t645.length co38, .int .i64 a2] rfl (aq) ?_; (with_reducible refine (spec_WayOut.calls k _ _ t642 _ _ t645 a2 t648 _ ?side1 ?side2 ?side3 ?side4 A16.out).mono ?_); (case side1 => repeat (first | exact (Kd.R_reads' HO644.out).2.2 | (with_reducible refine Kd.C_alloc ?_ _) | (with_reducible refine Kd.C_drewN ?_ _) | (with_reducible refine Kd.C_drew ?_))); (case side2 => exact (Kd.R_reads' HO644.out).2.1); (case side3 => repeat (first | exact (Kd.R_reads' HO647.out).2.2 | (with_reducible refine Kd.C_alloc ?_ _) | (with_reducible refine Kd.C_drewN ?_ _) | (with_reducible refine Kd.C_drew ?_))); (case side4 => exact (Kd.R_reads' HO647.out).2.1); rintro e w39 ⟨v649, rfl, ho0, hb⟩; refine ⟨_, rfl, ?_⟩; have n0_ := Aside0.mk (Kd.R_below (rq HO644.out) hb); have n1_ := Aside0.mk (Kd.R_below (rq HO647.out) hb); have n2_ := Aside0.mk (Kd.R_lower ho0 (below_size (by repeat (first | (with_reducible first | exact HB.out | apply below_alloc | apply pw_below_drewN | apply below_drew1 | refine below_set ?_ GE639.out) | exact HB.out)))); have n3_ := Aside0.mk (blk_below (g := gb639) (o := .cells #[.slice A0_0 l0_0.length c0_0] 24 (0, 0)) (kq BK639.out) hb); have n4_ := Aside0.mk (below_step (by repeat (first | (with_reducible first | exact HB.out | apply below_alloc | apply pw_below_drewN | apply below_drew1 | refine below_set ?_ GE639.out) | exact HB.out)) hb); clear HO644; clear HO647; clear BK639; clear HB; have HO644 := n0_; have HO647 := n1_; have HO650 := n2_; have BK639 := n3_; have HB := n4_; clear n0_ n1_ n2_ n3_ n4_; (try clear hb); (try clear hb2); (try clear hk); (try clear hi); (try clear ho0); have hcz40_0 : w39.cell? ⟨gb639, 0, none⟩ = some (.slice A0_0 l0_0.length c0_0) := (blk_cell BK639.out 0).trans rfl; have hfz40_0 := blk_frozen BK639.out 0) | ((with_reducible refine gate_callee (f := 12) rfl ?_); refine goesL_ (some 33) rfl rfl Try.func12 (by kernel_rfl) rfl #[.agg #[.slice A0_0 l0_0.length c0_0]] rfl (aq) ?_; (with_reducible refine (laws_toTree.calls k _ _ l0_0 t651 _ ?side1 ?side2 A17.out).mono ?_); (case side1 => exact cq (Kd.C_below HR0_0.out HB.out)); (case side2 => exact HC0_0.out); rintro e w41 ⟨v652, rfl, ho0, hb⟩; refine ⟨_, rfl, ?_⟩; have n0_ := Aside0.mk (Kd.R_elder' (rq HO644.out) (Kd.R_base ho0) hb); have n1_ := Aside0.mk (Kd.R_below (rq HO647.out) hb); have n2_ := Aside0.mk (Kd.R_below (rq HO650.out) hb); have n3_ := Aside0.mk (Kd.R_lower (Kd.R_new' ho0 (Kd.R_lt (rq HO644.out))) (below_size (by repeat (first | (with_reducible first | exact HB.out | apply below_alloc | apply pw_below_drewN | apply below_drew1 | refine below_set ?_ GE639.out) | exact HB.out)))); have n4_ := Aside0.mk (blk_below (g := gb639) (o := .cells #[.slice A0_0 l0_0.length c0_0] 24 (0, 0)) (kq BK639.out) hb); have n5_ := Aside0.mk (below_step (by repeat (first | (with_reducible first | exact HB.out | apply below_alloc | apply pw_below_drewN | apply below_drew1 | refine below_set ?_ GE639.out) | exact HB.out)) hb); clear HO644; clear HO647; clear HO650; clear BK639; clear HB; have HO644 := n0_; have HO647 := n1_; have HO650 := n2_; have HO653 := n3_; have BK639 := n4_; have HB := n5_; clear n0_ n1_ n2_ n3_ n4_ n5_; (try clear hb); (try clear hb2); (try clear hk); (try clear hi); (try clear ho0)) | ((with_reducible refine gate_dst (N := 9) rfl ?_); refine box_event ?hg (N := 9) ?hd (cs := #[.slice none 0 0]) (t := 31) ?hr ?_; (case hd => rfl); (case hg => rfl); (case hr => first | (go_simp; done) | (go_simp; rfl)); intro gb654 hg w42 hbox hb; have n0_ := Aside0.mk (Kd.R_below (rq HO644.out) hb); have n1_ := Aside0.mk (Kd.R_below (rq HO647.out) hb); have n2_ := Aside0.mk (Kd.R_below (rq HO650.out) hb); have n3_ := Aside0.mk (Kd.R_below (rq HO653.out) hb); have n4_ := Aside0.mk (blk_below (g := gb639) (o := .cells #[.slice A0_0 l0_0.length c0_0] 24 (0, 0)) (kq BK639.out) hb); have n5_ := Aside0.mk (below_step (by repeat (first | (with_reducible first | exact HB.out | apply below_alloc | apply pw_below_drewN | apply below_drew1 | refine below_set ?_ GE639.out) | exact HB.out)) hb); have n6_ := Aside0.mk (hbox); have n7_ := Aside0.mk ((by rw [hg]; exact (below_size (by repeat (first | (with_reducible first | exact HB.out | apply below_alloc | apply pw_below_drewN | apply below_drew1 | refine below_set ?_ GE639.out) | exact HB.out))) : w.heap.size ≤ gb654)); have n8_ := Aside0.mk ((by rw [hg]; exact (below_size (by repeat (first | (with_reducible first | exact HB.out | apply below_alloc | apply pw_below_drewN | apply below_drew1 | refine below_set ?_ GE639.out) | exact HB.out))) : w.heap.size ≤ gb654)); have n9_ := Aside0.mk ((by rw [hg]; exact Nat.ne_of_lt (blk_lt (g := gb639) (o := .cells #[.slice A0_0 l0_0.length c0_0] 24 (0, 0)) (kq BK639.out)) : gb639 ≠ gb654)); have n10_ := Aside0.mk ((by rw [hg]; exact Nat.ne_of_gt (blk_lt (g := gb639) (o := .cells #[.slice A0_0 l0_0.length c0_0] 24 (0, 0)) (kq BK639.out)) : gb654 ≠ gb639)); clear HO644; clear HO647; clear HO650; clear HO653; clear BK639; clear HB; have HO644 := n0_; have HO647 := n1_; have HO650 := n2_; have HO653 := n3_; have BK639 := n4_; have HB := n5_; have BK654 := n6_; have GW654 := n7_; have GE654 := n8_; have NB639_654 := n9_; have NB654_639 := n10_; clear n0_ n1_ n2_ n3_ n4_ n5_ n6_ n7_ n8_ n9_ n10_; clear hb hbox hg; obtain ⟨Ao43, co43, eo43⟩ := Kd.R_slice HO653.out; subst eo43; have hnb44 := NB654_639.out; have hnc44 := NB639_654.out; have hcz45_0 : w42.cell? ⟨gb654, 0, none⟩ = some (.slice none 0 0) := (blk_cell BK654.out 0).trans rfl; have hfz45_0 := blk_frozen BK654.out 0) | ((with_reducible refine gate_callee (f := 13) rfl ?_); refine goesL_ (some 35) rfl rfl Try.func13 (by kernel_rfl) rfl #[.slice A1 l1.length c1] rfl (aq) ?_; (with_reducible refine (laws_toLineS.calls k _ _ l1 t655 _ ?side1 ?side2 A18.out).mono ?_); (case side1 => exact Kd.C_below HR1.out (by repeat (first | (with_reducible first | exact HB.out | apply below_alloc | apply pw_below_drewN | apply below_drew1 | refine below_set ?_ GE639.out | refine below_set ?_ GE654.out) | exact HB.out))); (case side2 => exact HC1.out); rintro e w46 ⟨v656, rfl, ho0, hb⟩; refine ⟨_, rfl, ?_⟩; have n0_ := Aside0.mk (Kd.R_below (by (with_reducible repeat (first | apply Kd.R_alloc | apply Kd.R_drewN | apply Kd.R_drew)); exact (Kd.R_mono (Kd.R_far (p := ⟨gb654, 0, none⟩) (Kd.R_types HO644.out BK654.out (by decide)) (fun _ hk => hk.2) (.slice Ao43 t651.length co43)) (fun _ h_ => h_.1))) hb); have n1_ := Aside0.mk (Kd.R_elder' (by (with_reducible repeat (first | apply Kd.R_alloc | apply Kd.R_drewN | apply Kd.R_drew)); exact (Kd.R_mono (Kd.R_far (p := ⟨gb654, 0, none⟩) (Kd.R_types HO647.out BK654.out (by decide)) (fun _ hk => hk.2) (.slice Ao43 t651.length co43)) (fun _ h_ => h_.1))) (Kd.R_base ho0) hb); have n2_ := Aside0.mk (Kd.R_below (by (with_reducible repeat (first | apply Kd.R_alloc | apply Kd.R_drewN | apply Kd.R_drew)); exact (Kd.R_mono (Kd.R_far (p := ⟨gb654, 0, none⟩) (Kd.R_types HO650.out BK654.out (by decide)) (fun _ hk => hk.2) (.slice Ao43 t651.length co43)) (fun _ h_ => h_.1))) hb); have n3_ := Aside0.mk (Kd.R_below (by (with_reducible repeat (first | apply Kd.R_alloc | apply Kd.R_drewN | apply Kd.R_drew)); exact (Kd.R_mono (Kd.R_far (p := ⟨gb654, 0, none⟩) (Kd.R_types HO653.out BK654.out (by decide)) (fun _ hk => hk.2) (.slice Ao43 t651.length co43)) (fun _ h_ => h_.1))) hb); have n4_ := Aside0.mk (Kd.R_lower (Kd.R_new' ho0 (Kd.R_lt (by (with_reducible repeat (first | apply Kd.R_alloc | apply Kd.R_drewN | apply Kd.R_drew)); exact (Kd.R_mono (Kd.R_far (p := ⟨gb654, 0, none⟩) (Kd.R_types HO647.out BK654.out (by decide)) (fun _ hk => hk.2) (.slice Ao43 t651.length co43)) (fun _ h_ => h_.1))))) (below_size (by repeat (first | (with_reducible first | exact HB.out | apply below_alloc | apply pw_below_drewN | apply below_drew1 | refine below_set ?_ GE639.out | refine below_set ?_ GE654.out) | exact HB.out)))); have n5_ := Aside0.mk (blk_below (g := gb639) (o := .cells #[.slice A0_0 l0_0.length c0_0] 24 (0, 0)) (by (with_reducible repeat (first | refine blk_drewN ?_ _ | refine blk_drew ?_ | refine blk_alloc ?_ _)); refine blk_far ?_ NB639_654.out _; (with_reducible repeat (first | refine blk_drewN ?_ _ | refine blk_drew ?_ | refine blk_alloc ?_ _)); exact BK639.out) hb); have n6_ := Aside0.mk (blk_below (g := gb654) (o := .cells #[.slice Ao43 t651.length co43] 31 (0, 0)) (by (with_reducible repeat (first | refine blk_drewN ?_ _ | refine blk_drew ?_ | refine blk_alloc ?_ _)); refine blk_put (cs := #[.slice none 0 0]) ?_ 0 _ rfl; (with_reducible repeat (first | refine blk_drewN ?_ _ | refine blk_drew ?_ | refine blk_alloc ?_ _)); exact BK654.out) hb); have n7_ := Aside0.mk (below_step (by repeat (first | (with_reducible first | exact HB.out | apply below_alloc | apply pw_below_drewN | apply below_drew1 | refine below_set ?_ GE639.out | refine below_set ?_ GE654.out) | exact HB.out)) hb); clear HO644; clear HO647; clear HO650; clear HO653; clear BK639; clear BK654; clear HB; have HO644 := n0_; have HO647 := n1_; have HO650 := n2_; have HO653 := n3_; have HO657 := n4_; have BK639 := n5_; have BK654 := n6_; have HB := n7_; clear n0_ n1_ n2_ n3_ n4_ n5_ n6_ n7_; (try clear hb); (try clear hb2); (try clear hk); (try clear hi); (try clear ho0); have hcz47_0 : w46.cell? ⟨gb654, 0, none⟩ = some (.slice Ao43 t651.length co43) := (blk_cell BK654.out 0).trans rfl; have hfz47_0 := blk_frozen BK654.out 0; obtain ⟨Ao48, co48, eo48⟩ := Kd.R_slice HO657.out; subst eo48) | ((with_reducible refine gate_callee (f := 29) rfl ?_); refine goesL_ (some 39) rfl rfl Try.func29 (by kernel_rfl) rfl #[.agg #[.slice Ao43 t651.length co43], .slice Ao48 t655.length co48, .int .i64 a2] rfl (aq) ?_; (with_reducible refine (impl_WayOut.calls k _ _ t651 _ _ t655 a2 t658 _ ?side1 ?side2 ?side3 ?side4 A19.out).mono ?_); (case side1 => repeat (first | exact (Kd.R_reads' HO653.out).2.2 | (with_reducible refine Kd.C_alloc ?_ _) | (with_reducible refine Kd.C_drewN ?_ _) | (with_reducible refine Kd.C_drew ?_))); (case side2 => exact (Kd.R_reads' HO653.out).2.1); (case side3 => repeat (first | exact (Kd.R_reads' HO657.out).2.2 | (with_reducible refine Kd.C_alloc ?_ _) | (with_reducible refine Kd.C_drewN ?_ _) | (with_reducible refine Kd.C_drew ?_))); (case side4 => exact (Kd.R_reads' HO657.out).2.1); rintro e w49 ⟨v659, rfl, ho0, hb⟩; refine ⟨_, rfl, ?_⟩; have n0_ := Aside0.mk (Kd.R_below (rq HO644.out) hb); have n1_ := Aside0.mk (Kd.R_below (rq HO647.out) hb); have n2_ := Aside0.mk (Kd.R_elder' (rq HO650.out) (Kd.R_base ho0) hb); have n3_ := Aside0.mk (Kd.R_below (rq HO653.out) hb); have n4_ := Aside0.mk (Kd.R_below (rq HO657.out) hb); have n5_ := Aside0.mk (Kd.R_lower (Kd.R_new' ho0 (Kd.R_lt (rq HO650.out))) (below_size (by repeat (first | (with_reducible first | exact HB.out | apply below_alloc | apply pw_below_drewN | apply below_drew1 | refine below_set ?_ GE639.out | refine below_set ?_ GE654.out) | exact HB.out)))); have n6_ := Aside0.mk (blk_below (g := gb639) (o := .cells #[.slice A0_0 l0_0.length c0_0] 24 (0, 0)) (kq BK639.out) hb); have n7_ := Aside0.mk (blk_below (g := gb654) (o := .cells #[.slice Ao43 t651.length co43] 31 (0, 0)) (kq BK654.out) hb); have n8_ := Aside0.mk (below_step (by repeat (first | (with_reducible first | exact HB.out | apply below_alloc | apply pw_below_drewN | apply below_drew1 | refine below_set ?_ GE639.out | refine below_set ?_ GE654.out) | exact HB.out)) hb); clear HO644; clear HO647; clear HO650; clear HO653; clear HO657; clear BK639; clear BK654; clear HB; have HO644 := n0_; have HO647 := n1_; have HO650 := n2_; have HO653 := n3_; have HO657 := n4_; have HO660 := n5_; have BK639 := n6_; have BK654 := n7_; have HB := n8_; clear n0_ n1_ n2_ n3_ n4_ n5_ n6_ n7_ n8_; (try clear hb); (try clear hb2); (try clear hk); (try clear hi); (try clear ho0); obtain ⟨Ao50, co50, eo50⟩ := Kd.R_slice HO660.out; subst eo50; obtain ⟨Ao51, co51, eo51⟩ := Kd.R_slice HO650.out; subst eo51) | ((with_reducible refine gate_callee (f := 19) rfl ?_); refine goesL_ (some 42) rfl rfl Try.func19 (by kernel_rfl) rfl #[.slice Ao50 t658.length co50, .slice Ao51 t648.length co51] rfl (aq) ?_; (with_reducible refine (laws_eqIntS.calls k _ _ t658 _ _ t648 true _ ?side1 ?side2 ?side3 ?side4 A20.out).mono ?_); (case side1 => repeat (first | exact (Kd.R_reads' HO660.out).2.2 | (with_reducible refine Kd.C_alloc ?_ _) | (with_reducible refine Kd.C_drewN ?_ _) | (with_reducible refine Kd.C_drew ?_))); (case side2 => exact (Kd.R_reads' HO660.out).2.1); (case side3 => repeat (first | exact (Kd.R_reads' HO650.out).2.2 | (with_reducible refine Kd.C_alloc ?_ _) | (with_reducible refine Kd.C_drewN ?_ _) | (with_reducible refine Kd.C_drew ?_))); (case side4 => exact (Kd.R_reads' HO650.out).2.1); rintro e w' ⟨rfl, ⟨nd, rfl⟩⟩; refine ⟨_, rfl, ?_⟩))
            (try (rw [drewN_self w49]; generalize hq_ : World.drewN w49 _ = w49; have n0_ : Aside0 (Kd.R k68 68 w49 w.heap.size (fun k_ => (True ∧ some k_ ≠ (.slice Ao43 t651.length co43 : Value).ownBlock)) (.slice Ao37 t642.length co37) t642) := ⟨by rw [← hq_]; exact (rq HO644.out)⟩; have n1_ : Aside0 (Kd.R k50 50 w49 w.heap.size (fun k_ => (True ∧ some k_ ≠ (.slice Ao48 t655.length co48 : Value).ownBlock)) (.slice Ao38 t645.length co38) t645) := ⟨by rw [← hq_]; exact (rq HO647.out)⟩; have n2_ : Aside0 (Kd.R (Kd.int .i64) 3 w49 w.heap.size (fun k_ => (True ∧ some k_ ≠ (.slice Ao50 t658.length co50 : Value).ownBlock)) (.slice Ao51 t648.length co51) t648) := ⟨by rw [← hq_]; exact (rq HO650.out)⟩; have n3_ : Aside0 (Kd.R k68 68 w49 w.heap.size (fun k_ => (True ∧ some k_ ≠ (.slice Ao37 t642.length co37 : Value).ownBlock)) (.slice Ao43 t651.length co43) t651) := ⟨by rw [← hq_]; exact (rq HO653.out)⟩; have n4_ : Aside0 (Kd.R k50 50 w49 w.heap.size (fun k_ => (True ∧ some k_ ≠ (.slice Ao38 t645.length co38 : Value).ownBlock)) (.slice Ao48 t655.length co48) t655) := ⟨by rw [← hq_]; exact (rq HO657.out)⟩; have n5_ : Aside0 (Kd.R (Kd.int .i64) 3 w49 w.heap.size (fun k_ => (True ∧ some k_ ≠ (.slice Ao51 t648.length co51 : Value).ownBlock)) (.slice Ao50 t658.length co50) t658) := ⟨by rw [← hq_]; exact (rq HO660.out)⟩; have n6_ : Aside0 (w49.heap[gb639]? = some (.cells #[.slice A0_0 l0_0.length c0_0] 24 (0, 0))) := ⟨by rw [← hq_]; exact (kq BK639.out)⟩; have n7_ : Aside0 (w49.heap[gb654]? = some (.cells #[.slice Ao43 t651.length co43] 31 (0, 0))) := ⟨by rw [← hq_]; exact (kq BK654.out)⟩; have n8_ : Aside0 (Below w.heap.size w w49) := ⟨by rw [← hq_]; exact (by repeat (first | (with_reducible first | exact HB.out | apply below_alloc | apply pw_below_drewN | apply below_drew1 | refine below_set ?_ GE639.out | refine below_set ?_ GE654.out) | exact HB.out))⟩; clear HO644 HO647 HO650 HO653 HO657 HO660 BK639 BK654 HB hq_; have HO644 := n0_; have HO647 := n1_; have HO650 := n2_; have HO653 := n3_; have HO657 := n4_; have HO660 := n5_; have BK639 := n6_; have BK654 := n7_; have HB := n8_; clear n0_ n1_ n2_ n3_ n4_ n5_ n6_ n7_ n8_))
            have n0_ := Aside0.mk (Kd.R_drew HO644.out)
            have n1_ := Aside0.mk (Kd.R_drew HO647.out)
            have n2_ := Aside0.mk (Kd.R_drew HO650.out)
            have n3_ := Aside0.mk (Kd.R_drew HO653.out)
            have n4_ := Aside0.mk (Kd.R_drew HO657.out)
            have n5_ := Aside0.mk (Kd.R_drew HO660.out)
            have n6_ := Aside0.mk (blk_drew BK639.out)
            have n7_ := Aside0.mk (blk_drew BK654.out)
            have n8_ := Aside0.mk (below_drew1 HB.out)
            clear HO644
            clear HO647
            clear HO650
            clear HO653
            clear HO657
            clear HO660
            clear BK639
            clear BK654
            clear HB
            have HO644 := n0_
            have HO647 := n1_
            have HO650 := n2_
            have HO653 := n3_
            have HO657 := n4_
            have HO660 := n5_
            have BK639 := n6_
            have BK654 := n7_
            have HB := n8_
            clear n0_ n1_ n2_ n3_ n4_ n5_ n6_ n7_ n8_
            refine start_ (n := 5) (S := fun w' => w'.cell? ⟨gb654, 0, none⟩ = some (.slice Ao43 t651.length co43) ∧ w'.cell? ⟨gb639, 0, none⟩ = some (.slice A0_0 l0_0.length c0_0)) (ds := []) #[false, false, false, false, false] (by kernel_rfl) rfl rfl ⟨(blk_cell BK654.out 0).trans rfl, (blk_cell BK639.out 0).trans rfl⟩ (fun hHeld => ?_)
            generalize w49.drew = w52 at HO644 HO647 HO650 HO653 HO657 HO660 BK639 BK654 HB hHeld ⊢
            refine take_ (i := 0) (N := some 44) (v := ?_) (a' := ?_) #[true, false, false, false, false] rfl rfl (by kernel_rfl) (fun _ _ _ h => h) (Or.inl ⟨by rfl, ?_⟩) hHeld ?_ ?_
            rotate_left
            · rintro w' ⟨s0, s1⟩
              go_simp
              with_reducible rfl
            rotate_left
            · simp only [Act.put, List.setIfInBounds_toArray, List.set_cons_zero, List.set_cons_succ, i64_w, i32_w]
              rfl
            refine take_ (i := 1) (N := some 45) (v := ?_) (a' := ?_) #[true, true, false, false, false] rfl rfl (by kernel_rfl) (fun _ _ _ h => h) (Or.inl ⟨by rfl, ?_⟩) hHeld ?_ ?_
            rotate_left
            · rintro w' ⟨s0, s1⟩
              go_simp
              with_reducible rfl
            rotate_left
            · simp only [Act.put, List.setIfInBounds_toArray, List.set_cons_zero, List.set_cons_succ, i64_w, i32_w]
              rfl
            refine one_ (i := 2) (N := some 46) #[true, true, true, false, false] rfl rfl (by kernel_rfl) (by decide) (fun K hK => ?_)
            refine goes_ Try.func12 (by kernel_rfl) rfl #[.agg #[.slice A0_0 l0_0.length c0_0]] (by rfl) rfl rfl (aq) ?_
            with_reducible refine (laws_toTree.calls k _ _ l0_0 t662 _ ?side1 ?side2 A22.out).mono ?_
            (case side1 => exact cq (Kd.C_below HR0_0.out HB.out))
            (case side2 => exact HC0_0.out)
            rintro e w53 ⟨v663, rfl, ho0, hb⟩
            refine ⟨_, rfl, ?_⟩
            have n0_ := Aside0.mk (Kd.R_elder' (rq HO644.out) (Kd.R_base ho0) hb)
            have n1_ := Aside0.mk (Kd.R_below (rq HO647.out) hb)
            have n2_ := Aside0.mk (Kd.R_below (rq HO650.out) hb)
            have n3_ := Aside0.mk (Kd.R_elder' (rq HO653.out) (Kd.R_base ho0) hb)
            have n4_ := Aside0.mk (Kd.R_below (rq HO657.out) hb)
            have n5_ := Aside0.mk (Kd.R_below (rq HO660.out) hb)
            have n6_ := Aside0.mk (Kd.R_lower (Kd.R_new' (Kd.R_new' ho0 (Kd.R_lt (rq HO644.out))) (Kd.R_lt (rq HO653.out))) (below_size (by repeat (first | (with_reducible first | exact HB.out | apply below_alloc | apply pw_below_drewN | apply below_drew1 | refine below_set ?_ GE639.out | refine below_set ?_ GE654.out) | exact HB.out))))
            have n7_ := Aside0.mk (blk_below (g := gb639) (o := .cells #[.slice A0_0 l0_0.length c0_0] 24 (0, 0)) (kq BK639.out) hb)
            have n8_ := Aside0.mk (blk_below (g := gb654) (o := .cells #[.slice Ao43 t651.length co43] 31 (0, 0)) (kq BK654.out) hb)
            have n9_ := Aside0.mk (below_step (by repeat (first | (with_reducible first | exact HB.out | apply below_alloc | apply pw_below_drewN | apply below_drew1 | refine below_set ?_ GE639.out | refine below_set ?_ GE654.out) | exact HB.out)) hb)
            clear HO644
            clear HO647
            clear HO650
            clear HO653
            clear HO657
            clear HO660
            clear BK639
            clear BK654
            clear HB
            have HO644 := n0_
            have HO647 := n1_
            have HO650 := n2_
            have HO653 := n3_
            have HO657 := n4_
            have HO660 := n5_
            have HO664 := n6_
            have BK639 := n7_
            have BK654 := n8_
            have HB := n9_
            clear n0_ n1_ n2_ n3_ n4_ n5_ n6_ n7_ n8_ n9_
            (try clear hb)
            (try clear hb2)
            (try clear hk)
            (try clear hi)
            (try clear ho0)
            obtain ⟨Ao54, co54, eo54⟩ := Kd.R_slice HO664.out
            (first | subst eo54 | (injection eo54 with f1_ f2_ f3_; have f4_ := f1_.symm; have f5_ := f3_.symm; clear f1_ f2_ f3_; subst f4_; subst f5_))
            refine hK.out _ _ ⟨(blk_cell BK654.out 0).trans rfl, (blk_cell BK639.out 0).trans rfl⟩ (fun hHeld => ?_)
            clear hK K
            refine norm_ (a' := ?_) ?_ ?_
            rotate_left
            · show Act.put _ (some 46) _ = _
              simp only [Act.put, List.setIfInBounds_toArray, List.set_cons_zero, List.set_cons_succ, i64_w, i32_w]
              rfl
            refine one_ (i := 3) (N := some 47) #[true, true, true, true, false] rfl rfl (by kernel_rfl) (by decide) (fun K hK => ?_)
            refine goes_ Try.func15 (by kernel_rfl) rfl #[.agg #[.slice Ao43 t651.length co43], .agg #[.slice Ao54 t662.length co54]] (by rfl) rfl rfl (aq) ?_
            with_reducible refine (laws_eqTree.calls k _ _ t651 _ _ t662 true _ ?side1 ?side2 ?side3 ?side4 A23.out).mono ?_
            (case side1 => repeat (first | exact (Kd.R_reads' HO653.out).2.2 | (with_reducible refine Kd.C_alloc ?_ _) | (with_reducible refine Kd.C_drewN ?_ _) | (with_reducible refine Kd.C_drew ?_)))
            (case side2 => exact (Kd.R_reads' HO653.out).2.1)
            (case side3 => repeat (first | exact (Kd.R_reads' HO664.out).2.2 | (with_reducible refine Kd.C_alloc ?_ _) | (with_reducible refine Kd.C_drewN ?_ _) | (with_reducible refine Kd.C_drew ?_)))
            (case side4 => exact (Kd.R_reads' HO664.out).2.1)
            rintro e w55 ⟨rfl, hb⟩
            refine ⟨_, rfl, ?_⟩
            have n0_ := Aside0.mk (Kd.R_below (rq HO644.out) hb)
            have n1_ := Aside0.mk (Kd.R_below (rq HO647.out) hb)
            have n2_ := Aside0.mk (Kd.R_below (rq HO650.out) hb)
            have n3_ := Aside0.mk (Kd.R_below (rq HO653.out) hb)
            have n4_ := Aside0.mk (Kd.R_below (rq HO657.out) hb)
            have n5_ := Aside0.mk (Kd.R_below (rq HO660.out) hb)
            have n6_ := Aside0.mk (Kd.R_below (rq HO664.out) hb)
            have n7_ := Aside0.mk (blk_below (g := gb639) (o := .cells #[.slice A0_0 l0_0.length c0_0] 24 (0, 0)) (kq BK639.out) hb)
            have n8_ := Aside0.mk (blk_below (g := gb654) (o := .cells #[.slice Ao43 t651.length co43] 31 (0, 0)) (kq BK654.out) hb)
            have n9_ := Aside0.mk (below_step (by repeat (first | (with_reducible first | exact HB.out | apply below_alloc | apply pw_below_drewN | apply below_drew1 | refine below_set ?_ GE639.out | refine below_set ?_ GE654.out) | exact HB.out)) hb)
            clear HO644
            clear HO647
            clear HO650
            clear HO653
            clear HO657
            clear HO660
            clear HO664
            clear BK639
            clear BK654
            clear HB
            have HO644 := n0_
            have HO647 := n1_
            have HO650 := n2_
            have HO653 := n3_
            have HO657 := n4_
            have HO660 := n5_
            have HO664 := n6_
            have BK639 := n7_
            have BK654 := n8_
            have HB := n9_
            clear n0_ n1_ n2_ n3_ n4_ n5_ n6_ n7_ n8_ n9_
            (try clear hb)
            (try clear hb2)
            (try clear hk)
            (try clear hi)
            refine hK.out _ _ ⟨(blk_cell BK654.out 0).trans rfl, (blk_cell BK639.out 0).trans rfl⟩ (fun hHeld => ?_)
            clear hK K
            refine norm_ (a' := ?_) ?_ ?_
            rotate_left
            · show Act.put _ (some 47) _ = _
              simp only [Act.put, List.setIfInBounds_toArray, List.set_cons_zero, List.set_cons_succ, i64_w, i32_w]
              rfl
            refine pure_ (i := 4) (N := some 48) (v := ?_) (a' := ?_) #[true, true, true, true, true] rfl rfl (by kernel_rfl) (fun _ _ _ h => h) (Or.inl ⟨by rfl, ?_⟩) ?_ ?_
            rotate_left
            · intro w'
              go_simp
              with_reducible rfl
            rotate_left
            · simp only [Act.put, List.setIfInBounds_toArray, List.set_cons_zero, List.set_cons_succ, i64_w, i32_w]
              rfl
            refine done_ (by kernel_rfl) ?_
            go_upto_region 21 with (first | ((with_reducible refine gate_callee (f := 13) rfl ?_); refine goesL_ (some 51) rfl rfl Try.func13 (by kernel_rfl) rfl #[.slice A1 l1.length c1] rfl (aq) ?_; (with_reducible refine (laws_toLineS.calls k _ _ l1 t666 _ ?side1 ?side2 A25.out).mono ?_); (case side1 => exact cq (Kd.C_below HR1.out HB.out)); (case side2 => exact HC1.out); rintro e w56 ⟨v667, rfl, ho0, hb⟩; refine ⟨_, rfl, ?_⟩; have n0_ := Aside0.mk (Kd.R_below (rq HO644.out) hb); have n1_ := Aside0.mk (Kd.R_elder' (rq HO647.out) (Kd.R_base ho0) hb); have n2_ := Aside0.mk (Kd.R_below (rq HO650.out) hb); have n3_ := Aside0.mk (Kd.R_below (rq HO653.out) hb); have n4_ := Aside0.mk (Kd.R_elder' (rq HO657.out) (Kd.R_base ho0) hb); have n5_ := Aside0.mk (Kd.R_below (rq HO660.out) hb); have n6_ := Aside0.mk (Kd.R_below (rq HO664.out) hb); have n7_ := Aside0.mk (Kd.R_lower (Kd.R_new' (Kd.R_new' ho0 (Kd.R_lt (rq HO647.out))) (Kd.R_lt (rq HO657.out))) (below_size (by repeat (first | (with_reducible first | exact HB.out | apply below_alloc | apply pw_below_drewN | apply below_drew1 | refine below_set ?_ GE639.out | refine below_set ?_ GE654.out) | exact HB.out)))); have n8_ := Aside0.mk (blk_below (g := gb639) (o := .cells #[.slice A0_0 l0_0.length c0_0] 24 (0, 0)) (kq BK639.out) hb); have n9_ := Aside0.mk (blk_below (g := gb654) (o := .cells #[.slice Ao43 t651.length co43] 31 (0, 0)) (kq BK654.out) hb); have n10_ := Aside0.mk (below_step (by repeat (first | (with_reducible first | exact HB.out | apply below_alloc | apply pw_below_drewN | apply below_drew1 | refine below_set ?_ GE639.out | refine below_set ?_ GE654.out) | exact HB.out)) hb); clear HO644; clear HO647; clear HO650; clear HO653; clear HO657; clear HO660; clear HO664; clear BK639; clear BK654; clear HB; have HO644 := n0_; have HO647 := n1_; have HO650 := n2_; have HO653 := n3_; have HO657 := n4_; have HO660 := n5_; have HO664 := n6_; have HO668 := n7_; have BK639 := n8_; have BK654 := n9_; have HB := n10_; clear n0_ n1_ n2_ n3_ n4_ n5_ n6_ n7_ n8_ n9_ n10_; (try clear hb); (try clear hb2); (try clear hk); (try clear hi); (try clear ho0); obtain ⟨Ao57, co57, eo57⟩ := Kd.R_slice HO668.out; subst eo57) | ((with_reducible refine gate_callee (f := 16) rfl ?_); refine goesL_ (some 52) rfl rfl Try.func16 (by kernel_rfl) rfl #[.slice Ao48 t655.length co48, .slice Ao57 t666.length co57] rfl (aq) ?_; (with_reducible refine (laws_eqLineS.calls k _ _ t655 _ _ t666 true _ ?side1 ?side2 ?side3 ?side4 A26.out).mono ?_); (case side1 => repeat (first | exact (Kd.R_reads' HO657.out).2.2 | (with_reducible refine Kd.C_alloc ?_ _) | (with_reducible refine Kd.C_drewN ?_ _) | (with_reducible refine Kd.C_drew ?_))); (case side2 => exact (Kd.R_reads' HO657.out).2.1); (case side3 => repeat (first | exact (Kd.R_reads' HO668.out).2.2 | (with_reducible refine Kd.C_alloc ?_ _) | (with_reducible refine Kd.C_drewN ?_ _) | (with_reducible refine Kd.C_drew ?_))); (case side4 => exact (Kd.R_reads' HO668.out).2.1); rintro e w58 ⟨rfl, hb⟩; refine ⟨_, rfl, ?_⟩; have n0_ := Aside0.mk (Kd.R_below (rq HO644.out) hb); have n1_ := Aside0.mk (Kd.R_below (rq HO647.out) hb); have n2_ := Aside0.mk (Kd.R_below (rq HO650.out) hb); have n3_ := Aside0.mk (Kd.R_below (rq HO653.out) hb); have n4_ := Aside0.mk (Kd.R_below (rq HO657.out) hb); have n5_ := Aside0.mk (Kd.R_below (rq HO660.out) hb); have n6_ := Aside0.mk (Kd.R_below (rq HO664.out) hb); have n7_ := Aside0.mk (Kd.R_below (rq HO668.out) hb); have n8_ := Aside0.mk (blk_below (g := gb639) (o := .cells #[.slice A0_0 l0_0.length c0_0] 24 (0, 0)) (kq BK639.out) hb); have n9_ := Aside0.mk (blk_below (g := gb654) (o := .cells #[.slice Ao43 t651.length co43] 31 (0, 0)) (kq BK654.out) hb); have n10_ := Aside0.mk (below_step (by repeat (first | (with_reducible first | exact HB.out | apply below_alloc | apply pw_below_drewN | apply below_drew1 | refine below_set ?_ GE639.out | refine below_set ?_ GE654.out) | exact HB.out)) hb); clear HO644; clear HO647; clear HO650; clear HO653; clear HO657; clear HO660; clear HO664; clear HO668; clear BK639; clear BK654; clear HB; have HO644 := n0_; have HO647 := n1_; have HO650 := n2_; have HO653 := n3_; have HO657 := n4_; have HO660 := n5_; have HO664 := n6_; have HO668 := n7_; have BK639 := n8_; have BK654 := n9_; have HB := n10_; clear n0_ n1_ n2_ n3_ n4_ n5_ n6_ n7_ n8_ n9_ n10_; (try clear hb); (try clear hb2); (try clear hk); (try clear hi); have hcz59_0 : w58.cell? ⟨gb654, 0, none⟩ = some (.slice Ao43 t651.length co43) := (blk_cell BK654.out 0).trans rfl; have hfz59_0 := blk_frozen BK654.out 0) | ((with_reducible refine gate_callee (f := 20) rfl ?_); refine goesL_ (some 56) rfl rfl Try.func20 (by kernel_rfl) rfl #[.agg #[.slice Ao43 t651.length co43], .int .i64 1] rfl (aq) ?_; (with_reducible refine (laws_markTree.calls k (fun k_ => some k_ = (.slice Ao43 t651.length co43 : Value).ownBlock) (.slice Ao43 t651.length co43) t651 1 t670 t671 w _ ?side1 ?side2 A28.out).mono ?_); (case side1 => repeat (first | (with_reducible first | exact HB.out | apply below_alloc | apply pw_below_drewN | apply below_drew1 | refine below_set ?_ GE639.out | refine below_set ?_ GE654.out) | exact HB.out)); (case side2 => exact Kd.R_tight rfl HO653.out); rintro e w60 ⟨rfl, hy0, hb, hkp⟩; refine ⟨_, rfl, ?_⟩; have n0_ := Aside0.mk (blk_kept (kq BK639.out) hkp (fun hs_ => (fun e_ => (Kd.R_ne HO653.out BK639.out (by decide)) e_) hs_)); have n1_ := Aside0.mk (Kd.R_mono (ok' := fun k_ => some k_ ≠ (.slice Ao43 t651.length co43 : Value).ownBlock ∧ some k_ ≠ (.slice Ao54 t662.length co54 : Value).ownBlock) (Kd.R_keptB (HO644.out) hkp (fun k_ hk_ hs_ => (hk_.1.2) hs_)) (fun k_ hk_ => ⟨hk_.1.1.2, hk_.1.2⟩)); have n2_ := Aside0.mk (Kd.R_mono (ok' := fun k_ => some k_ ≠ (.slice Ao48 t655.length co48 : Value).ownBlock ∧ some k_ ≠ (.slice Ao57 t666.length co57 : Value).ownBlock) (Kd.R_keptB ((Kd.R_apart' HO647.out (Kd.R_typed HO653.out) (by decide))) hkp (fun k_ hk_ hs_ => (hk_.2) hs_)) (fun k_ hk_ => ⟨hk_.1.1.1.2, hk_.1.1.2⟩)); have n3_ := Aside0.mk (Kd.R_mono (ok' := fun k_ => some k_ ≠ (.slice Ao50 t658.length co50 : Value).ownBlock) (Kd.R_keptB ((Kd.R_apart' HO650.out (Kd.R_typed HO653.out) (by decide))) hkp (fun k_ hk_ hs_ => (hk_.2) hs_)) (fun k_ hk_ => hk_.1.1.2)); have n4_ := Aside0.mk (Kd.R_reok rfl hy0 (fun k_ e_ => HO653.out.1 k_ e_)); have n5_ := Aside0.mk (blk_kept (kq BK654.out) hkp (fun hs_ => (fun e_ => (Kd.R_ne HO653.out BK654.out (by decide)) e_) hs_)); have n6_ := Aside0.mk (Kd.R_mono (ok' := fun k_ => some k_ ≠ (.slice Ao38 t645.length co38 : Value).ownBlock ∧ some k_ ≠ (.slice Ao57 t666.length co57 : Value).ownBlock) (Kd.R_keptB ((Kd.R_apart' HO657.out (Kd.R_typed HO653.out) (by decide))) hkp (fun k_ hk_ hs_ => (hk_.2) hs_)) (fun k_ hk_ => ⟨hk_.1.1.1.2, hk_.1.1.2⟩)); have n7_ := Aside0.mk (Kd.R_mono (ok' := fun k_ => some k_ ≠ (.slice Ao51 t648.length co51 : Value).ownBlock) (Kd.R_keptB ((Kd.R_apart' HO660.out (Kd.R_typed HO653.out) (by decide))) hkp (fun k_ hk_ hs_ => (hk_.2) hs_)) (fun k_ hk_ => hk_.1.1.2)); have n8_ := Aside0.mk (Kd.R_mono (ok' := fun k_ => some k_ ≠ (.slice Ao37 t642.length co37 : Value).ownBlock ∧ some k_ ≠ (.slice Ao43 t651.length co43 : Value).ownBlock) (Kd.R_keptB (HO664.out) hkp (fun k_ hk_ hs_ => (hk_.2) hs_)) (fun k_ hk_ => ⟨hk_.1.1.2, hk_.1.2⟩)); have n9_ := Aside0.mk (Kd.R_mono (ok' := fun k_ => some k_ ≠ (.slice Ao38 t645.length co38 : Value).ownBlock ∧ some k_ ≠ (.slice Ao48 t655.length co48 : Value).ownBlock) (Kd.R_keptB ((Kd.R_apart' HO668.out (Kd.R_typed HO653.out) (by decide))) hkp (fun k_ hk_ hs_ => (hk_.2) hs_)) (fun k_ hk_ => ⟨hk_.1.1.1.2, hk_.1.1.2⟩)); have n10_ := Aside0.mk (hb); clear BK639; clear HO644; clear HO647; clear HO650; clear HO653; clear BK654; clear HO657; clear HO660; clear HO664; clear HO668; clear HB; have BK639 := n0_; have HO644 := n1_; have HO647 := n2_; have HO650 := n3_; have HO653 := n4_; have BK654 := n5_; have HO657 := n6_; have HO660 := n7_; have HO664 := n8_; have HO668 := n9_; have HB := n10_; clear n0_ n1_ n2_ n3_ n4_ n5_ n6_ n7_ n8_ n9_ n10_; (try clear hb); (try clear hkp); (try clear hy0)) | ((with_reducible refine gate_callee (f := 21) rfl ?_); refine goesL_ (some 59) rfl rfl Try.func21 (by kernel_rfl) rfl #[.slice Ao48 t655.length co48, .int .i64 t670] rfl (aq) ?_; (with_reducible refine (laws_markLineS.calls k (fun k_ => some k_ = (.slice Ao48 t655.length co48 : Value).ownBlock) (.slice Ao48 t655.length co48) t655 t670 t672 t673 w _ ?side1 ?side2 A29.out).mono ?_); (case side1 => repeat (first | (with_reducible first | exact HB.out | apply below_alloc | apply pw_below_drewN | apply below_drew1 | refine below_set ?_ GE639.out | refine below_set ?_ GE654.out) | exact HB.out)); (case side2 => exact Kd.R_tight rfl HO657.out); rintro e w61 ⟨rfl, hy0, hb, hkp⟩; refine ⟨_, rfl, ?_⟩; have n0_ := Aside0.mk (blk_kept (kq BK639.out) hkp (fun hs_ => (fun e_ => (Kd.R_ne HO657.out BK639.out (by decide)) e_) hs_)); have n1_ := Aside0.mk (Kd.R_mono (ok' := fun k_ => some k_ ≠ (.slice Ao43 t651.length co43 : Value).ownBlock ∧ some k_ ≠ (.slice Ao54 t662.length co54 : Value).ownBlock) (Kd.R_keptB ((Kd.R_apart' HO644.out (Kd.R_typed HO657.out) (by decide))) hkp (fun k_ hk_ hs_ => (hk_.2) hs_)) (fun k_ hk_ => ⟨hk_.1.1.1, hk_.1.1.2⟩)); have n2_ := Aside0.mk (Kd.R_mono (ok' := fun k_ => some k_ ≠ (.slice Ao48 t655.length co48 : Value).ownBlock ∧ some k_ ≠ (.slice Ao57 t666.length co57 : Value).ownBlock) (Kd.R_keptB (HO647.out) hkp (fun k_ hk_ hs_ => (hk_.1) hs_)) (fun k_ hk_ => ⟨hk_.1.1, hk_.1.2⟩)); have n3_ := Aside0.mk (Kd.R_mono (ok' := fun k_ => some k_ ≠ (.slice Ao50 t658.length co50 : Value).ownBlock) (Kd.R_keptB ((Kd.R_apart' HO650.out (Kd.R_typed HO657.out) (by decide))) hkp (fun k_ hk_ hs_ => (hk_.2) hs_)) (fun k_ hk_ => hk_.1.1)); have n4_ := Aside0.mk (Kd.R_mono (ok' := fun k_ => some k_ ≠ (.slice Ao37 t642.length co37 : Value).ownBlock ∧ some k_ ≠ (.slice Ao54 t662.length co54 : Value).ownBlock) (Kd.R_keptB ((Kd.R_apart' HO653.out (Kd.R_typed HO657.out) (by decide))) hkp (fun k_ hk_ hs_ => (hk_.2) hs_)) (fun k_ hk_ => ⟨hk_.1.1.1.2, hk_.1.1.2⟩)); have n5_ := Aside0.mk (blk_kept (kq BK654.out) hkp (fun hs_ => (fun e_ => (Kd.R_ne HO657.out BK654.out (by decide)) e_) hs_)); have n6_ := Aside0.mk (Kd.R_reok rfl hy0 (fun k_ e_ => HO657.out.1 k_ e_)); have n7_ := Aside0.mk (Kd.R_mono (ok' := fun k_ => some k_ ≠ (.slice Ao51 t648.length co51 : Value).ownBlock) (Kd.R_keptB ((Kd.R_apart' HO660.out (Kd.R_typed HO657.out) (by decide))) hkp (fun k_ hk_ hs_ => (hk_.2) hs_)) (fun k_ hk_ => hk_.1.1)); have n8_ := Aside0.mk (Kd.R_mono (ok' := fun k_ => some k_ ≠ (.slice Ao37 t642.length co37 : Value).ownBlock ∧ some k_ ≠ (.slice Ao43 t651.length co43 : Value).ownBlock) (Kd.R_keptB ((Kd.R_apart' HO664.out (Kd.R_typed HO657.out) (by decide))) hkp (fun k_ hk_ hs_ => (hk_.2) hs_)) (fun k_ hk_ => ⟨hk_.1.1.1, hk_.1.1.2⟩)); have n9_ := Aside0.mk (Kd.R_mono (ok' := fun k_ => some k_ ≠ (.slice Ao38 t645.length co38 : Value).ownBlock ∧ some k_ ≠ (.slice Ao48 t655.length co48 : Value).ownBlock) (Kd.R_keptB (HO668.out) hkp (fun k_ hk_ hs_ => (hk_.2) hs_)) (fun k_ hk_ => ⟨hk_.1.1, hk_.1.2⟩)); have n10_ := Aside0.mk (hb); clear BK639; clear HO644; clear HO647; clear HO650; clear HO653; clear BK654; clear HO657; clear HO660; clear HO664; clear HO668; clear HB; have BK639 := n0_; have HO644 := n1_; have HO647 := n2_; have HO650 := n3_; have HO653 := n4_; have BK654 := n5_; have HO657 := n6_; have HO660 := n7_; have HO664 := n8_; have HO668 := n9_; have HB := n10_; clear n0_ n1_ n2_ n3_ n4_ n5_ n6_ n7_ n8_ n9_ n10_; (try clear hb); (try clear hkp); (try clear hy0)))
            (try simp only [Act.put, List.setIfInBounds_toArray, List.set_cons_zero, List.set_cons_succ])
            go_cut [67] (fun v67 wc => ∃ (kq : Nat) (x67_29 : Bool), v67 = .bool x67_29 ∧ Aside0 (laws_FnExactWayOut.j0 kq l1 a2 t648 t658 x67_29 l0_0 = some r) ∧ Aside0 (kq ≤ k) ∧ Aside0 (Kd.R (Kd.int .i64) 3 wc w.heap.size (fun k_ => some k_ ≠ ((.slice Ao50 t658.length co50) : Value).ownBlock) (.slice Ao51 t648.length co51) t648) ∧ Aside0 (Kd.R (Kd.int .i64) 3 wc w.heap.size (fun k_ => some k_ ≠ ((.slice Ao51 t648.length co51) : Value).ownBlock) (.slice Ao50 t658.length co50) t658) ∧ Aside0 (Kd.R k68 68 wc w.heap.size (fun _ => True) (.slice Ao43 t651.length co43) t671) ∧ Aside0 (wc.heap[gb639]? = some (.cells #[(.slice A0_0 l0_0.length c0_0)] 24 (0, 0))) ∧ Aside0 (wc.heap[gb654]? = some (.cells #[(.slice Ao43 t651.length co43)] 31 (0, 0))) ∧ Aside0 (Below w.heap.size w wc))
            case first =>
              have H := HC30.out
              clear HC30
              by_cases c62 : t672 < 0
              · rw [if_pos c62] at H
                have c62b0 : decide (t672 < 0) = true := decide_eq_true c62
                clear c62
                (first | rw [c62b0] | (simp only [i64_w, i32_w]; rw [c62b0]) | skip)
                have H' := Aside0.mk H
                clear H
                go_wp2
                go_meet
                case rel => exact ⟨_, (true), (sq), H', ⟨by first | omega | exact Nat.le_refl _⟩, ⟨rq HO650.out⟩, ⟨rq HO660.out⟩, ⟨by (with_reducible repeat (first | apply Kd.R_alloc | apply Kd.R_drewN | apply Kd.R_drew)); exact Kd.R_mono HO653.out (fun _ hk => trivial)⟩, ⟨kq BK639.out⟩, ⟨kq BK654.out⟩, ⟨by repeat (first | (with_reducible first | exact HB.out | apply below_alloc | apply pw_below_drewN | apply below_drew1 | refine below_set ?_ GE639.out | refine below_set ?_ GE654.out) | exact HB.out)⟩⟩
              · rw [if_neg c62] at H
                have c62b0 : decide (t672 < 0) = false := decide_eq_false c62
                clear c62
                (first | rw [c62b0] | (simp only [i64_w, i32_w]; rw [c62b0]) | skip)
                replace H := Option.bind_eq_some_iff.mp H
                obtain ⟨t674, A630, H⟩ := H
                replace H : (laws_FnExactWayOut.j0 k l1 a2 t648 t658 (!t674) l0_0) = some r := H
                have A63 := Aside0.mk A630
                clear A630
                have H' := Aside0.mk H
                clear H
                go_wp2_with (first | (go_at_call 19; (with_reducible refine (laws_eqIntS.calls k _ _ t658 _ _ t648 t674 _ ?side1 ?side2 ?side3 ?side4 A63.out).mono ?_); (case side1 => repeat (first | exact (Kd.R_reads' HO660.out).2.2 | (with_reducible refine Kd.C_alloc ?_ _) | (with_reducible refine Kd.C_drewN ?_ _) | (with_reducible refine Kd.C_drew ?_))); (case side2 => exact (Kd.R_reads' HO660.out).2.1); (case side3 => repeat (first | exact (Kd.R_reads' HO650.out).2.2 | (with_reducible refine Kd.C_alloc ?_ _) | (with_reducible refine Kd.C_drewN ?_ _) | (with_reducible refine Kd.C_drew ?_))); (case side4 => exact (Kd.R_reads' HO650.out).2.1); rintro e w' ⟨rfl, ⟨nd, rfl⟩⟩))
                go_meet
                case rel => exact ⟨_, (!t674), (sq), H', ⟨by first | omega | exact Nat.le_refl _⟩, ⟨rq HO650.out⟩, ⟨rq HO660.out⟩, ⟨by (with_reducible repeat (first | apply Kd.R_alloc | apply Kd.R_drewN | apply Kd.R_drew)); exact Kd.R_mono HO653.out (fun _ hk => trivial)⟩, ⟨kq BK639.out⟩, ⟨kq BK654.out⟩, ⟨by repeat (first | (with_reducible first | exact HB.out | apply below_alloc | apply pw_below_drewN | apply below_drew1 | refine below_set ?_ GE639.out | refine below_set ?_ GE654.out) | exact HB.out)⟩⟩
            case rest =>
              clear HC30
              try clear c1
              try clear c2
              try clear p2
              try clear c4
              try clear c5
              try clear c5b0
              try clear c6
              try clear c7
              try clear c9
              try clear c10
              try clear c10b0
              try clear c12
              try clear c13
              try clear c15
              try clear c16
              try clear c19
              try clear c20
              try clear c21
              try clear c24
              try clear c27
              try clear c28
              try clear c29
              try clear c44
              try clear c62
              try clear c62b0
              try clear hcz12_0
              try clear hcz32_0
              try clear hcz34_0
              try clear hcz40_0
              try clear hcz45_0
              try clear hcz47_0
              try clear hcz59_0
              try clear hcz7_0
              try clear hfz12_0
              try clear hfz32_0
              try clear hfz34_0
              try clear hfz40_0
              try clear hfz45_0
              try clear hfz47_0
              try clear hfz59_0
              try clear hfz7_0
              obtain ⟨kq, x67_29, rfl, HA, HJ29, HO_8, HO_11, HO_655000, BK639, BK654, HB⟩ := hcut
              have hl655000_29 := (Kd.R_reads' HO_655000.out).1
              rw [hl655000_29] at HO_655000
              (try simp only [hl655000_29])
              (try simp only [hl655000_29] at BK639)
              (try simp only [hl655000_29] at BK654)
              (try simp only [hl655000_29] at HO_8)
              (try simp only [hl655000_29] at HO_11)
              cases kq with
              | zero => exact absurd HA.out (by simp [laws_FnExactWayOut.j0])
              | succ kj29 =>
                have H := HA.out
                clear HA
                simp only [laws_FnExactWayOut.j0] at H
                by_cases c64 : x67_29 = true
                · subst c64
                  have H1 : (some false) = some r := by rw [if_pos rfl] at H; exact H
                  clear H
                  have H := H1
                  clear H1
                  exact absurd ((Option.some.inj H).trans hT) Bool.false_ne_true
                · replace c64 := Bool.eq_false_iff.mpr c64
                  subst c64
                  have H1 : ((laws_markIntS.f kj29 t658 1).bind fun bt675 => ((laws_heldIntS.f kj29 bt675.2 1).bind fun t677 => (if t677 < 0 then (some false) else (if t677 = bt675.1 then ((laws_toTree.f kj29 l0_0).bind fun t678 => ((laws_toLineS.f kj29 l1).bind fun t681 => ((impl_WayOut.f kj29 t678 t681 a2).bind fun t684 => ((laws_eqIntS.f kj29 t684 t648).bind fun t687 => (if t687 = true then ((laws_heldIntS.f kj29 bt675.2 1).bind fun t688 => (if t688 < 0 then (some false) else (if t688 = bt675.1 then (some true) else (some false)))) else (some false)))))) else (some false))))) = some r := by rw [if_neg (show ¬ (false = true) by decide)] at H; exact H
                  clear H
                  have H := H1
                  clear H1
                  replace H := Option.bind_eq_some_iff.mp H
                  obtain ⟨⟨t675, t676⟩, A650, H⟩ := H
                  replace H : ((laws_heldIntS.f kj29 t676 1).bind fun t677 => (if t677 < 0 then (some false) else (if t677 = t675 then ((laws_toTree.f kj29 l0_0).bind fun t678 => ((laws_toLineS.f kj29 l1).bind fun t681 => ((impl_WayOut.f kj29 t678 t681 a2).bind fun t684 => ((laws_eqIntS.f kj29 t684 t648).bind fun t687 => (if t687 = true then ((laws_heldIntS.f kj29 t676 1).bind fun t688 => (if t688 < 0 then (some false) else (if t688 = t675 then (some true) else (some false)))) else (some false)))))) else (some false)))) = some r := H
                  have A65 := Aside0.mk A650
                  clear A650
                  replace H := Option.bind_eq_some_iff.mp H
                  obtain ⟨t677, A660, H⟩ := H
                  replace H : (if t677 < 0 then (some false) else (if t677 = t675 then ((laws_toTree.f kj29 l0_0).bind fun t678 => ((laws_toLineS.f kj29 l1).bind fun t681 => ((impl_WayOut.f kj29 t678 t681 a2).bind fun t684 => ((laws_eqIntS.f kj29 t684 t648).bind fun t687 => (if t687 = true then ((laws_heldIntS.f kj29 t676 1).bind fun t688 => (if t688 < 0 then (some false) else (if t688 = t675 then (some true) else (some false)))) else (some false)))))) else (some false))) = some r := H
                  have A66 := Aside0.mk A660
                  clear A660
                  by_cases c67 : t677 < 0
                  · rw [if_pos c67] at H
                    have c67b0 : decide (t677 < 0) = true := decide_eq_true c67
                    clear c67
                    exact absurd ((Option.some.inj H).trans hT) Bool.false_ne_true
                  · rw [if_neg c67] at H
                    have c67b0 : decide (t677 < 0) = false := decide_eq_false c67
                    clear c67
                    by_cases c68 : t677 = t675
                    · rw [if_pos c68] at H
                      have c68b0 : (t677 == t675) = true := beq_iff_eq.mpr c68
                      have c68b1 : (t677 != t675) = false := bne_eq_false_iff_eq.mpr c68
                      clear c68
                      replace H := Option.bind_eq_some_iff.mp H
                      obtain ⟨t678, A690, H⟩ := H
                      replace H : ((laws_toLineS.f kj29 l1).bind fun t681 => ((impl_WayOut.f kj29 t678 t681 a2).bind fun t684 => ((laws_eqIntS.f kj29 t684 t648).bind fun t687 => (if t687 = true then ((laws_heldIntS.f kj29 t676 1).bind fun t688 => (if t688 < 0 then (some false) else (if t688 = t675 then (some true) else (some false)))) else (some false))))) = some r := H
                      have A69 := Aside0.mk A690
                      clear A690
                      replace H := Option.bind_eq_some_iff.mp H
                      obtain ⟨t681, A700, H⟩ := H
                      replace H : ((impl_WayOut.f kj29 t678 t681 a2).bind fun t684 => ((laws_eqIntS.f kj29 t684 t648).bind fun t687 => (if t687 = true then ((laws_heldIntS.f kj29 t676 1).bind fun t688 => (if t688 < 0 then (some false) else (if t688 = t675 then (some true) else (some false)))) else (some false)))) = some r := H
                      have A70 := Aside0.mk A700
                      clear A700
                      replace H := Option.bind_eq_some_iff.mp H
                      obtain ⟨t684, A710, H⟩ := H
                      replace H : ((laws_eqIntS.f kj29 t684 t648).bind fun t687 => (if t687 = true then ((laws_heldIntS.f kj29 t676 1).bind fun t688 => (if t688 < 0 then (some false) else (if t688 = t675 then (some true) else (some false)))) else (some false))) = some r := H
                      have A71 := Aside0.mk A710
                      clear A710
                      replace H := Option.bind_eq_some_iff.mp H
                      obtain ⟨t687, A720, H⟩ := H
                      replace H : (if t687 = true then ((laws_heldIntS.f kj29 t676 1).bind fun t688 => (if t688 < 0 then (some false) else (if t688 = t675 then (some true) else (some false)))) else (some false)) = some r := H
                      have A72 := Aside0.mk A720
                      clear A720
                      by_cases c73 : t687 = true
                      · subst c73
                        have H1 : ((laws_heldIntS.f kj29 t676 1).bind fun t688 => (if t688 < 0 then (some false) else (if t688 = t675 then (some true) else (some false)))) = some r := by rw [if_pos rfl] at H; exact H
                        clear H
                        have H := H1
                        clear H1
                        replace H := Option.bind_eq_some_iff.mp H
                        obtain ⟨t688, A740, H⟩ := H
                        replace H : (if t688 < 0 then (some false) else (if t688 = t675 then (some true) else (some false))) = some r := H
                        have A74 := Aside0.mk A740
                        clear A740
                        by_cases c75 : t688 < 0
                        · rw [if_pos c75] at H
                          have c75b0 : decide (t688 < 0) = true := decide_eq_true c75
                          clear c75
                          exact absurd ((Option.some.inj H).trans hT) Bool.false_ne_true
                        · rw [if_neg c75] at H
                          have c75b0 : decide (t688 < 0) = false := decide_eq_false c75
                          clear c75
                          by_cases c76 : t688 = t675
                          · rw [if_pos c76] at H
                            have c76b0 : (t688 == t675) = true := beq_iff_eq.mpr c76
                            have c76b1 : (t688 != t675) = false := bne_eq_false_iff_eq.mpr c76
                            clear c76
                            obtain rfl := Option.some.inj H
                            go_wp2_with (first | ((with_reducible refine gate_callee (f := 22) rfl ?_); refine goesL_ (some 70) rfl rfl Try.func22 (by kernel_rfl) rfl #[.slice Ao50 t658.length co50, .int .i64 1] rfl (aq) ?_; (with_reducible refine (laws_markIntS.calls kj29 (fun k_ => some k_ = (.slice Ao50 t658.length co50 : Value).ownBlock) (.slice Ao50 t658.length co50) t658 1 t675 t676 w _ ?side1 ?side2 A65.out).mono ?_); (case side1 => repeat (first | (with_reducible first | exact HB.out | apply below_alloc | apply pw_below_drewN | apply below_drew1 | refine below_set ?_ GE639.out | refine below_set ?_ GE654.out) | exact HB.out)); (case side2 => exact Kd.R_tight rfl HO_11.out); rintro e w77 ⟨rfl, hy0, hb, hkp⟩; refine ⟨_, rfl, ?_⟩; have n0_ := Aside0.mk (Kd.R_mono (ok' := fun k_ => some k_ ≠ (.slice Ao50 t658.length co50 : Value).ownBlock) (Kd.R_keptB (HO_8.out) hkp (fun k_ hk_ hs_ => (hk_) hs_)) (fun k_ hk_ => hk_.1)); have n1_ := Aside0.mk (Kd.R_reok rfl hy0 (fun k_ e_ => HO_11.out.1 k_ e_)); have n2_ := Aside0.mk (Kd.R_mono (ok' := fun k_ => True) (Kd.R_keptB ((Kd.R_apart' HO_655000.out (Kd.R_typed HO_11.out) (by decide))) hkp (fun k_ hk_ hs_ => (hk_.2) hs_)) (fun k_ hk_ => trivial)); have n3_ := Aside0.mk (blk_kept (kq BK639.out) hkp (fun hs_ => (fun e_ => (Kd.R_ne HO_11.out BK639.out (by decide)) e_) hs_)); have n4_ := Aside0.mk (blk_kept (kq BK654.out) hkp (fun hs_ => (fun e_ => (Kd.R_ne HO_11.out BK654.out (by decide)) e_) hs_)); have n5_ := Aside0.mk (hb); clear HO_8; clear HO_11; clear HO_655000; clear BK639; clear BK654; clear HB; have HO_8 := n0_; have HO_11 := n1_; have HO_655000 := n2_; have BK639 := n3_; have BK654 := n4_; have HB := n5_; clear n0_ n1_ n2_ n3_ n4_ n5_; (try clear hb); (try clear hkp); (try clear hy0)) | ((with_reducible refine gate_callee (f := 23) rfl ?_); refine goesL_ (some 73) rfl rfl Try.func23 (by kernel_rfl) rfl #[.slice Ao50 t676.length co50, .int .i64 1] rfl (by (try simp only [List.map_toArray, List.map_cons, List.map_nil]); first | done | (rw [show t676.length = t658.length from (Kd.R_reads' HO_11.out).1.symm] <;> rfl) | rfl | (simp only [List.length_drop, List.length_take]; rfl)) ?_; (with_reducible refine (laws_heldIntS.calls kj29 _ _ t676 1 t677 _ ?side1 ?side2 A66.out).mono ?_); (case side1 => repeat (first | exact (Kd.R_reads' HO_11.out).2.2 | (with_reducible refine Kd.C_alloc ?_ _) | (with_reducible refine Kd.C_drewN ?_ _) | (with_reducible refine Kd.C_drew ?_))); (case side2 => rw [show t676.length = t658.length from (Kd.R_reads' HO_11.out).1.symm]; exact (Kd.R_reads' HO_11.out).2.1); rintro e w' ⟨rfl, ⟨nd, rfl⟩⟩; refine ⟨_, rfl, ?_⟩; have hnb78 := NB639_654.out; have hnc78 := NB654_639.out; have hcz79_0 : w77.cell? ⟨gb639, 0, none⟩ = some (.slice A0_0 l0_0.length c0_0) := (blk_cell BK639.out 0).trans rfl; have hfz79_0 := blk_frozen BK639.out 0) | ((with_reducible refine gate_callee (f := 12) rfl ?_); refine goesL_ (some 80) rfl rfl Try.func12 (by kernel_rfl) rfl #[.agg #[.slice A0_0 l0_0.length c0_0]] rfl (aq) ?_; (with_reducible refine (laws_toTree.calls kj29 _ _ l0_0 t678 _ ?side1 ?side2 A69.out).mono ?_); (case side1 => repeat (first | exact (Kd.C_below HR0_0.out (by repeat (first | (with_reducible first | exact HB.out | apply below_alloc | apply pw_below_drewN | apply below_drew1 | refine below_set ?_ GE639.out | refine below_set ?_ GE654.out) | exact HB.out))) | (with_reducible refine Kd.C_alloc ?_ _) | (with_reducible refine Kd.C_drewN ?_ _) | (with_reducible refine Kd.C_drew ?_))); (case side2 => exact HC0_0.out); rintro e w80 ⟨v679, rfl, ho0, hb⟩; refine ⟨_, rfl, ?_⟩; have n0_ := Aside0.mk (Kd.R_below (rq HO_8.out) hb); have n1_ := Aside0.mk (Kd.R_below (rq HO_11.out) hb); have n2_ := Aside0.mk (Kd.R_elder' (rq HO_655000.out) (Kd.R_base ho0) hb); have n3_ := Aside0.mk (Kd.R_lower (Kd.R_new' ho0 (Kd.R_lt (rq HO_655000.out))) (below_size (by repeat (first | (with_reducible first | exact HB.out | apply below_alloc | apply pw_below_drewN | apply below_drew1 | refine below_set ?_ GE639.out | refine below_set ?_ GE654.out) | exact HB.out)))); have n4_ := Aside0.mk (blk_below (g := gb639) (o := .cells #[.slice A0_0 l0_0.length c0_0] 24 (0, 0)) (kq BK639.out) hb); have n5_ := Aside0.mk (blk_below (g := gb654) (o := .cells #[.slice Ao43 t671.length co43] 31 (0, 0)) (kq BK654.out) hb); have n6_ := Aside0.mk (below_step (by repeat (first | (with_reducible first | exact HB.out | apply below_alloc | apply pw_below_drewN | apply below_drew1 | refine below_set ?_ GE639.out | refine below_set ?_ GE654.out) | exact HB.out)) hb); clear HO_8; clear HO_11; clear HO_655000; clear BK639; clear BK654; clear HB; have HO_8 := n0_; have HO_11 := n1_; have HO_655000 := n2_; have HO680 := n3_; have BK639 := n4_; have BK654 := n5_; have HB := n6_; clear n0_ n1_ n2_ n3_ n4_ n5_ n6_; (try clear hb); (try clear hb2); (try clear hk); (try clear hi); (try clear ho0)) | ((with_reducible refine gate_callee (f := 13) rfl ?_); refine goesL_ (some 82) rfl rfl Try.func13 (by kernel_rfl) rfl #[.slice A1 l1.length c1] rfl (aq) ?_; (with_reducible refine (laws_toLineS.calls kj29 _ _ l1 t681 _ ?side1 ?side2 A70.out).mono ?_); (case side1 => exact cq (Kd.C_below HR1.out HB.out)); (case side2 => exact HC1.out); rintro e w81 ⟨v682, rfl, ho0, hb⟩; refine ⟨_, rfl, ?_⟩; have n0_ := Aside0.mk (Kd.R_below (rq HO_8.out) hb); have n1_ := Aside0.mk (Kd.R_below (rq HO_11.out) hb); have n2_ := Aside0.mk (Kd.R_below (rq HO_655000.out) hb); have n3_ := Aside0.mk (Kd.R_below (rq HO680.out) hb); have n4_ := Aside0.mk (Kd.R_lower ho0 (below_size (by repeat (first | (with_reducible first | exact HB.out | apply below_alloc | apply pw_below_drewN | apply below_drew1 | refine below_set ?_ GE639.out | refine below_set ?_ GE654.out) | exact HB.out)))); have n5_ := Aside0.mk (blk_below (g := gb639) (o := .cells #[.slice A0_0 l0_0.length c0_0] 24 (0, 0)) (kq BK639.out) hb); have n6_ := Aside0.mk (blk_below (g := gb654) (o := .cells #[.slice Ao43 t671.length co43] 31 (0, 0)) (kq BK654.out) hb); have n7_ := Aside0.mk (below_step (by repeat (first | (with_reducible first | exact HB.out | apply below_alloc | apply pw_below_drewN | apply below_drew1 | refine below_set ?_ GE639.out | refine below_set ?_ GE654.out) | exact HB.out)) hb); clear HO_8; clear HO_11; clear HO_655000; clear HO680; clear BK639; clear BK654; clear HB; have HO_8 := n0_; have HO_11 := n1_; have HO_655000 := n2_; have HO680 := n3_; have HO683 := n4_; have BK639 := n5_; have BK654 := n6_; have HB := n7_; clear n0_ n1_ n2_ n3_ n4_ n5_ n6_ n7_; (try clear hb); (try clear hb2); (try clear hk); (try clear hi); (try clear ho0); obtain ⟨Ao82, co82, eo82⟩ := Kd.R_slice HO680.out; subst eo82; obtain ⟨Ao83, co83, eo83⟩ := Kd.R_slice HO683.out; subst eo83) | ((with_reducible refine gate_callee (f := 29) rfl ?_); refine goesL_ (some 84) rfl rfl Try.func29 (by kernel_rfl) rfl #[.agg #[.slice Ao82 t678.length co82], .slice Ao83 t681.length co83, .int .i64 a2] rfl (aq) ?_; (with_reducible refine (impl_WayOut.calls kj29 _ _ t678 _ _ t681 a2 t684 _ ?side1 ?side2 ?side3 ?side4 A71.out).mono ?_); (case side1 => repeat (first | exact (Kd.R_reads' HO680.out).2.2 | (with_reducible refine Kd.C_alloc ?_ _) | (with_reducible refine Kd.C_drewN ?_ _) | (with_reducible refine Kd.C_drew ?_))); (case side2 => exact (Kd.R_reads' HO680.out).2.1); (case side3 => repeat (first | exact (Kd.R_reads' HO683.out).2.2 | (with_reducible refine Kd.C_alloc ?_ _) | (with_reducible refine Kd.C_drewN ?_ _) | (with_reducible refine Kd.C_drew ?_))); (case side4 => exact (Kd.R_reads' HO683.out).2.1); rintro e w84 ⟨v685, rfl, ho0, hb⟩; refine ⟨_, rfl, ?_⟩; have n0_ := Aside0.mk (Kd.R_elder' (rq HO_8.out) (Kd.R_base ho0) hb); have n1_ := Aside0.mk (Kd.R_elder' (rq HO_11.out) (Kd.R_base ho0) hb); have n2_ := Aside0.mk (Kd.R_below (rq HO_655000.out) hb); have n3_ := Aside0.mk (Kd.R_below (rq HO680.out) hb); have n4_ := Aside0.mk (Kd.R_below (rq HO683.out) hb); have n5_ := Aside0.mk (Kd.R_lower (Kd.R_new' (Kd.R_new' ho0 (Kd.R_lt (rq HO_8.out))) (Kd.R_lt (rq HO_11.out))) (below_size (by repeat (first | (with_reducible first | exact HB.out | apply below_alloc | apply pw_below_drewN | apply below_drew1 | refine below_set ?_ GE639.out | refine below_set ?_ GE654.out) | exact HB.out)))); have n6_ := Aside0.mk (blk_below (g := gb639) (o := .cells #[.slice A0_0 l0_0.length c0_0] 24 (0, 0)) (kq BK639.out) hb); have n7_ := Aside0.mk (blk_below (g := gb654) (o := .cells #[.slice Ao43 t671.length co43] 31 (0, 0)) (kq BK654.out) hb); have n8_ := Aside0.mk (below_step (by repeat (first | (with_reducible first | exact HB.out | apply below_alloc | apply pw_below_drewN | apply below_drew1 | refine below_set ?_ GE639.out | refine below_set ?_ GE654.out) | exact HB.out)) hb); clear HO_8; clear HO_11; clear HO_655000; clear HO680; clear HO683; clear BK639; clear BK654; clear HB; have HO_8 := n0_; have HO_11 := n1_; have HO_655000 := n2_; have HO680 := n3_; have HO683 := n4_; have HO686 := n5_; have BK639 := n6_; have BK654 := n7_; have HB := n8_; clear n0_ n1_ n2_ n3_ n4_ n5_ n6_ n7_ n8_; (try clear hb); (try clear hb2); (try clear hk); (try clear hi); (try clear ho0); obtain ⟨Ao85, co85, eo85⟩ := Kd.R_slice HO686.out; subst eo85) | ((with_reducible refine gate_callee (f := 19) rfl ?_); refine goesL_ (some 87) rfl rfl Try.func19 (by kernel_rfl) rfl #[.slice Ao85 t684.length co85, .slice Ao51 t648.length co51] rfl (aq) ?_; (with_reducible refine (laws_eqIntS.calls kj29 _ _ t684 _ _ t648 true _ ?side1 ?side2 ?side3 ?side4 A72.out).mono ?_); (case side1 => repeat (first | exact (Kd.R_reads' HO686.out).2.2 | (with_reducible refine Kd.C_alloc ?_ _) | (with_reducible refine Kd.C_drewN ?_ _) | (with_reducible refine Kd.C_drew ?_))); (case side2 => exact (Kd.R_reads' HO686.out).2.1); (case side3 => repeat (first | exact (Kd.R_reads' HO_8.out).2.2 | (with_reducible refine Kd.C_alloc ?_ _) | (with_reducible refine Kd.C_drewN ?_ _) | (with_reducible refine Kd.C_drew ?_))); (case side4 => exact (Kd.R_reads' HO_8.out).2.1); rintro e w' ⟨rfl, ⟨nd, rfl⟩⟩; refine ⟨_, rfl, ?_⟩) | ((with_reducible refine gate_callee (f := 23) rfl ?_); refine goesL_ (some 91) rfl rfl Try.func23 (by kernel_rfl) rfl #[.slice Ao50 t676.length co50, .int .i64 1] rfl (by (try simp only [List.map_toArray, List.map_cons, List.map_nil]); first | done | (rw [show t676.length = t658.length from (Kd.R_reads' HO_11.out).1.symm] <;> rfl) | rfl | (simp only [List.length_drop, List.length_take]; rfl)) ?_; (with_reducible refine (laws_heldIntS.calls kj29 _ _ t676 1 t688 _ ?side1 ?side2 A74.out).mono ?_); (case side1 => repeat (first | exact (Kd.R_reads' HO_11.out).2.2 | (with_reducible refine Kd.C_alloc ?_ _) | (with_reducible refine Kd.C_drewN ?_ _) | (with_reducible refine Kd.C_drew ?_))); (case side2 => rw [show t676.length = t658.length from (Kd.R_reads' HO_11.out).1.symm]; exact (Kd.R_reads' HO_11.out).2.1); rintro e w' ⟨rfl, ⟨nd, rfl⟩⟩; refine ⟨_, rfl, ?_⟩))
                            go_ret
                            exact ⟨by first | rfl | (simp [errW_none, errW_some] <;> rfl) | (simp [*, errW_none, errW_some] <;> rfl), by repeat (first | (with_reducible first | exact HB.out | apply below_alloc | apply pw_below_drewN | apply below_drew1 | refine below_set ?_ GE639.out | refine below_set ?_ GE654.out) | exact HB.out)⟩
                          · rw [if_neg c76] at H
                            have c76b0 : (t688 == t675) = false := beq_eq_false_iff_ne.mpr c76
                            have c76b1 : (t688 != t675) = true := bne_iff_ne.mpr c76
                            exact absurd ((Option.some.inj H).trans hT) Bool.false_ne_true
                      · replace c73 := Bool.eq_false_iff.mpr c73
                        subst c73
                        have H1 : (some false) = some r := by rw [if_neg (show ¬ (false = true) by decide)] at H; exact H
                        clear H
                        have H := H1
                        clear H1
                        exact absurd ((Option.some.inj H).trans hT) Bool.false_ne_true
                    · rw [if_neg c68] at H
                      have c68b0 : (t677 == t675) = false := beq_eq_false_iff_ne.mpr c68
                      have c68b1 : (t677 != t675) = true := bne_iff_ne.mpr c68
                      exact absurd ((Option.some.inj H).trans hT) Bool.false_ne_true
          · replace c27 := Bool.eq_false_iff.mpr c27
            subst c27
            have H1 : (some false) = some r := by rw [if_neg (show ¬ (false = true) by decide)] at H; exact H
            clear H
            have H := H1
            clear H1
            exact absurd ((Option.some.inj H).trans hT) Bool.false_ne_true
        · replace c24 := Bool.eq_false_iff.mpr c24
          subst c24
          have H1 : (some false) = some r := by rw [if_neg (show ¬ (false = true) by decide)] at H; exact H
          clear H
          have H := H1
          clear H1
          exact absurd ((Option.some.inj H).trans hT) Bool.false_ne_true
      · replace c21 := Bool.eq_false_iff.mpr c21
        subst c21
        have H1 : (some false) = some r := by rw [if_neg (show ¬ (false = true) by decide)] at H; exact H
        clear H
        have H := H1
        clear H1
        exact absurd ((Option.some.inj H).trans hT) Bool.false_ne_true
end Go.Proofs.Ytbclgpgolbmlpaa.P
end
