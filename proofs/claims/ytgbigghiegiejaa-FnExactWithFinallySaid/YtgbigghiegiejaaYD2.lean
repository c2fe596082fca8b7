/- One part of the proofs on this program: functions of the program as plain functions, that the code comes to them, and facts on them. -/
import Derived.Test.YtgbigghiegiejaaYAll1
import Derived.Test.YtgbigghiegiejaaYAll2
import Derived.Test.YtgbigghiegiejaaYAll4
import Derived.Test.YtgbigghiegiejaaYAll5
import Derived.Test.YtgbigghiegiejaaYD1
import Derived.Test.YtgbigghiegiejaaYWAuto
section
namespace Go.Proofs.Ytgbigghiegiejaa.P
open Go.RowKit Go.Proofs.YtgbigghiegiejaaW.PrintWords Go.Proofs.YtgbigghiegiejaaW.PrintLast Go.Proofs.YtgbigghiegiejaaW.PrintMore
attribute [local go_sem] max2_int min2_int max_two min_two max_three min_three max_four min_four isSome_cell_setCell
set_option linter.unusedVariables false
set_option linter.unusedSimpArgs false
mutual
def laws_FnExactWithFinally.j0 : Nat → List (S52) → List (S52) → List (S50) → Bool → List (S50) → List (S50) → List (S50) → Bool → Bool → List (S62) → List (S63) → Option (Bool)
 | 0, _, _, _, _, _, _, _, _, _, _, _ => none
 | k + 1, x1, x2, x8, x9, x11, x12, x13, x14, x66, x656000, x676000 => if x66 = true then (some false) else ((laws_toTree.f k x656000).bind fun t687 => ((laws_eqTree.f k x676000 t687).bind fun t690 => (if t690 = true then ((laws_toLineS.f k x1).bind fun t691 => ((laws_eqLineS.f k x11 t691).bind fun t694 => (if t694 = true then ((laws_toLineS.f k x2).bind fun t695 => ((laws_eqLineS.f k x12 t695).bind fun t698 => (if t698 = true then ((laws_markTree.f k x676000 1).bind fun bt699 => ((laws_markLineS.f k x11 bt699.1).bind fun bt701 => ((laws_markLineS.f k x12 bt701.1).bind fun bt703 => (if bt703.1 < 0 then (laws_FnExactWithFinally.j1 k x1 x2 x8 x9 x13 true x656000) else ((laws_eqLineS.f k x13 x8).bind fun t705 => (if t705 = true then (laws_FnExactWithFinally.j1 k x1 x2 x8 x9 x13 (x14 != x9) x656000) else (laws_FnExactWithFinally.j1 k x1 x2 x8 x9 x13 true x656000))))))) else (some false)))) else (some false)))) else (some false))))
def laws_FnExactWithFinally.j1 : Nat → List (S52) → List (S52) → List (S50) → Bool → List (S50) → Bool → List (S62) → Option (Bool)
 | 0, _, _, _, _, _, _, _ => none
 | k + 1, x1, x2, x8, x9, x13, x103, x656000 => if x103 = true then (some false) else ((laws_markLineS.f k x13 1).bind fun bt706 => ((laws_heldLineS.f k bt706.2 1).bind fun t708 => (if t708 < 0 then (some false) else (if t708 = bt706.1 then ((laws_toTree.f k x656000).bind fun t709 => ((laws_toLineS.f k x1).bind fun t712 => ((laws_toLineS.f k x2).bind fun t715 => ((impl_WithFinally.f k t709 t712 t715).bind fun bt718 => ((laws_eqLineS.f k bt718.1 x8).bind fun t722 => (if t722 = true then (laws_FnExactWithFinally.j2 k bt706.2 bt706.1 (bt718.2 != x9)) else (laws_FnExactWithFinally.j2 k bt706.2 bt706.1 true))))))) else (some false)))))
def laws_FnExactWithFinally.j2 : Nat → List (S50) → Int → Bool → Option (Bool)
 | 0, _, _, _ => none
 | k + 1, x13, x16, x133 => if x133 = true then (some false) else ((laws_heldLineS.f k x13 1).bind fun t723 => (if t723 < 0 then (some false) else (if t723 = x16 then (some true) else (some false))))
end
def laws_FnExactWithFinally.f (k : Nat) (l0_0 : List (S62)) (l1 : List (S52)) (l2 : List (S52)) : Option (Bool) := (laws_szTree.f k l0_0 1048576).bind fun t656 => (if t656 < 0 then (some true) else ((laws_szLineS.f l1 t656).bind fun t657 => (if t657 < 0 then (some true) else ((laws_szLineS.f l2 t657).bind fun t658 => (if t658 < 0 then (some true) else ((laws_toTree.f k l0_0).bind fun t659 => ((laws_toLineS.f k l1).bind fun t662 => ((laws_toLineS.f k l2).bind fun t665 => ((spec_WithFinally.f k t659 t662 t665).bind fun bt668 => ((laws_toTree.f k l0_0).bind fun t672 => ((laws_toLineS.f k l1).bind fun t676 => ((laws_toLineS.f k l2).bind fun t679 => ((impl_WithFinally.f k t672 t676 t679).bind fun bt682 => ((laws_eqLineS.f k bt682.1 bt668.1).bind fun t686 => (if t686 = true then (laws_FnExactWithFinally.j0 k l1 l2 bt668.1 bt668.2 t676 t679 bt682.1 bt682.2 (bt682.2 != bt668.2) l0_0 t672) else (laws_FnExactWithFinally.j0 k l1 l2 bt668.1 bt668.2 t676 t679 bt682.1 bt682.2 true l0_0 t672))))))))))))))))
set_option maxHeartbeats 8000000 in
set_option maxRecDepth 100000 in
theorem laws_FnExactWithFinally.calls (k : Nat) (A0_0 : Option Addr) (c0_0 : Nat) (l0_0 : List (S62)) (A1 : Option Addr) (c1 : Nat) (l1 : List (S52)) (A2 : Option Addr) (c2 : Nat) (l2 : List (S52)) (r : Bool) (w : World) (hr0_0 : Kd.C k62 w A0_0 l0_0.length l0_0) (hc0_0 : l0_0.length ≤ c0_0) (hr1 : Kd.C k52 w A1 l1.length l1) (hc1 : l1.length ≤ c1) (hr2 : Kd.C k52 w A2 l2.length l2) (hc2 : l2.length ≤ c2) (hT : r = true) (h : laws_FnExactWithFinally.f k l0_0 l1 l2 = some r) :
  Calls Try.prog 6 #[.agg #[.slice A0_0 l0_0.length c0_0], .slice A1 l1.length c1, .slice A2 l2.length c2] w fun e w' => e = .returned (.bool r) ∧ Below w.heap.size w w' := by
 have hu24 := Try.underlying24
 have hu33 := Try.underlying33
 have HR0_0 := am hr0_0
 have HC0_0 := am hc0_0
 clear hr0_0 hc0_0
 have HR1 := am hr1
 have HC1 := am hc1
 clear hr1 hc1
 have HR2 := am hr2
 have HC2 := am hc2
 clear hr2 hc2
 have HB := am (Below.refl w.heap.size w)
 have H : ((laws_szTree.f k l0_0 1048576).bind fun t656 => (if t656 < 0 then (some true) else ((laws_szLineS.f l1 t656).bind fun t657 => (if t657 < 0 then (some true) else ((laws_szLineS.f l2 t657).bind fun t658 => (if t658 < 0 then (some true) else ((laws_toTree.f k l0_0).bind fun t659 => ((laws_toLineS.f k l1).bind fun t662 => ((laws_toLineS.f k l2).bind fun t665 => ((spec_WithFinally.f k t659 t662 t665).bind fun bt668 => ((laws_toTree.f k l0_0).bind fun t672 => ((laws_toLineS.f k l1).bind fun t676 => ((laws_toLineS.f k l2).bind fun t679 => ((impl_WithFinally.f k t672 t676 t679).bind fun bt682 => ((laws_eqLineS.f k bt682.1 bt668.1).bind fun t686 => (if t686 = true then (laws_FnExactWithFinally.j0 k l1 l2 bt668.1 bt668.2 t676 t679 bt682.1 bt682.2 (bt682.2 != bt668.2) l0_0 t672) else (laws_FnExactWithFinally.j0 k l1 l2 bt668.1 bt668.2 t676 t679 bt682.1 bt682.2 true l0_0 t672))))))))))))))))) = some r := h
 clear h
 replace H := Option.bind_eq_some_iff.mp H
 obtain ⟨t656, A40, H⟩ := H
 replace H : (if t656 < 0 then (some true) else ((laws_szLineS.f l1 t656).bind fun t657 => (if t657 < 0 then (some true) else ((laws_szLineS.f l2 t657).bind fun t658 => (if t658 < 0 then (some true) else ((laws_toTree.f k l0_0).bind fun t659 => ((laws_toLineS.f k l1).bind fun t662 => ((laws_toLineS.f k l2).bind fun t665 => ((spec_WithFinally.f k t659 t662 t665).bind fun bt668 => ((laws_toTree.f k l0_0).bind fun t672 => ((laws_toLineS.f k l1).bind fun t676 => ((laws_toLineS.f k l2).bind fun t679 => ((impl_WithFinally.f k t672 t676 t679).bind fun bt682 => ((laws_eqLineS.f k bt682.1 bt668.1).bind fun t686 => (if t686 = true then (laws_FnExactWithFinally.j0 k l1 l2 bt668.1 bt668.2 t676 t679 bt682.1 bt682.2 (bt682.2 != bt668.2) l0_0 t672) else (laws_FnExactWithFinally.j0 k l1 l2 bt668.1 bt668.2 t676 t679 bt682.1 bt682.2 true l0_0 t672)))))))))))))))) = some r := H
 have A4 := am A40
 clear A40
 by_cases c5 : t656 < 0
 ·rw [if_pos c5] at H
  have c5b0 : decide (t656 < 0) = true := decide_eq_true c5
  clear c5
  obtain rfl := Option.some.inj H
  go_enter Try.func6, Try.ntmps6
  go_wp2_with (first | ((with_reducible refine gate_dst (N := 3) rfl ?_); refine bE (N := 3) (cs := #[.slice A0_0 l0_0.length c0_0]) (t := 24) ?_; intro gb655 hg w6 hbox hb; have BK655 := am (hbox); have GW655 := am ((Y0 : w.heap.size ≤ gb655)); have GE655 := am ((Y0 : w.heap.size ≤ gb655)); replace HB := am (below_step (bq) hb); clear hb hbox hg; have hcz7_0 := bc0 BK655.out; have hfz7_0 := blk_frozen BK655.out 0) | ((with_reducible refine gate_callee (f := 7) rfl ?_); refine gL (some 22) Try.func7 #[.agg #[.slice A0_0 l0_0.length c0_0], .int .i64 1048576] ?_; (with_reducible refine (laws_szTree.calls k _ _ l0_0 1048576 t656 _ ?side1 ?side2 A4.out).mono ?_); (case side1 => exact cq (Kd.C_below HR0_0.out HB.out)); (case side2 => exact HC0_0.out); rintro e w8 ⟨rfl, hb⟩; refine ⟨_, rfl, ?_⟩; replace BK655 := am (blk_below (g := gb655) (o := .cells #[.slice A0_0 l0_0.length c0_0] 24 (0, 0)) (kq BK655.out) hb); replace HB := am (below_step (Y16) hb); (try clear hb); (try clear hb2); (try clear hk); (try clear hi)))
  go_ret
  exact ⟨Y1, Y16⟩
 ·rw [if_neg c5] at H
  have c5b0 : decide (t656 < 0) = false := decide_eq_false c5
  clear c5
  replace H := Option.bind_eq_some_iff.mp H
  obtain ⟨t657, A90, H⟩ := H
  replace H : (if t657 < 0 then (some true) else ((laws_szLineS.f l2 t657).bind fun t658 => (if t658 < 0 then (some true) else ((laws_toTree.f k l0_0).bind fun t659 => ((laws_toLineS.f k l1).bind fun t662 => ((laws_toLineS.f k l2).bind fun t665 => ((spec_WithFinally.f k t659 t662 t665).bind fun bt668 => ((laws_toTree.f k l0_0).bind fun t672 => ((laws_toLineS.f k l1).bind fun t676 => ((laws_toLineS.f k l2).bind fun t679 => ((impl_WithFinally.f k t672 t676 t679).bind fun bt682 => ((laws_eqLineS.f k bt682.1 bt668.1).bind fun t686 => (if t686 = true then (laws_FnExactWithFinally.j0 k l1 l2 bt668.1 bt668.2 t676 t679 bt682.1 bt682.2 (bt682.2 != bt668.2) l0_0 t672) else (laws_FnExactWithFinally.j0 k l1 l2 bt668.1 bt668.2 t676 t679 bt682.1 bt682.2 true l0_0 t672)))))))))))))) = some r := H
  have A9 := am A90
  clear A90
  by_cases c10 : t657 < 0
  ·rw [if_pos c10] at H
   have c10b0 : decide (t657 < 0) = true := decide_eq_true c10
   clear c10
   obtain rfl := Option.some.inj H
   go_enter Try.func6, Try.ntmps6
   go_wp2_with (first | ((with_reducible refine gate_dst (N := 3) rfl ?_); refine bE (N := 3) (cs := #[.slice A0_0 l0_0.length c0_0]) (t := 24) ?_; intro gb655 hg w11 hbox hb; have BK655 := am (hbox); have GW655 := am ((Y0 : w.heap.size ≤ gb655)); have GE655 := am ((Y0 : w.heap.size ≤ gb655)); replace HB := am (below_step (bq) hb); clear hb hbox hg; have hcz12_0 := bc0 BK655.out; have hfz12_0 := blk_frozen BK655.out 0) | ((with_reducible refine gate_callee (f := 7) rfl ?_); refine gL (some 22) Try.func7 #[.agg #[.slice A0_0 l0_0.length c0_0], .int .i64 1048576] ?_; (with_reducible refine (laws_szTree.calls k _ _ l0_0 1048576 t656 _ ?side1 ?side2 A4.out).mono ?_); (case side1 => exact cq (Kd.C_below HR0_0.out HB.out)); (case side2 => exact HC0_0.out); rintro e w13 ⟨rfl, hb⟩; refine ⟨_, rfl, ?_⟩; replace BK655 := am (blk_below (g := gb655) (o := .cells #[.slice A0_0 l0_0.length c0_0] 24 (0, 0)) (kq BK655.out) hb); replace HB := am (below_step (Y16) hb); (try clear hb); (try clear hb2); (try clear hk); (try clear hi)) | ((with_reducible refine gate_callee (f := 8) rfl ?_); refine gL (some 27) Try.func8 #[.slice A1 l1.length c1, .int .i64 t656] ?_; (with_reducible refine (laws_szLineS.calls _ _ l1 t656 t657 _ ?side1 ?side2 A9.out).mono ?_); (case side1 => exact cq (Kd.C_below HR1.out HB.out)); (case side2 => exact HC1.out); rintro e w' ⟨rfl, ⟨nd, rfl⟩⟩; refine ⟨_, rfl, ?_⟩))
   go_ret
   exact ⟨Y1, Y16⟩
  ·rw [if_neg c10] at H
   have c10b0 : decide (t657 < 0) = false := decide_eq_false c10
   clear c10
   replace H := Option.bind_eq_some_iff.mp H
   obtain ⟨t658, A140, H⟩ := H
   replace H : (if t658 < 0 then (some true) else ((laws_toTree.f k l0_0).bind fun t659 => ((laws_toLineS.f k l1).bind fun t662 => ((laws_toLineS.f k l2).bind fun t665 => ((spec_WithFinally.f k t659 t662 t665).bind fun bt668 => ((laws_toTree.f k l0_0).bind fun t672 => ((laws_toLineS.f k l1).bind fun t676 => ((laws_toLineS.f k l2).bind fun t679 => ((impl_WithFinally.f k t672 t676 t679).bind fun bt682 => ((laws_eqLineS.f k bt682.1 bt668.1).bind fun t686 => (if t686 = true then (laws_FnExactWithFinally.j0 k l1 l2 bt668.1 bt668.2 t676 t679 bt682.1 bt682.2 (bt682.2 != bt668.2) l0_0 t672) else (laws_FnExactWithFinally.j0 k l1 l2 bt668.1 bt668.2 t676 t679 bt682.1 bt682.2 true l0_0 t672)))))))))))) = some r := H
   have A14 := am A140
   clear A140
   by_cases c15 : t658 < 0
   ·rw [if_pos c15] at H
    have c15b0 : decide (t658 < 0) = true := decide_eq_true c15
    clear c15
    obtain rfl := Option.some.inj H
    go_enter Try.func6, Try.ntmps6
    go_wp2_with (first | ((with_reducible refine gate_dst (N := 3) rfl ?_); refine bE (N := 3) (cs := #[.slice A0_0 l0_0.length c0_0]) (t := 24) ?_; intro gb655 hg w16 hbox hb; have BK655 := am (hbox); have GW655 := am ((Y0 : w.heap.size ≤ gb655)); have GE655 := am ((Y0 : w.heap.size ≤ gb655)); replace HB := am (below_step (bq) hb); clear hb hbox hg; have hcz17_0 := bc0 BK655.out; have hfz17_0 := blk_frozen BK655.out 0) | ((with_reducible refine gate_callee (f := 7) rfl ?_); refine gL (some 22) Try.func7 #[.agg #[.slice A0_0 l0_0.length c0_0], .int .i64 1048576] ?_; (with_reducible refine (laws_szTree.calls k _ _ l0_0 1048576 t656 _ ?side1 ?side2 A4.out).mono ?_); (case side1 => exact cq (Kd.C_below HR0_0.out HB.out)); (case side2 => exact HC0_0.out); rintro e w18 ⟨rfl, hb⟩; refine ⟨_, rfl, ?_⟩; replace BK655 := am (blk_below (g := gb655) (o := .cells #[.slice A0_0 l0_0.length c0_0] 24 (0, 0)) (kq BK655.out) hb); replace HB := am (below_step (Y16) hb); (try clear hb); (try clear hb2); (try clear hk); (try clear hi)) | ((with_reducible refine gate_callee (f := 8) rfl ?_); refine gL (some 27) Try.func8 #[.slice A1 l1.length c1, .int .i64 t656] ?_; (with_reducible refine (laws_szLineS.calls _ _ l1 t656 t657 _ ?side1 ?side2 A9.out).mono ?_); (case side1 => exact cq (Kd.C_below HR1.out HB.out)); (case side2 => exact HC1.out); rintro e w' ⟨rfl, ⟨nd, rfl⟩⟩; refine ⟨_, rfl, ?_⟩) | ((with_reducible refine gate_callee (f := 8) rfl ?_); refine gL (some 32) Try.func8 #[.slice A2 l2.length c2, .int .i64 t657] ?_; (with_reducible refine (laws_szLineS.calls _ _ l2 t657 t658 _ ?side1 ?side2 A14.out).mono ?_); (case side1 => repeat (first | exact (Kd.C_below HR2.out (by repeat (first | (with_reducible first | exact HB.out | apply below_alloc | apply pw_below_drewN | apply below_drew1 | refine below_set ?_ GE655.out) | exact HB.out))) | (with_reducible refine Kd.C_alloc ?_ _) | (with_reducible refine Kd.C_drewN ?_ _) | (with_reducible refine Kd.C_drew ?_))); (case side2 => exact HC2.out); rintro e w' ⟨rfl, ⟨nd, rfl⟩⟩; refine ⟨_, rfl, ?_⟩))
    go_ret
    exact ⟨Y1, Y16⟩
   ·rw [if_neg c15] at H
    have c15b0 : decide (t658 < 0) = false := decide_eq_false c15
    clear c15
    replace H := Option.bind_eq_some_iff.mp H
    obtain ⟨t659, A190, H⟩ := H
    replace H : ((laws_toLineS.f k l1).bind fun t662 => ((laws_toLineS.f k l2).bind fun t665 => ((spec_WithFinally.f k t659 t662 t665).bind fun bt668 => ((laws_toTree.f k l0_0).bind fun t672 => ((laws_toLineS.f k l1).bind fun t676 => ((laws_toLineS.f k l2).bind fun t679 => ((impl_WithFinally.f k t672 t676 t679).bind fun bt682 => ((laws_eqLineS.f k bt682.1 bt668.1).bind fun t686 => (if t686 = true then (laws_FnExactWithFinally.j0 k l1 l2 bt668.1 bt668.2 t676 t679 bt682.1 bt682.2 (bt682.2 != bt668.2) l0_0 t672) else (laws_FnExactWithFinally.j0 k l1 l2 bt668.1 bt668.2 t676 t679 bt682.1 bt682.2 true l0_0 t672)))))))))) = some r := H
    have A19 := am A190
    clear A190
    replace H := Option.bind_eq_some_iff.mp H
    obtain ⟨t662, A200, H⟩ := H
    replace H : ((laws_toLineS.f k l2).bind fun t665 => ((spec_WithFinally.f k t659 t662 t665).bind fun bt668 => ((laws_toTree.f k l0_0).bind fun t672 => ((laws_toLineS.f k l1).bind fun t676 => ((laws_toLineS.f k l2).bind fun t679 => ((impl_WithFinally.f k t672 t676 t679).bind fun bt682 => ((laws_eqLineS.f k bt682.1 bt668.1).bind fun t686 => (if t686 = true then (laws_FnExactWithFinally.j0 k l1 l2 bt668.1 bt668.2 t676 t679 bt682.1 bt682.2 (bt682.2 != bt668.2) l0_0 t672) else (laws_FnExactWithFinally.j0 k l1 l2 bt668.1 bt668.2 t676 t679 bt682.1 bt682.2 true l0_0 t672))))))))) = some r := H
    have A20 := am A200
    clear A200
    replace H := Option.bind_eq_some_iff.mp H
    obtain ⟨t665, A210, H⟩ := H
    replace H : ((spec_WithFinally.f k t659 t662 t665).bind fun bt668 => ((laws_toTree.f k l0_0).bind fun t672 => ((laws_toLineS.f k l1).bind fun t676 => ((laws_toLineS.f k l2).bind fun t679 => ((impl_WithFinally.f k t672 t676 t679).bind fun bt682 => ((laws_eqLineS.f k bt682.1 bt668.1).bind fun t686 => (if t686 = true then (laws_FnExactWithFinally.j0 k l1 l2 bt668.1 bt668.2 t676 t679 bt682.1 bt682.2 (bt682.2 != bt668.2) l0_0 t672) else (laws_FnExactWithFinally.j0 k l1 l2 bt668.1 bt668.2 t676 t679 bt682.1 bt682.2 true l0_0 t672)))))))) = some r := H
    have A21 := am A210
    clear A210
    replace H := Option.bind_eq_some_iff.mp H
    obtain ⟨⟨t668, t671⟩, A220, H⟩ := H
    replace H : ((laws_toTree.f k l0_0).bind fun t672 => ((laws_toLineS.f k l1).bind fun t676 => ((laws_toLineS.f k l2).bind fun t679 => ((impl_WithFinally.f k t672 t676 t679).bind fun bt682 => ((laws_eqLineS.f k bt682.1 t668).bind fun t686 => (if t686 = true then (laws_FnExactWithFinally.j0 k l1 l2 t668 t671 t676 t679 bt682.1 bt682.2 (bt682.2 != t671) l0_0 t672) else (laws_FnExactWithFinally.j0 k l1 l2 t668 t671 t676 t679 bt682.1 bt682.2 true l0_0 t672))))))) = some r := H
    have A22 := am A220
    clear A220
    replace H := Option.bind_eq_some_iff.mp H
    obtain ⟨t672, A230, H⟩ := H
    replace H : ((laws_toLineS.f k l1).bind fun t676 => ((laws_toLineS.f k l2).bind fun t679 => ((impl_WithFinally.f k t672 t676 t679).bind fun bt682 => ((laws_eqLineS.f k bt682.1 t668).bind fun t686 => (if t686 = true then (laws_FnExactWithFinally.j0 k l1 l2 t668 t671 t676 t679 bt682.1 bt682.2 (bt682.2 != t671) l0_0 t672) else (laws_FnExactWithFinally.j0 k l1 l2 t668 t671 t676 t679 bt682.1 bt682.2 true l0_0 t672)))))) = some r := H
    have A23 := am A230
    clear A230
    replace H := Option.bind_eq_some_iff.mp H
    obtain ⟨t676, A240, H⟩ := H
    replace H : ((laws_toLineS.f k l2).bind fun t679 => ((impl_WithFinally.f k t672 t676 t679).bind fun bt682 => ((laws_eqLineS.f k bt682.1 t668).bind fun t686 => (if t686 = true then (laws_FnExactWithFinally.j0 k l1 l2 t668 t671 t676 t679 bt682.1 bt682.2 (bt682.2 != t671) l0_0 t672) else (laws_FnExactWithFinally.j0 k l1 l2 t668 t671 t676 t679 bt682.1 bt682.2 true l0_0 t672))))) = some r := H
    have A24 := am A240
    clear A240
    replace H := Option.bind_eq_some_iff.mp H
    obtain ⟨t679, A250, H⟩ := H
    replace H : ((impl_WithFinally.f k t672 t676 t679).bind fun bt682 => ((laws_eqLineS.f k bt682.1 t668).bind fun t686 => (if t686 = true then (laws_FnExactWithFinally.j0 k l1 l2 t668 t671 t676 t679 bt682.1 bt682.2 (bt682.2 != t671) l0_0 t672) else (laws_FnExactWithFinally.j0 k l1 l2 t668 t671 t676 t679 bt682.1 bt682.2 true l0_0 t672)))) = some r := H
    have A25 := am A250
    clear A250
    replace H := Option.bind_eq_some_iff.mp H
    obtain ⟨⟨t682, t685⟩, A260, H⟩ := H
    replace H : ((laws_eqLineS.f k t682 t668).bind fun t686 => (if t686 = true then (laws_FnExactWithFinally.j0 k l1 l2 t668 t671 t676 t679 t682 t685 (t685 != t671) l0_0 t672) else (laws_FnExactWithFinally.j0 k l1 l2 t668 t671 t676 t679 t682 t685 true l0_0 t672))) = some r := H
    have A26 := am A260
    clear A260
    have HC27 := am H
    clear H
    go_enter Try.func6, Try.ntmps6
    go_upto_region 16 with (first | ((with_reducible refine gate_dst (N := 3) rfl ?_); refine bE (N := 3) (cs := #[.slice A0_0 l0_0.length c0_0]) (t := 24) ?_; intro gb655 hg w28 hbox hb; have BK655 := am (hbox); have GW655 := am ((Y0 : w.heap.size ≤ gb655)); have GE655 := am ((Y0 : w.heap.size ≤ gb655)); replace HB := am (below_step (bq) hb); clear hb hbox hg; have hcz29_0 := bc0 BK655.out; have hfz29_0 := blk_frozen BK655.out 0) | ((with_reducible refine gate_callee (f := 7) rfl ?_); refine gL (some 22) Try.func7 #[.agg #[.slice A0_0 l0_0.length c0_0], .int .i64 1048576] ?_; (with_reducible refine (laws_szTree.calls k _ _ l0_0 1048576 t656 _ ?side1 ?side2 A4.out).mono ?_); (case side1 => exact cq (Kd.C_below HR0_0.out HB.out)); (case side2 => exact HC0_0.out); rintro e w30 ⟨rfl, hb⟩; refine ⟨_, rfl, ?_⟩; replace BK655 := am (blk_below (g := gb655) (o := .cells #[.slice A0_0 l0_0.length c0_0] 24 (0, 0)) (kq BK655.out) hb); replace HB := am (below_step (Y16) hb); (try clear hb); (try clear hb2); (try clear hk); (try clear hi)) | ((with_reducible refine gate_callee (f := 8) rfl ?_); refine gL (some 27) Try.func8 #[.slice A1 l1.length c1, .int .i64 t656] ?_; (with_reducible refine (laws_szLineS.calls _ _ l1 t656 t657 _ ?side1 ?side2 A9.out).mono ?_); (case side1 => exact cq (Kd.C_below HR1.out HB.out)); (case side2 => exact HC1.out); rintro e w' ⟨rfl, ⟨nd, rfl⟩⟩; refine ⟨_, rfl, ?_⟩; (try (rw [drewN_self w30]; generalize hq_ : World.drewN w30 _ = w30; have n0_ : Aside0 (w30.heap[gb655]? = some (.cells #[.slice A0_0 l0_0.length c0_0] 24 (0, 0))) := ⟨by rw [← hq_]; exact (kq BK655.out)⟩; have n1_ : Aside0 (Below w.heap.size w w30) := ⟨by rw [← hq_]; exact (Y16)⟩; clear BK655 HB hq_; have BK655 := n0_; have HB := n1_; clear n0_ n1_))) | ((with_reducible refine gate_callee (f := 8) rfl ?_); refine gL (some 32) Try.func8 #[.slice A2 l2.length c2, .int .i64 t657] ?_; (with_reducible refine (laws_szLineS.calls _ _ l2 t657 t658 _ ?side1 ?side2 A14.out).mono ?_); (case side1 => exact cq (Kd.C_below HR2.out HB.out)); (case side2 => exact HC2.out); rintro e w' ⟨rfl, ⟨nd, rfl⟩⟩; refine ⟨_, rfl, ?_⟩; (try (rw [drewN_self w30]; generalize hq_ : World.drewN w30 _ = w30; have n0_ : Aside0 (w30.heap[gb655]? = some (.cells #[.slice A0_0 l0_0.length c0_0] 24 (0, 0))) := ⟨by rw [← hq_]; exact (kq BK655.out)⟩; have n1_ : Aside0 (Below w.heap.size w w30) := ⟨by rw [← hq_]; exact (Y16)⟩; clear BK655 HB hq_; have BK655 := n0_; have HB := n1_; clear n0_ n1_)); have hcz31_0 := bc0 BK655.out; have hfz31_0 := blk_frozen BK655.out 0) | ((with_reducible refine gate_callee (f := 10) rfl ?_); refine gL (some 37) Try.func10 #[.agg #[.slice A0_0 l0_0.length c0_0]] ?_; (with_reducible refine (laws_toTree.calls k _ _ l0_0 t659 _ ?side1 ?side2 A19.out).mono ?_); (case side1 => exact cq (Kd.C_below HR0_0.out HB.out)); (case side2 => exact HC0_0.out); rintro e w32 ⟨v660, rfl, ho0, hb⟩; refine ⟨_, rfl, ?_⟩; have HO661 := am (Kd.R_lower ho0 (below_size (Y16))); replace BK655 := am (blk_below (g := gb655) (o := .cells #[.slice A0_0 l0_0.length c0_0] 24 (0, 0)) (kq BK655.out) hb); replace HB := am (below_step (Y16) hb); (try clear hb); (try clear hb2); (try clear hk); (try clear hi); (try clear ho0)) | ((with_reducible refine gate_callee (f := 11) rfl ?_); refine gL (some 39) Try.func11 #[.slice A1 l1.length c1] ?_; (with_reducible refine (laws_toLineS.calls k _ _ l1 t662 _ ?side1 ?side2 A20.out).mono ?_); (case side1 => exact cq (Kd.C_below HR1.out HB.out)); (case side2 => exact HC1.out); rintro e w33 ⟨v663, rfl, ho0, hb⟩; refine ⟨_, rfl, ?_⟩; have HO664 := am (Kd.R_lower ho0 (below_size (Y16))); replace HO661 := am (Kd.R_below (rq HO661.out) hb); replace BK655 := am (blk_below (g := gb655) (o := .cells #[.slice A0_0 l0_0.length c0_0] 24 (0, 0)) (kq BK655.out) hb); replace HB := am (below_step (Y16) hb); (try clear hb); (try clear hb2); (try clear hk); (try clear hi); (try clear ho0)) | ((with_reducible refine gate_callee (f := 11) rfl ?_); refine gL (some 41) Try.func11 #[.slice A2 l2.length c2] ?_; (with_reducible refine (laws_toLineS.calls k _ _ l2 t665 _ ?side1 ?side2 A21.out).mono ?_); (case side1 => exact cq (Kd.C_below HR2.out HB.out)); (case side2 => exact HC2.out); rintro e w34 ⟨v666, rfl, ho0, hb⟩; refine ⟨_, rfl, ?_⟩; have HO667 := am (Kd.R_lower (Kd.R_new' ho0 (Kd.R_lt (rq HO664.out))) (below_size (Y16))); replace HO661 := am (Kd.R_below (rq HO661.out) hb); replace HO664 := am (Kd.R_elder' (rq HO664.out) (Kd.R_base ho0) hb); replace BK655 := am (blk_below (g := gb655) (o := .cells #[.slice A0_0 l0_0.length c0_0] 24 (0, 0)) (kq BK655.out) hb); replace HB := am (below_step (Y16) hb); (try clear hb); (try clear hb2); (try clear hk); (try clear hi); (try clear ho0); obtain ⟨Ao35, co35, eo35⟩ := Kd.R_slice HO661.out; subst eo35; obtain ⟨Ao36, co36, eo36⟩ := Kd.R_slice HO664.out; subst eo36; obtain ⟨Ao37, co37, eo37⟩ := Kd.R_slice HO667.out; subst eo37) | ((with_reducible refine gate_callee (f := 22) rfl ?_); refine gL (some 42) Try.func22 #[.agg #[.slice Ao35 t659.length co35], .slice Ao36 t662.length co36, .slice Ao37 t665.length co37] ?_; (with_reducible refine (spec_WithFinally.calls k _ _ t659 _ _ t662 _ _ t665 t668 t671 _ ?side1 ?side2 ?side3 ?side4 ?side5 ?side6 A22.out).mono ?_); (case side1 => exact cq (Kd.R_reads' HO661.out).2.2); (case side2 => exact (Kd.R_reads' HO661.out).2.1); (case side3 => exact cq (Kd.R_reads' HO664.out).2.2); (case side4 => exact (Kd.R_reads' HO664.out).2.1); (case side5 => exact cq (Kd.R_reads' HO667.out).2.2); (case side6 => exact (Kd.R_reads' HO667.out).2.1); rintro e w38 ⟨v669, rfl, ho0, hb⟩; refine ⟨_, rfl, ?_⟩; have HO670 := am (Kd.R_lower (Kd.R_new' (Kd.R_new' ho0 (Kd.R_lt (rq HO664.out))) (Kd.R_lt (rq HO667.out))) (below_size (Y16))); replace HO661 := am (Kd.R_below (rq HO661.out) hb); replace HO664 := am (Kd.R_elder' (rq HO664.out) (Kd.R_base ho0) hb); replace HO667 := am (Kd.R_elder' (rq HO667.out) (Kd.R_base ho0) hb); replace BK655 := am (blk_below (g := gb655) (o := .cells #[.slice A0_0 l0_0.length c0_0] 24 (0, 0)) (kq BK655.out) hb); replace HB := am (below_step (Y16) hb); (try clear hb); (try clear hb2); (try clear hk); (try clear hi); (try clear ho0); have hcz39_0 := bc0 BK655.out; have hfz39_0 := blk_frozen BK655.out 0) | ((with_reducible refine gate_callee (f := 10) rfl ?_); refine gL (some 46) Try.func10 #[.agg #[.slice A0_0 l0_0.length c0_0]] ?_; (with_reducible refine (laws_toTree.calls k _ _ l0_0 t672 _ ?side1 ?side2 A23.out).mono ?_); (case side1 => exact cq (Kd.C_below HR0_0.out HB.out)); (case side2 => exact HC0_0.out); rintro e w40 ⟨v673, rfl, ho0, hb⟩; refine ⟨_, rfl, ?_⟩; have HO674 := am (Kd.R_lower (Kd.R_new' ho0 (Kd.R_lt (rq HO661.out))) (below_size (Y16))); replace HO661 := am (Kd.R_elder' (rq HO661.out) (Kd.R_base ho0) hb); replace HO664 := am (Kd.R_below (rq HO664.out) hb); replace HO667 := am (Kd.R_below (rq HO667.out) hb); replace HO670 := am (Kd.R_below (rq HO670.out) hb); replace BK655 := am (blk_below (g := gb655) (o := .cells #[.slice A0_0 l0_0.length c0_0] 24 (0, 0)) (kq BK655.out) hb); replace HB := am (below_step (Y16) hb); (try clear hb); (try clear hb2); (try clear hk); (try clear hi); (try clear ho0)) | ((with_reducible refine gate_dst (N := 10) rfl ?_); refine bE (N := 10) (cs := #[.slice none 0 0]) (t := 33) ?_; intro gb675 hg w41 hbox hb; have BK675 := am (hbox); have GW675 := am ((Y102 : w.heap.size ≤ gb675)); have GE675 := am ((Y102 : w.heap.size ≤ gb675)); have NB655_675 := am ((by rw [hg]; exact Nat.ne_of_lt (blk_lt (g := gb655) (o := .cells #[.slice A0_0 l0_0.length c0_0] 24 (0, 0)) (kq BK655.out)) : gb655 ≠ gb675)); have NB675_655 := am ((by rw [hg]; exact Nat.ne_of_gt (blk_lt (g := gb655) (o := .cells #[.slice A0_0 l0_0.length c0_0] 24 (0, 0)) (kq BK655.out)) : gb675 ≠ gb655)); replace HO661 := am (Kd.R_below (rq HO661.out) hb); replace HO664 := am (Kd.R_below (rq HO664.out) hb); replace HO667 := am (Kd.R_below (rq HO667.out) hb); replace HO670 := am (Kd.R_below (rq HO670.out) hb); replace HO674 := am (Kd.R_below (rq HO674.out) hb); replace BK655 := am (blk_below (g := gb655) (o := .cells #[.slice A0_0 l0_0.length c0_0] 24 (0, 0)) (kq BK655.out) hb); replace HB := am (below_step (Y16) hb); clear hb hbox hg; obtain ⟨Ao42, co42, eo42⟩ := Kd.R_slice HO674.out; subst eo42; have hnb43 := NB675_655.out; have hnc43 := NB655_675.out; have hcz44_0 := bc0 BK675.out; have hfz44_0 := blk_frozen BK675.out 0) | ((with_reducible refine gate_callee (f := 11) rfl ?_); refine gL (some 48) Try.func11 #[.slice A1 l1.length c1] ?_; (with_reducible refine (laws_toLineS.calls k _ _ l1 t676 _ ?side1 ?side2 A24.out).mono ?_); (case side1 => exact Kd.C_below HR1.out (Y8)); (case side2 => exact HC1.out); rintro e w45 ⟨v677, rfl, ho0, hb⟩; refine ⟨_, rfl, ?_⟩; have HO678 := am (Kd.R_lower (Kd.R_new' (Kd.R_new' (Kd.R_new' ho0 (Kd.R_lt (Y103))) (Kd.R_lt (Y104))) (Kd.R_lt (Y105))) (below_size (Y8))); replace HO661 := am (Kd.R_below (by (with_reducible repeat (first | apply Kd.R_alloc | apply Kd.R_drewN | apply Kd.R_drew)); exact (Kd.R_mono (Kd.R_far (p := ⟨gb675, 0, none⟩) (Kd.R_types HO661.out BK675.out (by decide)) (fun _ hk => hk.2) (.slice Ao42 t672.length co42)) (fun _ h_ => h_.1))) hb); replace HO664 := am (Kd.R_elder' (Y103) (Kd.R_base ho0) hb); replace HO667 := am (Kd.R_elder' (Y104) (Kd.R_base ho0) hb); replace HO670 := am (Kd.R_elder' (Y105) (Kd.R_base ho0) hb); replace HO674 := am (Kd.R_below (by (with_reducible repeat (first | apply Kd.R_alloc | apply Kd.R_drewN | apply Kd.R_drew)); exact (Kd.R_mono (Kd.R_far (p := ⟨gb675, 0, none⟩) (Kd.R_types HO674.out BK675.out (by decide)) (fun _ hk => hk.2) (.slice Ao42 t672.length co42)) (fun _ h_ => h_.1))) hb); replace BK655 := am (blk_below (g := gb655) (o := .cells #[.slice A0_0 l0_0.length c0_0] 24 (0, 0)) (by (with_reducible repeat (first | refine blk_drewN ?_ _ | refine blk_drew ?_ | refine blk_alloc ?_ _)); refine blk_far ?_ NB655_675.out _; (with_reducible repeat (first | refine blk_drewN ?_ _ | refine blk_drew ?_ | refine blk_alloc ?_ _)); exact BK655.out) hb); replace BK675 := am (blk_below (g := gb675) (o := .cells #[.slice Ao42 t672.length co42] 33 (0, 0)) (by (with_reducible repeat (first | refine blk_drewN ?_ _ | refine blk_drew ?_ | refine blk_alloc ?_ _)); refine blk_put (cs := #[.slice none 0 0]) ?_ 0 _ rfl; (with_reducible repeat (first | refine blk_drewN ?_ _ | refine blk_drew ?_ | refine blk_alloc ?_ _)); exact BK675.out) hb); replace HB := am (below_step (Y8) hb); (try clear hb); (try clear hb2); (try clear hk); (try clear hi); (try clear ho0)) | ((with_reducible refine gate_callee (f := 11) rfl ?_); refine gL (some 50) Try.func11 #[.slice A2 l2.length c2] ?_; (with_reducible refine (laws_toLineS.calls k _ _ l2 t679 _ ?side1 ?side2 A25.out).mono ?_); (case side1 => exact cq (Kd.C_below HR2.out HB.out)); (case side2 => exact HC2.out); rintro e w46 ⟨v680, rfl, ho0, hb⟩; refine ⟨_, rfl, ?_⟩; have HO681 := am (Kd.R_lower (Kd.R_new' (Kd.R_new' (Kd.R_new' (Kd.R_new' ho0 (Kd.R_lt (rq HO664.out))) (Kd.R_lt (rq HO667.out))) (Kd.R_lt (rq HO670.out))) (Kd.R_lt (rq HO678.out))) (below_size (Y8))); replace HO661 := am (Kd.R_below (rq HO661.out) hb); replace HO664 := am (Kd.R_elder' (rq HO664.out) (Kd.R_base ho0) hb); replace HO667 := am (Kd.R_elder' (rq HO667.out) (Kd.R_base ho0) hb); replace HO670 := am (Kd.R_elder' (rq HO670.out) (Kd.R_base ho0) hb); replace HO674 := am (Kd.R_below (rq HO674.out) hb); replace HO678 := am (Kd.R_elder' (rq HO678.out) (Kd.R_base ho0) hb); replace BK655 := am (blk_below (g := gb655) (o := .cells #[.slice A0_0 l0_0.length c0_0] 24 (0, 0)) (kq BK655.out) hb); replace BK675 := am (blk_below (g := gb675) (o := .cells #[.slice Ao42 t672.length co42] 33 (0, 0)) (kq BK675.out) hb); replace HB := am (below_step (Y8) hb); (try clear hb); (try clear hb2); (try clear hk); (try clear hi); (try clear ho0); have hcz47_0 := bc0 BK675.out; have hfz47_0 := blk_frozen BK675.out 0; obtain ⟨Ao48, co48, eo48⟩ := Kd.R_slice HO678.out; subst eo48; obtain ⟨Ao49, co49, eo49⟩ := Kd.R_slice HO681.out; subst eo49) | ((with_reducible refine gate_callee (f := 23) rfl ?_); refine gL (some 55) Try.func23 #[.agg #[.slice Ao42 t672.length co42], .slice Ao48 t676.length co48, .slice Ao49 t679.length co49] ?_; (with_reducible refine (impl_WithFinally.calls k _ _ t672 _ _ t676 _ _ t679 t682 t685 _ ?side1 ?side2 ?side3 ?side4 ?side5 ?side6 A26.out).mono ?_); (case side1 => exact cq (Kd.R_reads' HO674.out).2.2); (case side2 => exact (Kd.R_reads' HO674.out).2.1); (case side3 => exact cq (Kd.R_reads' HO678.out).2.2); (case side4 => exact (Kd.R_reads' HO678.out).2.1); (case side5 => exact cq (Kd.R_reads' HO681.out).2.2); (case side6 => exact (Kd.R_reads' HO681.out).2.1); rintro e w50 ⟨v683, rfl, ho0, hb⟩; refine ⟨_, rfl, ?_⟩; have HO684 := am (Kd.R_lower (Kd.R_new' (Kd.R_new' (Kd.R_new' (Kd.R_new' (Kd.R_new' ho0 (Kd.R_lt (rq HO664.out))) (Kd.R_lt (rq HO667.out))) (Kd.R_lt (rq HO670.out))) (Kd.R_lt (rq HO678.out))) (Kd.R_lt (rq HO681.out))) (below_size (Y8))); replace HO661 := am (Kd.R_below (rq HO661.out) hb); replace HO664 := am (Kd.R_elder' (rq HO664.out) (Kd.R_base ho0) hb); replace HO667 := am (Kd.R_elder' (rq HO667.out) (Kd.R_base ho0) hb); replace HO670 := am (Kd.R_elder' (rq HO670.out) (Kd.R_base ho0) hb); replace HO674 := am (Kd.R_below (rq HO674.out) hb); replace HO678 := am (Kd.R_elder' (rq HO678.out) (Kd.R_base ho0) hb); replace HO681 := am (Kd.R_elder' (rq HO681.out) (Kd.R_base ho0) hb); replace BK655 := am (blk_below (g := gb655) (o := .cells #[.slice A0_0 l0_0.length c0_0] 24 (0, 0)) (kq BK655.out) hb); replace BK675 := am (blk_below (g := gb675) (o := .cells #[.slice Ao42 t672.length co42] 33 (0, 0)) (kq BK675.out) hb); replace HB := am (below_step (Y8) hb); (try clear hb); (try clear hb2); (try clear hk); (try clear hi); (try clear ho0)))
    (try simp only [Act.put, List.setIfInBounds_toArray, List.set_cons_zero, List.set_cons_succ])
    go_cut [66] (fun v66 wc => ∃ (kq : Nat) (x66_26 : Bool), v66 = .bool x66_26 ∧ Aside0 (laws_FnExactWithFinally.j0 kq l1 l2 t668 t671 t676 t679 t682 t685 x66_26 l0_0 t672 = some r) ∧ Aside0 (kq ≤ k) ∧ Aside0 (Kd.R k50 50 wc w.heap.size (fun k_ => some k_ ≠ ((.slice Ao48 t676.length co48) : Value).ownBlock ∧ some k_ ≠ ((.slice Ao49 t679.length co49) : Value).ownBlock ∧ some k_ ≠ (v683 : Value).ownBlock) v669 t668) ∧ Aside0 (Kd.R k50 50 wc w.heap.size (fun k_ => some k_ ≠ (v669 : Value).ownBlock ∧ some k_ ≠ ((.slice Ao49 t679.length co49) : Value).ownBlock ∧ some k_ ≠ (v683 : Value).ownBlock) (.slice Ao48 t676.length co48) t676) ∧ Aside0 (Kd.R k50 50 wc w.heap.size (fun k_ => some k_ ≠ (v669 : Value).ownBlock ∧ some k_ ≠ ((.slice Ao48 t676.length co48) : Value).ownBlock ∧ some k_ ≠ (v683 : Value).ownBlock) (.slice Ao49 t679.length co49) t679) ∧ Aside0 (Kd.R k50 50 wc w.heap.size (fun k_ => some k_ ≠ (v669 : Value).ownBlock ∧ some k_ ≠ ((.slice Ao48 t676.length co48) : Value).ownBlock ∧ some k_ ≠ ((.slice Ao49 t679.length co49) : Value).ownBlock) v683 t682) ∧ Aside0 (Kd.R k63 63 wc w.heap.size (fun _ => True) (.slice Ao42 t672.length co42) t672) ∧ Aside0 (wc.heap[gb655]? = some (.cells #[(.slice A0_0 l0_0.length c0_0)] 24 (0, 0))) ∧ Aside0 (wc.heap[gb675]? = some (.cells #[(.slice Ao42 t672.length co42)] 33 (0, 0))) ∧ Aside0 (Below w.heap.size w wc))
    case first =>
     have H := HC27.out
     clear HC27
     replace H := Option.bind_eq_some_iff.mp H
     obtain ⟨t686, A510, H⟩ := H
     replace H : (if t686 = true then (laws_FnExactWithFinally.j0 k l1 l2 t668 t671 t676 t679 t682 t685 (t685 != t671) l0_0 t672) else (laws_FnExactWithFinally.j0 k l1 l2 t668 t671 t676 t679 t682 t685 true l0_0 t672)) = some r := H
     have A51 := am A510
     clear A510
     by_cases c52 : t686 = true
     ·subst c52
      have H1 : (laws_FnExactWithFinally.j0 k l1 l2 t668 t671 t676 t679 t682 t685 (t685 != t671) l0_0 t672) = some r := by rw [if_pos rfl] at H; exact H
      clear H
      have H := H1
      clear H1
      have H' := am H
      clear H
      obtain ⟨Ao53, co53, eo53⟩ := Kd.R_slice HO684.out
      subst eo53
      obtain ⟨Ao54, co54, eo54⟩ := Kd.R_slice HO670.out
      subst eo54
      go_wp2_with (first | ((with_reducible refine gate_callee (f := 13) rfl ?_); refine gL (some 60) Try.func13 #[.slice Ao53 t682.length co53, .slice Ao54 t668.length co54] ?_; (with_reducible refine (laws_eqLineS.calls k _ _ t682 _ _ t668 true _ ?side1 ?side2 ?side3 ?side4 A51.out).mono ?_); (case side1 => exact cq (Kd.R_reads' HO684.out).2.2); (case side2 => exact (Kd.R_reads' HO684.out).2.1); (case side3 => exact cq (Kd.R_reads' HO670.out).2.2); (case side4 => exact (Kd.R_reads' HO670.out).2.1); rintro e w55 ⟨rfl, hb⟩; refine ⟨_, rfl, ?_⟩; replace HO661 := am (Kd.R_below (rq HO661.out) hb); replace HO664 := am (Kd.R_below (rq HO664.out) hb); replace HO667 := am (Kd.R_below (rq HO667.out) hb); replace HO670 := am (Kd.R_below (rq HO670.out) hb); replace HO674 := am (Kd.R_below (rq HO674.out) hb); replace HO678 := am (Kd.R_below (rq HO678.out) hb); replace HO681 := am (Kd.R_below (rq HO681.out) hb); replace HO684 := am (Kd.R_below (rq HO684.out) hb); replace BK655 := am (blk_below (g := gb655) (o := .cells #[.slice A0_0 l0_0.length c0_0] 24 (0, 0)) (kq BK655.out) hb); replace BK675 := am (blk_below (g := gb675) (o := .cells #[.slice Ao42 t672.length co42] 33 (0, 0)) (kq BK675.out) hb); replace HB := am (below_step (Y8) hb); (try clear hb); (try clear hb2); (try clear hk); (try clear hi)))
      go_meet
      case rel => exact ⟨_, ((t685 != t671)), (sq), H', ⟨Y22⟩, ⟨by (with_reducible repeat (first | apply Kd.R_alloc | apply Kd.R_drewN | apply Kd.R_drew)); exact Kd.R_mono HO670.out (fun _ hk => ⟨hk.1.1.2, ⟨hk.1.2, hk.2⟩⟩)⟩, ⟨by (with_reducible repeat (first | apply Kd.R_alloc | apply Kd.R_drewN | apply Kd.R_drew)); exact Kd.R_mono HO678.out (fun _ hk => ⟨hk.1.1.2, ⟨hk.1.2, hk.2⟩⟩)⟩, ⟨by (with_reducible repeat (first | apply Kd.R_alloc | apply Kd.R_drewN | apply Kd.R_drew)); exact Kd.R_mono HO681.out (fun _ hk => ⟨hk.1.1.2, ⟨hk.1.2, hk.2⟩⟩)⟩, ⟨by (with_reducible repeat (first | apply Kd.R_alloc | apply Kd.R_drewN | apply Kd.R_drew)); exact Kd.R_mono HO684.out (fun _ hk => ⟨hk.1.1.2, ⟨hk.1.2, hk.2⟩⟩)⟩, ⟨by (with_reducible repeat (first | apply Kd.R_alloc | apply Kd.R_drewN | apply Kd.R_drew)); exact Kd.R_mono HO674.out (fun _ hk => trivial)⟩, ⟨kq BK655.out⟩, ⟨kq BK675.out⟩, ⟨Y8⟩⟩
     ·replace c52 := Bool.eq_false_iff.mpr c52
      subst c52
      have H1 : (laws_FnExactWithFinally.j0 k l1 l2 t668 t671 t676 t679 t682 t685 true l0_0 t672) = some r := by rw [if_neg (show ¬ (false = true) by decide)] at H; exact H
      clear H
      have H := H1
      clear H1
      have H' := am H
      clear H
      obtain ⟨Ao56, co56, eo56⟩ := Kd.R_slice HO684.out
      subst eo56
      obtain ⟨Ao57, co57, eo57⟩ := Kd.R_slice HO670.out
      subst eo57
      go_wp2_with (first | ((with_reducible refine gate_callee (f := 13) rfl ?_); refine gL (some 60) Try.func13 #[.slice Ao56 t682.length co56, .slice Ao57 t668.length co57] ?_; (with_reducible refine (laws_eqLineS.calls k _ _ t682 _ _ t668 false _ ?side1 ?side2 ?side3 ?side4 A51.out).mono ?_); (case side1 => exact cq (Kd.R_reads' HO684.out).2.2); (case side2 => exact (Kd.R_reads' HO684.out).2.1); (case side3 => exact cq (Kd.R_reads' HO670.out).2.2); (case side4 => exact (Kd.R_reads' HO670.out).2.1); rintro e w58 ⟨rfl, hb⟩; refine ⟨_, rfl, ?_⟩; replace HO661 := am (Kd.R_below (rq HO661.out) hb); replace HO664 := am (Kd.R_below (rq HO664.out) hb); replace HO667 := am (Kd.R_below (rq HO667.out) hb); replace HO670 := am (Kd.R_below (rq HO670.out) hb); replace HO674 := am (Kd.R_below (rq HO674.out) hb); replace HO678 := am (Kd.R_below (rq HO678.out) hb); replace HO681 := am (Kd.R_below (rq HO681.out) hb); replace HO684 := am (Kd.R_below (rq HO684.out) hb); replace BK655 := am (blk_below (g := gb655) (o := .cells #[.slice A0_0 l0_0.length c0_0] 24 (0, 0)) (kq BK655.out) hb); replace BK675 := am (blk_below (g := gb675) (o := .cells #[.slice Ao42 t672.length co42] 33 (0, 0)) (kq BK675.out) hb); replace HB := am (below_step (Y8) hb); (try clear hb); (try clear hb2); (try clear hk); (try clear hi)))
      go_meet
      case rel => exact ⟨_, (true), (sq), H', ⟨Y22⟩, ⟨by (with_reducible repeat (first | apply Kd.R_alloc | apply Kd.R_drewN | apply Kd.R_drew)); exact Kd.R_mono HO670.out (fun _ hk => ⟨hk.1.1.2, ⟨hk.1.2, hk.2⟩⟩)⟩, ⟨by (with_reducible repeat (first | apply Kd.R_alloc | apply Kd.R_drewN | apply Kd.R_drew)); exact Kd.R_mono HO678.out (fun _ hk => ⟨hk.1.1.2, ⟨hk.1.2, hk.2⟩⟩)⟩, ⟨by (with_reducible repeat (first | apply Kd.R_alloc | apply Kd.R_drewN | apply Kd.R_drew)); exact Kd.R_mono HO681.out (fun _ hk => ⟨hk.1.1.2, ⟨hk.1.2, hk.2⟩⟩)⟩, ⟨by (with_reducible repeat (first | apply Kd.R_alloc | apply Kd.R_drewN | apply Kd.R_drew)); exact Kd.R_mono HO684.out (fun _ hk => ⟨hk.1.1.2, ⟨hk.1.2, hk.2⟩⟩)⟩, ⟨by (with_reducible repeat (first | apply Kd.R_alloc | apply Kd.R_drewN | apply Kd.R_drew)); exact Kd.R_mono HO674.out (fun _ hk => trivial)⟩, ⟨kq BK655.out⟩, ⟨kq BK675.out⟩, ⟨Y8⟩⟩
    case rest =>
     clear HC27
     try clear c1
     try clear c2
     try clear p2
     try clear c4
     try clear c5
     try clear c5b0
     try clear c6
     try clear c7
     try clear c8
     try clear c10
     try clear c10b0
     try clear c11
     try clear c13
     try clear c15
     try clear c15b0
     try clear c22
     try clear c23
     try clear c43
     try clear c52
     try clear hcz12_0
     try clear hcz17_0
     try clear hcz29_0
     try clear hcz31_0
     try clear hcz39_0
     try clear hcz44_0
     try clear hcz47_0
     try clear hcz7_0
     try clear hfz12_0
     try clear hfz17_0
     try clear hfz29_0
     try clear hfz31_0
     try clear hfz39_0
     try clear hfz44_0
     try clear hfz47_0
     try clear hfz7_0
     obtain ⟨kq, x66_26, rfl, HA, HJ26, HO_8, HO_11, HO_12, HO_13, HO_676000, BK655, BK675, HB⟩ := hcut
     cases kq with
     | zero => exact absurd HA.out (by simp [laws_FnExactWithFinally.j0])
     | succ kj26 =>
      have H := HA.out
      clear HA
      simp only [laws_FnExactWithFinally.j0] at H
      by_cases c59 : x66_26 = true
      ·subst c59
       have H1 : (some false) = some r := by rw [if_pos rfl] at H; exact H
       clear H
       have H := H1
       clear H1
       exact absurd ((Option.some.inj H).trans hT) Bool.false_ne_true
      ·replace c59 := Bool.eq_false_iff.mpr c59
       subst c59
       have H1 : ((laws_toTree.f kj26 l0_0).bind fun t687 => ((laws_eqTree.f kj26 t672 t687).bind fun t690 => (if t690 = true then ((laws_toLineS.f kj26 l1).bind fun t691 => ((laws_eqLineS.f kj26 t676 t691).bind fun t694 => (if t694 = true then ((laws_toLineS.f kj26 l2).bind fun t695 => ((laws_eqLineS.f kj26 t679 t695).bind fun t698 => (if t698 = true then ((laws_markTree.f kj26 t672 1).bind fun bt699 => ((laws_markLineS.f kj26 t676 bt699.1).bind fun bt701 => ((laws_markLineS.f kj26 t679 bt701.1).bind fun bt703 => (if bt703.1 < 0 then (laws_FnExactWithFinally.j1 kj26 l1 l2 t668 t671 t682 true l0_0) else ((laws_eqLineS.f kj26 t682 t668).bind fun t705 => (if t705 = true then (laws_FnExactWithFinally.j1 kj26 l1 l2 t668 t671 t682 (t685 != t671) l0_0) else (laws_FnExactWithFinally.j1 kj26 l1 l2 t668 t671 t682 true l0_0))))))) else (some false)))) else (some false)))) else (some false)))) = some r := by rw [if_neg (show ¬ (false = true) by decide)] at H; exact H
       clear H
       have H := H1
       clear H1
       replace H := Option.bind_eq_some_iff.mp H
       obtain ⟨t687, A600, H⟩ := H
       replace H : ((laws_eqTree.f kj26 t672 t687).bind fun t690 => (if t690 = true then ((laws_toLineS.f kj26 l1).bind fun t691 => ((laws_eqLineS.f kj26 t676 t691).bind fun t694 => (if t694 = true then ((laws_toLineS.f kj26 l2).bind fun t695 => ((laws_eqLineS.f kj26 t679 t695).bind fun t698 => (if t698 = true then ((laws_markTree.f kj26 t672 1).bind fun bt699 => ((laws_markLineS.f kj26 t676 bt699.1).bind fun bt701 => ((laws_markLineS.f kj26 t679 bt701.1).bind fun bt703 => (if bt703.1 < 0 then (laws_FnExactWithFinally.j1 kj26 l1 l2 t668 t671 t682 true l0_0) else ((laws_eqLineS.f kj26 t682 t668).bind fun t705 => (if t705 = true then (laws_FnExactWithFinally.j1 kj26 l1 l2 t668 t671 t682 (t685 != t671) l0_0) else (laws_FnExactWithFinally.j1 kj26 l1 l2 t668 t671 t682 true l0_0))))))) else (some false)))) else (some false)))) else (some false))) = some r := H
       have A60 := am A600
       clear A600
       replace H := Option.bind_eq_some_iff.mp H
       obtain ⟨t690, A610, H⟩ := H
       replace H : (if t690 = true then ((laws_toLineS.f kj26 l1).bind fun t691 => ((laws_eqLineS.f kj26 t676 t691).bind fun t694 => (if t694 = true then ((laws_toLineS.f kj26 l2).bind fun t695 => ((laws_eqLineS.f kj26 t679 t695).bind fun t698 => (if t698 = true then ((laws_markTree.f kj26 t672 1).bind fun bt699 => ((laws_markLineS.f kj26 t676 bt699.1).bind fun bt701 => ((laws_markLineS.f kj26 t679 bt701.1).bind fun bt703 => (if bt703.1 < 0 then (laws_FnExactWithFinally.j1 kj26 l1 l2 t668 t671 t682 true l0_0) else ((laws_eqLineS.f kj26 t682 t668).bind fun t705 => (if t705 = true then (laws_FnExactWithFinally.j1 kj26 l1 l2 t668 t671 t682 (t685 != t671) l0_0) else (laws_FnExactWithFinally.j1 kj26 l1 l2 t668 t671 t682 true l0_0))))))) else (some false)))) else (some false)))) else (some false)) = some r := H
       have A61 := am A610
       clear A610
       by_cases c62 : t690 = true
       ·subst c62
        have H1 : ((laws_toLineS.f kj26 l1).bind fun t691 => ((laws_eqLineS.f kj26 t676 t691).bind fun t694 => (if t694 = true then ((laws_toLineS.f kj26 l2).bind fun t695 => ((laws_eqLineS.f kj26 t679 t695).bind fun t698 => (if t698 = true then ((laws_markTree.f kj26 t672 1).bind fun bt699 => ((laws_markLineS.f kj26 t676 bt699.1).bind fun bt701 => ((laws_markLineS.f kj26 t679 bt701.1).bind fun bt703 => (if bt703.1 < 0 then (laws_FnExactWithFinally.j1 kj26 l1 l2 t668 t671 t682 true l0_0) else ((laws_eqLineS.f kj26 t682 t668).bind fun t705 => (if t705 = true then (laws_FnExactWithFinally.j1 kj26 l1 l2 t668 t671 t682 (t685 != t671) l0_0) else (laws_FnExactWithFinally.j1 kj26 l1 l2 t668 t671 t682 true l0_0))))))) else (some false)))) else (some false)))) = some r := by rw [if_pos rfl] at H; exact H
        clear H
        have H := H1
        clear H1
        replace H := Option.bind_eq_some_iff.mp H
        obtain ⟨t691, A630, H⟩ := H
        replace H : ((laws_eqLineS.f kj26 t676 t691).bind fun t694 => (if t694 = true then ((laws_toLineS.f kj26 l2).bind fun t695 => ((laws_eqLineS.f kj26 t679 t695).bind fun t698 => (if t698 = true then ((laws_markTree.f kj26 t672 1).bind fun bt699 => ((laws_markLineS.f kj26 t676 bt699.1).bind fun bt701 => ((laws_markLineS.f kj26 t679 bt701.1).bind fun bt703 => (if bt703.1 < 0 then (laws_FnExactWithFinally.j1 kj26 l1 l2 t668 t671 t682 true l0_0) else ((laws_eqLineS.f kj26 t682 t668).bind fun t705 => (if t705 = true then (laws_FnExactWithFinally.j1 kj26 l1 l2 t668 t671 t682 (t685 != t671) l0_0) else (laws_FnExactWithFinally.j1 kj26 l1 l2 t668 t671 t682 true l0_0))))))) else (some false)))) else (some false))) = some r := H
        have A63 := am A630
        clear A630
        replace H := Option.bind_eq_some_iff.mp H
        obtain ⟨t694, A640, H⟩ := H
        replace H : (if t694 = true then ((laws_toLineS.f kj26 l2).bind fun t695 => ((laws_eqLineS.f kj26 t679 t695).bind fun t698 => (if t698 = true then ((laws_markTree.f kj26 t672 1).bind fun bt699 => ((laws_markLineS.f kj26 t676 bt699.1).bind fun bt701 => ((laws_markLineS.f kj26 t679 bt701.1).bind fun bt703 => (if bt703.1 < 0 then (laws_FnExactWithFinally.j1 kj26 l1 l2 t668 t671 t682 true l0_0) else ((laws_eqLineS.f kj26 t682 t668).bind fun t705 => (if t705 = true then (laws_FnExactWithFinally.j1 kj26 l1 l2 t668 t671 t682 (t685 != t671) l0_0) else (laws_FnExactWithFinally.j1 kj26 l1 l2 t668 t671 t682 true l0_0))))))) else (some false)))) else (some false)) = some r := H
        have A64 := am A640
        clear A640
        by_cases c65 : t694 = true
        ·subst c65
         have H1 : ((laws_toLineS.f kj26 l2).bind fun t695 => ((laws_eqLineS.f kj26 t679 t695).bind fun t698 => (if t698 = true then ((laws_markTree.f kj26 t672 1).bind fun bt699 => ((laws_markLineS.f kj26 t676 bt699.1).bind fun bt701 => ((laws_markLineS.f kj26 t679 bt701.1).bind fun bt703 => (if bt703.1 < 0 then (laws_FnExactWithFinally.j1 kj26 l1 l2 t668 t671 t682 true l0_0) else ((laws_eqLineS.f kj26 t682 t668).bind fun t705 => (if t705 = true then (laws_FnExactWithFinally.j1 kj26 l1 l2 t668 t671 t682 (t685 != t671) l0_0) else (laws_FnExactWithFinally.j1 kj26 l1 l2 t668 t671 t682 true l0_0))))))) else (some false)))) = some r := by rw [if_pos rfl] at H; exact H
         clear H
         have H := H1
         clear H1
         replace H := Option.bind_eq_some_iff.mp H
         obtain ⟨t695, A660, H⟩ := H
         replace H : ((laws_eqLineS.f kj26 t679 t695).bind fun t698 => (if t698 = true then ((laws_markTree.f kj26 t672 1).bind fun bt699 => ((laws_markLineS.f kj26 t676 bt699.1).bind fun bt701 => ((laws_markLineS.f kj26 t679 bt701.1).bind fun bt703 => (if bt703.1 < 0 then (laws_FnExactWithFinally.j1 kj26 l1 l2 t668 t671 t682 true l0_0) else ((laws_eqLineS.f kj26 t682 t668).bind fun t705 => (if t705 = true then (laws_FnExactWithFinally.j1 kj26 l1 l2 t668 t671 t682 (t685 != t671) l0_0) else (laws_FnExactWithFinally.j1 kj26 l1 l2 t668 t671 t682 true l0_0))))))) else (some false))) = some r := H
         have A66 := am A660
         clear A660
         replace H := Option.bind_eq_some_iff.mp H
         obtain ⟨t698, A670, H⟩ := H
         replace H : (if t698 = true then ((laws_markTree.f kj26 t672 1).bind fun bt699 => ((laws_markLineS.f kj26 t676 bt699.1).bind fun bt701 => ((laws_markLineS.f kj26 t679 bt701.1).bind fun bt703 => (if bt703.1 < 0 then (laws_FnExactWithFinally.j1 kj26 l1 l2 t668 t671 t682 true l0_0) else ((laws_eqLineS.f kj26 t682 t668).bind fun t705 => (if t705 = true then (laws_FnExactWithFinally.j1 kj26 l1 l2 t668 t671 t682 (t685 != t671) l0_0) else (laws_FnExactWithFinally.j1 kj26 l1 l2 t668 t671 t682 true l0_0))))))) else (some false)) = some r := H
         have A67 := am A670
         clear A670
         by_cases c68 : t698 = true
         ·subst c68
          have H1 : ((laws_markTree.f kj26 t672 1).bind fun bt699 => ((laws_markLineS.f kj26 t676 bt699.1).bind fun bt701 => ((laws_markLineS.f kj26 t679 bt701.1).bind fun bt703 => (if bt703.1 < 0 then (laws_FnExactWithFinally.j1 kj26 l1 l2 t668 t671 t682 true l0_0) else ((laws_eqLineS.f kj26 t682 t668).bind fun t705 => (if t705 = true then (laws_FnExactWithFinally.j1 kj26 l1 l2 t668 t671 t682 (t685 != t671) l0_0) else (laws_FnExactWithFinally.j1 kj26 l1 l2 t668 t671 t682 true l0_0))))))) = some r := by rw [if_pos rfl] at H; exact H
          clear H
          have H := H1
          clear H1
          replace H := Option.bind_eq_some_iff.mp H
          obtain ⟨⟨t699, t700⟩, A690, H⟩ := H
          replace H : ((laws_markLineS.f kj26 t676 t699).bind fun bt701 => ((laws_markLineS.f kj26 t679 bt701.1).bind fun bt703 => (if bt703.1 < 0 then (laws_FnExactWithFinally.j1 kj26 l1 l2 t668 t671 t682 true l0_0) else ((laws_eqLineS.f kj26 t682 t668).bind fun t705 => (if t705 = true then (laws_FnExactWithFinally.j1 kj26 l1 l2 t668 t671 t682 (t685 != t671) l0_0) else (laws_FnExactWithFinally.j1 kj26 l1 l2 t668 t671 t682 true l0_0)))))) = some r := H
          have A69 := am A690
          clear A690
          replace H := Option.bind_eq_some_iff.mp H
          obtain ⟨⟨t701, t702⟩, A700, H⟩ := H
          replace H : ((laws_markLineS.f kj26 t679 t701).bind fun bt703 => (if bt703.1 < 0 then (laws_FnExactWithFinally.j1 kj26 l1 l2 t668 t671 t682 true l0_0) else ((laws_eqLineS.f kj26 t682 t668).bind fun t705 => (if t705 = true then (laws_FnExactWithFinally.j1 kj26 l1 l2 t668 t671 t682 (t685 != t671) l0_0) else (laws_FnExactWithFinally.j1 kj26 l1 l2 t668 t671 t682 true l0_0))))) = some r := H
          have A70 := am A700
          clear A700
          replace H := Option.bind_eq_some_iff.mp H
          obtain ⟨⟨t703, t704⟩, A710, H⟩ := H
          replace H : (if t703 < 0 then (laws_FnExactWithFinally.j1 kj26 l1 l2 t668 t671 t682 true l0_0) else ((laws_eqLineS.f kj26 t682 t668).bind fun t705 => (if t705 = true then (laws_FnExactWithFinally.j1 kj26 l1 l2 t668 t671 t682 (t685 != t671) l0_0) else (laws_FnExactWithFinally.j1 kj26 l1 l2 t668 t671 t682 true l0_0)))) = some r := H
          have A71 := am A710
          clear A710
          have HC72 := am H
          clear H
          try go_wp2
          replace HO_8 := am (Kd.R_drew HO_8.out)
          replace HO_11 := am (Kd.R_drew HO_11.out)
          replace HO_12 := am (Kd.R_drew HO_12.out)
          replace HO_13 := am (Kd.R_drew HO_13.out)
          replace HO_676000 := am (Kd.R_drew HO_676000.out)
          replace BK655 := am (blk_drew BK655.out)
          replace BK675 := am (blk_drew BK675.out)
          replace HB := am (below_drew1 HB.out)
          refine start_ (n := 5) (S := fun w' => w'.cell? ⟨gb675, 0, none⟩ = some (.slice Ao42 t672.length co42) ∧ w'.cell? ⟨gb655, 0, none⟩ = some (.slice A0_0 l0_0.length c0_0)) (ds := []) #[false, false, false, false, false] (by kernel_rfl) rfl rfl ⟨(blk_cell BK675.out 0).trans rfl, (blk_cell BK655.out 0).trans rfl⟩ (fun hHeld => ?_)
          generalize wc.drew = w73 at HO_8 HO_11 HO_12 HO_13 HO_676000 BK655 BK675 HB hHeld ⊢
          refine take_ (i := 0) (N := some 67) (v := ?_) (a' := ?_) #[true, false, false, false, false] rfl rfl (by kernel_rfl) (fun _ _ _ h => h) (Or.inl ⟨by rfl, ?_⟩) hHeld ?_ ?_
          rotate_left
          ·rintro w' ⟨s0, s1⟩
           go_simp
           with_reducible rfl
          rotate_left
          ·exact sa
          refine take_ (i := 1) (N := some 68) (v := ?_) (a' := ?_) #[true, true, false, false, false] rfl rfl (by kernel_rfl) (fun _ _ _ h => h) (Or.inl ⟨by rfl, ?_⟩) hHeld ?_ ?_
          rotate_left
          ·rintro w' ⟨s0, s1⟩
           go_simp
           with_reducible rfl
          rotate_left
          ·exact sa
          refine one_ (i := 2) (N := some 69) #[true, true, true, false, false] rfl rfl (by kernel_rfl) (by decide) (fun K hK => ?_)
          refine goes_ Try.func10 (by kernel_rfl) rfl #[.agg #[.slice A0_0 l0_0.length c0_0]] (by rfl) rfl rfl (aq) ?_
          with_reducible refine (laws_toTree.calls kj26 _ _ l0_0 t687 _ ?side1 ?side2 A60.out).mono ?_
          (case side1 => exact cq (Kd.C_below HR0_0.out HB.out))
          (case side2 => exact HC0_0.out)
          rintro e w74 ⟨v688, rfl, ho0, hb⟩
          refine ⟨_, rfl, ?_⟩
          have HO689 := am (Kd.R_lower (Kd.R_new' ho0 (Kd.R_lt (rq HO_676000.out))) (below_size (Y8)))
          replace HO_8 := am (Kd.R_below (rq HO_8.out) hb)
          replace HO_11 := am (Kd.R_below (rq HO_11.out) hb)
          replace HO_12 := am (Kd.R_below (rq HO_12.out) hb)
          replace HO_13 := am (Kd.R_below (rq HO_13.out) hb)
          replace HO_676000 := am (Kd.R_elder' (rq HO_676000.out) (Kd.R_base ho0) hb)
          replace BK655 := am (blk_below (g := gb655) (o := .cells #[.slice A0_0 l0_0.length c0_0] 24 (0, 0)) (kq BK655.out) hb)
          replace BK675 := am (blk_below (g := gb675) (o := .cells #[.slice Ao42 t672.length co42] 33 (0, 0)) (kq BK675.out) hb)
          replace HB := am (below_step (Y8) hb)
          (try clear hb)
          (try clear hb2)
          (try clear hk)
          (try clear hi)
          (try clear ho0)
          obtain ⟨Ao75, co75, eo75⟩ := Kd.R_slice HO689.out
          (first | subst eo75 | (injection eo75 with f1_ f2_ f3_; have f4_ := f1_.symm; have f5_ := f3_.symm; clear f1_ f2_ f3_; subst f4_; subst f5_))
          refine hK.out _ _ ⟨(blk_cell BK675.out 0).trans rfl, (blk_cell BK655.out 0).trans rfl⟩ (fun hHeld => ?_)
          clear hK K
          refine norm_ (a' := ?_) ?_ ?_
          rotate_left
          ·show Act.put _ (some 69) _ = _
           simp only [Act.put, List.setIfInBounds_toArray, List.set_cons_zero, List.set_cons_succ, i64_w, i32_w]
           rfl
          refine one_ (i := 3) (N := some 70) #[true, true, true, true, false] rfl rfl (by kernel_rfl) (by decide) (fun K hK => ?_)
          refine goes_ Try.func14 (by kernel_rfl) rfl #[.agg #[.slice Ao42 t672.length co42], .agg #[.slice Ao75 t687.length co75]] (by rfl) rfl rfl (aq) ?_
          with_reducible refine (laws_eqTree.calls kj26 _ _ t672 _ _ t687 true _ ?side1 ?side2 ?side3 ?side4 A61.out).mono ?_
          (case side1 => exact cq (Kd.R_reads' HO_676000.out).2.2)
          (case side2 => exact (Kd.R_reads' HO_676000.out).2.1)
          (case side3 => exact cq (Kd.R_reads' HO689.out).2.2)
          (case side4 => exact (Kd.R_reads' HO689.out).2.1)
          rintro e w76 ⟨rfl, hb⟩
          refine ⟨_, rfl, ?_⟩
          replace HO_8 := am (Kd.R_below (rq HO_8.out) hb)
          replace HO_11 := am (Kd.R_below (rq HO_11.out) hb)
          replace HO_12 := am (Kd.R_below (rq HO_12.out) hb)
          replace HO_13 := am (Kd.R_below (rq HO_13.out) hb)
          replace HO_676000 := am (Kd.R_below (rq HO_676000.out) hb)
          replace HO689 := am (Kd.R_below (rq HO689.out) hb)
          replace BK655 := am (blk_below (g := gb655) (o := .cells #[.slice A0_0 l0_0.length c0_0] 24 (0, 0)) (kq BK655.out) hb)
          replace BK675 := am (blk_below (g := gb675) (o := .cells #[.slice Ao42 t672.length co42] 33 (0, 0)) (kq BK675.out) hb)
          replace HB := am (below_step (Y8) hb)
          (try clear hb)
          (try clear hb2)
          (try clear hk)
          (try clear hi)
          refine hK.out _ _ ⟨(blk_cell BK675.out 0).trans rfl, (blk_cell BK655.out 0).trans rfl⟩ (fun hHeld => ?_)
          clear hK K
          refine norm_ (a' := ?_) ?_ ?_
          rotate_left
          ·show Act.put _ (some 70) _ = _
           simp only [Act.put, List.setIfInBounds_toArray, List.set_cons_zero, List.set_cons_succ, i64_w, i32_w]
           rfl
          refine pure_ (i := 4) (N := some 71) (v := ?_) (a' := ?_) #[true, true, true, true, true] rfl rfl (by kernel_rfl) (fun _ _ _ h => h) (Or.inl ⟨by rfl, ?_⟩) ?_ ?_
          rotate_left
          ·exact sb
          rotate_left
          ·exact sa
          refine done_ (by kernel_rfl) ?_
          go_upto_region 28 with (first | ((with_reducible refine gate_callee (f := 11) rfl ?_); refine gL (some 74) Try.func11 #[.slice A1 l1.length c1] ?_; (with_reducible refine (laws_toLineS.calls kj26 _ _ l1 t691 _ ?side1 ?side2 A63.out).mono ?_); (case side1 => exact cq (Kd.C_below HR1.out HB.out)); (case side2 => exact HC1.out); rintro e w77 ⟨v692, rfl, ho0, hb⟩; refine ⟨_, rfl, ?_⟩; have HO693 := am (Kd.R_lower (Kd.R_new' (Kd.R_new' (Kd.R_new' (Kd.R_new' ho0 (Kd.R_lt (rq HO_8.out))) (Kd.R_lt (rq HO_11.out))) (Kd.R_lt (rq HO_12.out))) (Kd.R_lt (rq HO_13.out))) (below_size (Y8))); replace HO_8 := am (Kd.R_elder' (rq HO_8.out) (Kd.R_base ho0) hb); replace HO_11 := am (Kd.R_elder' (rq HO_11.out) (Kd.R_base ho0) hb); replace HO_12 := am (Kd.R_elder' (rq HO_12.out) (Kd.R_base ho0) hb); replace HO_13 := am (Kd.R_elder' (rq HO_13.out) (Kd.R_base ho0) hb); replace HO_676000 := am (Kd.R_below (rq HO_676000.out) hb); replace HO689 := am (Kd.R_below (rq HO689.out) hb); replace BK655 := am (blk_below (g := gb655) (o := .cells #[.slice A0_0 l0_0.length c0_0] 24 (0, 0)) (kq BK655.out) hb); replace BK675 := am (blk_below (g := gb675) (o := .cells #[.slice Ao42 t672.length co42] 33 (0, 0)) (kq BK675.out) hb); replace HB := am (below_step (Y8) hb); (try clear hb); (try clear hb2); (try clear hk); (try clear hi); (try clear ho0); obtain ⟨Ao78, co78, eo78⟩ := Kd.R_slice HO693.out; subst eo78) | ((with_reducible refine gate_callee (f := 13) rfl ?_); refine gL (some 75) Try.func13 #[.slice Ao48 t676.length co48, .slice Ao78 t691.length co78] ?_; (with_reducible refine (laws_eqLineS.calls kj26 _ _ t676 _ _ t691 true _ ?side1 ?side2 ?side3 ?side4 A64.out).mono ?_); (case side1 => exact cq (Kd.R_reads' HO_11.out).2.2); (case side2 => exact (Kd.R_reads' HO_11.out).2.1); (case side3 => exact cq (Kd.R_reads' HO693.out).2.2); (case side4 => exact (Kd.R_reads' HO693.out).2.1); rintro e w79 ⟨rfl, hb⟩; refine ⟨_, rfl, ?_⟩; replace HO_8 := am (Kd.R_below (rq HO_8.out) hb); replace HO_11 := am (Kd.R_below (rq HO_11.out) hb); replace HO_12 := am (Kd.R_below (rq HO_12.out) hb); replace HO_13 := am (Kd.R_below (rq HO_13.out) hb); replace HO_676000 := am (Kd.R_below (rq HO_676000.out) hb); replace HO689 := am (Kd.R_below (rq HO689.out) hb); replace HO693 := am (Kd.R_below (rq HO693.out) hb); replace BK655 := am (blk_below (g := gb655) (o := .cells #[.slice A0_0 l0_0.length c0_0] 24 (0, 0)) (kq BK655.out) hb); replace BK675 := am (blk_below (g := gb675) (o := .cells #[.slice Ao42 t672.length co42] 33 (0, 0)) (kq BK675.out) hb); replace HB := am (below_step (Y8) hb); (try clear hb); (try clear hb2); (try clear hk); (try clear hi)) | ((with_reducible refine gate_callee (f := 11) rfl ?_); refine gL (some 79) Try.func11 #[.slice A2 l2.length c2] ?_; (with_reducible refine (laws_toLineS.calls kj26 _ _ l2 t695 _ ?side1 ?side2 A66.out).mono ?_); (case side1 => exact cq (Kd.C_below HR2.out HB.out)); (case side2 => exact HC2.out); rintro e w80 ⟨v696, rfl, ho0, hb⟩; refine ⟨_, rfl, ?_⟩; have HO697 := am (Kd.R_lower (Kd.R_new' (Kd.R_new' (Kd.R_new' (Kd.R_new' (Kd.R_new' ho0 (Kd.R_lt (rq HO_8.out))) (Kd.R_lt (rq HO_11.out))) (Kd.R_lt (rq HO_12.out))) (Kd.R_lt (rq HO_13.out))) (Kd.R_lt (rq HO693.out))) (below_size (Y8))); replace HO_8 := am (Kd.R_elder' (rq HO_8.out) (Kd.R_base ho0) hb); replace HO_11 := am (Kd.R_elder' (rq HO_11.out) (Kd.R_base ho0) hb); replace HO_12 := am (Kd.R_elder' (rq HO_12.out) (Kd.R_base ho0) hb); replace HO_13 := am (Kd.R_elder' (rq HO_13.out) (Kd.R_base ho0) hb); replace HO_676000 := am (Kd.R_below (rq HO_676000.out) hb); replace HO689 := am (Kd.R_below (rq HO689.out) hb); replace HO693 := am (Kd.R_elder' (rq HO693.out) (Kd.R_base ho0) hb); replace BK655 := am (blk_below (g := gb655) (o := .cells #[.slice A0_0 l0_0.length c0_0] 24 (0, 0)) (kq BK655.out) hb); replace BK675 := am (blk_below (g := gb675) (o := .cells #[.slice Ao42 t672.length co42] 33 (0, 0)) (kq BK675.out) hb); replace HB := am (below_step (Y8) hb); (try clear hb); (try clear hb2); (try clear hk); (try clear hi); (try clear ho0); obtain ⟨Ao81, co81, eo81⟩ := Kd.R_slice HO697.out; subst eo81) | ((with_reducible refine gate_callee (f := 13) rfl ?_); refine gL (some 80) Try.func13 #[.slice Ao49 t679.length co49, .slice Ao81 t695.length co81] ?_; (with_reducible refine (laws_eqLineS.calls kj26 _ _ t679 _ _ t695 true _ ?side1 ?side2 ?side3 ?side4 A67.out).mono ?_); (case side1 => exact cq (Kd.R_reads' HO_12.out).2.2); (case side2 => exact (Kd.R_reads' HO_12.out).2.1); (case side3 => exact cq (Kd.R_reads' HO697.out).2.2); (case side4 => exact (Kd.R_reads' HO697.out).2.1); rintro e w82 ⟨rfl, hb⟩; refine ⟨_, rfl, ?_⟩; replace HO_8 := am (Kd.R_below (rq HO_8.out) hb); replace HO_11 := am (Kd.R_below (rq HO_11.out) hb); replace HO_12 := am (Kd.R_below (rq HO_12.out) hb); replace HO_13 := am (Kd.R_below (rq HO_13.out) hb); replace HO_676000 := am (Kd.R_below (rq HO_676000.out) hb); replace HO689 := am (Kd.R_below (rq HO689.out) hb); replace HO693 := am (Kd.R_below (rq HO693.out) hb); replace HO697 := am (Kd.R_below (rq HO697.out) hb); replace BK655 := am (blk_below (g := gb655) (o := .cells #[.slice A0_0 l0_0.length c0_0] 24 (0, 0)) (kq BK655.out) hb); replace BK675 := am (blk_below (g := gb675) (o := .cells #[.slice Ao42 t672.length co42] 33 (0, 0)) (kq BK675.out) hb); replace HB := am (below_step (Y8) hb); (try clear hb); (try clear hb2); (try clear hk); (try clear hi); have hnb83 := NB675_655.out; have hnc83 := NB655_675.out; have hcz84_0 := bc0 BK675.out; have hfz84_0 := blk_frozen BK675.out 0) | ((with_reducible refine gate_callee (f := 15) rfl ?_); refine gL (some 84) Try.func15 #[.agg #[.slice Ao42 t672.length co42], .int .i64 1] ?_; (with_reducible refine (laws_markTree.calls kj26 (fun k_ => some k_ = (.slice Ao42 t672.length co42 : Value).ownBlock) (.slice Ao42 t672.length co42) t672 1 t699 t700 w _ ?side1 ?side2 A69.out).mono ?_); (case side1 => exact Y8); (case side2 => exact Kd.R_tight rfl HO_676000.out); rintro e w85 ⟨rfl, hy0, hb, hkp⟩; refine ⟨_, rfl, ?_⟩; replace HO_8 := am (Kd.R_mono (ok' := fun k_ => some k_ ≠ (.slice Ao48 t676.length co48 : Value).ownBlock ∧ some k_ ≠ (.slice Ao49 t679.length co49 : Value).ownBlock ∧ some k_ ≠ (v683 : Value).ownBlock ∧ some k_ ≠ (.slice Ao78 t691.length co78 : Value).ownBlock ∧ some k_ ≠ (.slice Ao81 t695.length co81 : Value).ownBlock) (Kd.R_keptB ((Kd.R_apart' HO_8.out (Kd.R_typed HO_676000.out) (by decide))) hkp (fun k_ hk_ hs_ => (hk_.2) hs_)) (fun k_ hk_ => ⟨hk_.1.1.1.1.1, hk_.1.1.1.1.2.1, hk_.1.1.1.1.2.2, hk_.1.1.1.2, hk_.1.1.2⟩)); replace HO_11 := am (Kd.R_mono (ok' := fun k_ => some k_ ≠ (v669 : Value).ownBlock ∧ some k_ ≠ (.slice Ao49 t679.length co49 : Value).ownBlock ∧ some k_ ≠ (v683 : Value).ownBlock ∧ some k_ ≠ (.slice Ao78 t691.length co78 : Value).ownBlock ∧ some k_ ≠ (.slice Ao81 t695.length co81 : Value).ownBlock) (Kd.R_keptB ((Kd.R_apart' HO_11.out (Kd.R_typed HO_676000.out) (by decide))) hkp (fun k_ hk_ hs_ => (hk_.2) hs_)) (fun k_ hk_ => ⟨hk_.1.1.1.1.1, hk_.1.1.1.1.2.1, hk_.1.1.1.1.2.2, hk_.1.1.1.2, hk_.1.1.2⟩)); replace HO_12 := am (Kd.R_mono (ok' := fun k_ => some k_ ≠ (v669 : Value).ownBlock ∧ some k_ ≠ (.slice Ao48 t676.length co48 : Value).ownBlock ∧ some k_ ≠ (v683 : Value).ownBlock ∧ some k_ ≠ (.slice Ao78 t691.length co78 : Value).ownBlock ∧ some k_ ≠ (.slice Ao81 t695.length co81 : Value).ownBlock) (Kd.R_keptB ((Kd.R_apart' HO_12.out (Kd.R_typed HO_676000.out) (by decide))) hkp (fun k_ hk_ hs_ => (hk_.2) hs_)) (fun k_ hk_ => ⟨hk_.1.1.1.1.1, hk_.1.1.1.1.2.1, hk_.1.1.1.1.2.2, hk_.1.1.1.2, hk_.1.1.2⟩)); replace HO_13 := am (Kd.R_mono (ok' := fun k_ => some k_ ≠ (v669 : Value).ownBlock ∧ some k_ ≠ (.slice Ao48 t676.length co48 : Value).ownBlock ∧ some k_ ≠ (.slice Ao49 t679.length co49 : Value).ownBlock ∧ some k_ ≠ (.slice Ao78 t691.length co78 : Value).ownBlock ∧ some k_ ≠ (.slice Ao81 t695.length co81 : Value).ownBlock) (Kd.R_keptB ((Kd.R_apart' HO_13.out (Kd.R_typed HO_676000.out) (by decide))) hkp (fun k_ hk_ hs_ => (hk_.2) hs_)) (fun k_ hk_ => ⟨hk_.1.1.1.1.1, hk_.1.1.1.1.2.1, hk_.1.1.1.1.2.2, hk_.1.1.1.2, hk_.1.1.2⟩)); replace BK655 := am (blk_kept (kq BK655.out) hkp (fun hs_ => (fun e_ => (Kd.R_ne HO_676000.out BK655.out (by decide)) e_) hs_)); replace BK675 := am (blk_kept (kq BK675.out) hkp (fun hs_ => (fun e_ => (Kd.R_ne HO_676000.out BK675.out (by decide)) e_) hs_)); replace HO689 := am (Kd.R_mono (ok' := fun k_ => some k_ ≠ (.slice Ao42 t672.length co42 : Value).ownBlock) (Kd.R_keptB (HO689.out) hkp (fun k_ hk_ hs_ => (hk_.2) hs_)) (fun k_ hk_ => hk_.1.2)); replace HO693 := am (Kd.R_mono (ok' := fun k_ => some k_ ≠ (v669 : Value).ownBlock ∧ some k_ ≠ (.slice Ao48 t676.length co48 : Value).ownBlock ∧ some k_ ≠ (.slice Ao49 t679.length co49 : Value).ownBlock ∧ some k_ ≠ (v683 : Value).ownBlock ∧ some k_ ≠ (.slice Ao81 t695.length co81 : Value).ownBlock) (Kd.R_keptB ((Kd.R_apart' HO693.out (Kd.R_typed HO_676000.out) (by decide))) hkp (fun k_ hk_ hs_ => (hk_.2) hs_)) (fun k_ hk_ => ⟨hk_.1.1.1.1.1.1.2, hk_.1.1.1.1.1.2, hk_.1.1.1.1.2, hk_.1.1.1.2, hk_.1.1.2⟩)); replace HO697 := am (Kd.R_mono (ok' := fun k_ => some k_ ≠ (v669 : Value).ownBlock ∧ some k_ ≠ (.slice Ao48 t676.length co48 : Value).ownBlock ∧ some k_ ≠ (.slice Ao49 t679.length co49 : Value).ownBlock ∧ some k_ ≠ (v683 : Value).ownBlock ∧ some k_ ≠ (.slice Ao78 t691.length co78 : Value).ownBlock) (Kd.R_keptB ((Kd.R_apart' HO697.out (Kd.R_typed HO_676000.out) (by decide))) hkp (fun k_ hk_ hs_ => (hk_.2) hs_)) (fun k_ hk_ => ⟨hk_.1.1.1.1.1.1.2, hk_.1.1.1.1.1.2, hk_.1.1.1.1.2, hk_.1.1.1.2, hk_.1.1.2⟩)); replace HO_676000 := am (Kd.R_reok rfl hy0 (fun k_ e_ => HO_676000.out.1 k_ e_)); replace HB := am (hb); (try clear hb); (try clear hkp); (try clear hy0)) | ((with_reducible refine gate_callee (f := 16) rfl ?_); refine gL (some 87) Try.func16 #[.slice Ao48 t676.length co48, .int .i64 t699] ?_; (with_reducible refine (laws_markLineS.calls kj26 (fun k_ => some k_ = (.slice Ao48 t676.length co48 : Value).ownBlock) (.slice Ao48 t676.length co48) t676 t699 t701 t702 w _ ?side1 ?side2 A70.out).mono ?_); (case side1 => exact Y8); (case side2 => exact Kd.R_tight rfl HO_11.out); rintro e w86 ⟨rfl, hy0, hb, hkp⟩; refine ⟨_, rfl, ?_⟩; replace HO_8 := am (Kd.R_mono (ok' := fun k_ => some k_ ≠ (.slice Ao48 t676.length co48 : Value).ownBlock ∧ some k_ ≠ (.slice Ao49 t679.length co49 : Value).ownBlock ∧ some k_ ≠ (v683 : Value).ownBlock ∧ some k_ ≠ (.slice Ao78 t691.length co78 : Value).ownBlock ∧ some k_ ≠ (.slice Ao81 t695.length co81 : Value).ownBlock) (Kd.R_keptB (HO_8.out) hkp (fun k_ hk_ hs_ => (hk_.1) hs_)) (fun k_ hk_ => ⟨hk_.1.1, hk_.1.2.1, hk_.1.2.2.1, hk_.1.2.2.2.1, hk_.1.2.2.2.2⟩)); replace HO_12 := am (Kd.R_mono (ok' := fun k_ => some k_ ≠ (v669 : Value).ownBlock ∧ some k_ ≠ (.slice Ao48 t676.length co48 : Value).ownBlock ∧ some k_ ≠ (v683 : Value).ownBlock ∧ some k_ ≠ (.slice Ao78 t691.length co78 : Value).ownBlock ∧ some k_ ≠ (.slice Ao81 t695.length co81 : Value).ownBlock) (Kd.R_keptB (HO_12.out) hkp (fun k_ hk_ hs_ => (hk_.2.1) hs_)) (fun k_ hk_ => ⟨hk_.1.1, hk_.1.2.1, hk_.1.2.2.1, hk_.1.2.2.2.1, hk_.1.2.2.2.2⟩)); replace HO_13 := am (Kd.R_mono (ok' := fun k_ => some k_ ≠ (v669 : Value).ownBlock ∧ some k_ ≠ (.slice Ao48 t676.length co48 : Value).ownBlock ∧ some k_ ≠ (.slice Ao49 t679.length co49 : Value).ownBlock ∧ some k_ ≠ (.slice Ao78 t691.length co78 : Value).ownBlock ∧ some k_ ≠ (.slice Ao81 t695.length co81 : Value).ownBlock) (Kd.R_keptB (HO_13.out) hkp (fun k_ hk_ hs_ => (hk_.2.1) hs_)) (fun k_ hk_ => ⟨hk_.1.1, hk_.1.2.1, hk_.1.2.2.1, hk_.1.2.2.2.1, hk_.1.2.2.2.2⟩)); replace HO_676000 := am (Kd.R_mono (ok' := fun k_ => some k_ ≠ (.slice Ao75 t687.length co75 : Value).ownBlock) (Kd.R_keptB ((Kd.R_apart' HO_676000.out (Kd.R_typed HO_11.out) (by decide))) hkp (fun k_ hk_ hs_ => (hk_.2) hs_)) (fun k_ hk_ => hk_.1.1.2)); replace BK655 := am (blk_kept (kq BK655.out) hkp (fun hs_ => (fun e_ => (Kd.R_ne HO_11.out BK655.out (by decide)) e_) hs_)); replace BK675 := am (blk_kept (kq BK675.out) hkp (fun hs_ => (fun e_ => (Kd.R_ne HO_11.out BK675.out (by decide)) e_) hs_)); replace HO689 := am (Kd.R_mono (ok' := fun k_ => some k_ ≠ (.slice Ao42 t672.length co42 : Value).ownBlock) (Kd.R_keptB ((Kd.R_apart' HO689.out (Kd.R_typed HO_11.out) (by decide))) hkp (fun k_ hk_ hs_ => (hk_.2) hs_)) (fun k_ hk_ => hk_.1.1)); replace HO_11 := am (Kd.R_reok rfl hy0 (fun k_ e_ => HO_11.out.1 k_ e_)); replace HO693 := am (Kd.R_mono (ok' := fun k_ => some k_ ≠ (v669 : Value).ownBlock ∧ some k_ ≠ (.slice Ao48 t676.length co48 : Value).ownBlock ∧ some k_ ≠ (.slice Ao49 t679.length co49 : Value).ownBlock ∧ some k_ ≠ (v683 : Value).ownBlock ∧ some k_ ≠ (.slice Ao81 t695.length co81 : Value).ownBlock) (Kd.R_keptB (HO693.out) hkp (fun k_ hk_ hs_ => (hk_.2.1) hs_)) (fun k_ hk_ => ⟨hk_.1.1, hk_.1.2.1, hk_.1.2.2.1, hk_.1.2.2.2.1, hk_.1.2.2.2.2⟩)); replace HO697 := am (Kd.R_mono (ok' := fun k_ => some k_ ≠ (v669 : Value).ownBlock ∧ some k_ ≠ (.slice Ao48 t676.length co48 : Value).ownBlock ∧ some k_ ≠ (.slice Ao49 t679.length co49 : Value).ownBlock ∧ some k_ ≠ (v683 : Value).ownBlock ∧ some k_ ≠ (.slice Ao78 t691.length co78 : Value).ownBlock) (Kd.R_keptB (HO697.out) hkp (fun k_ hk_ hs_ => (hk_.2.1) hs_)) (fun k_ hk_ => ⟨hk_.1.1, hk_.1.2.1, hk_.1.2.2.1, hk_.1.2.2.2.1, hk_.1.2.2.2.2⟩)); replace HB := am (hb); (try clear hb); (try clear hkp); (try clear hy0)) | ((with_reducible refine gate_callee (f := 16) rfl ?_); refine gL (some 90) Try.func16 #[.slice Ao49 t679.length co49, .int .i64 t701] ?_; (with_reducible refine (laws_markLineS.calls kj26 (fun k_ => some k_ = (.slice Ao49 t679.length co49 : Value).ownBlock) (.slice Ao49 t679.length co49) t679 t701 t703 t704 w _ ?side1 ?side2 A71.out).mono ?_); (case side1 => exact Y8); (case side2 => exact Kd.R_tight rfl HO_12.out); rintro e w87 ⟨rfl, hy0, hb, hkp⟩; refine ⟨_, rfl, ?_⟩; replace HO_8 := am (Kd.R_mono (ok' := fun k_ => some k_ ≠ (.slice Ao48 t676.length co48 : Value).ownBlock ∧ some k_ ≠ (.slice Ao49 t679.length co49 : Value).ownBlock ∧ some k_ ≠ (v683 : Value).ownBlock ∧ some k_ ≠ (.slice Ao78 t691.length co78 : Value).ownBlock ∧ some k_ ≠ (.slice Ao81 t695.length co81 : Value).ownBlock) (Kd.R_keptB (HO_8.out) hkp (fun k_ hk_ hs_ => (hk_.2.1) hs_)) (fun k_ hk_ => ⟨hk_.1.1, hk_.1.2.1, hk_.1.2.2.1, hk_.1.2.2.2.1, hk_.1.2.2.2.2⟩)); replace HO_11 := am (Kd.R_mono (ok' := fun k_ => some k_ ≠ (v669 : Value).ownBlock ∧ some k_ ≠ (.slice Ao49 t679.length co49 : Value).ownBlock ∧ some k_ ≠ (v683 : Value).ownBlock ∧ some k_ ≠ (.slice Ao78 t691.length co78 : Value).ownBlock ∧ some k_ ≠ (.slice Ao81 t695.length co81 : Value).ownBlock) (Kd.R_keptB (HO_11.out) hkp (fun k_ hk_ hs_ => (hk_.2.1) hs_)) (fun k_ hk_ => ⟨hk_.1.1, hk_.1.2.1, hk_.1.2.2.1, hk_.1.2.2.2.1, hk_.1.2.2.2.2⟩)); replace HO_13 := am (Kd.R_mono (ok' := fun k_ => some k_ ≠ (v669 : Value).ownBlock ∧ some k_ ≠ (.slice Ao48 t676.length co48 : Value).ownBlock ∧ some k_ ≠ (.slice Ao49 t679.length co49 : Value).ownBlock ∧ some k_ ≠ (.slice Ao78 t691.length co78 : Value).ownBlock ∧ some k_ ≠ (.slice Ao81 t695.length co81 : Value).ownBlock) (Kd.R_keptB (HO_13.out) hkp (fun k_ hk_ hs_ => (hk_.2.2.1) hs_)) (fun k_ hk_ => ⟨hk_.1.1, hk_.1.2.1, hk_.1.2.2.1, hk_.1.2.2.2.1, hk_.1.2.2.2.2⟩)); replace HO_676000 := am (Kd.R_mono (ok' := fun k_ => some k_ ≠ (.slice Ao75 t687.length co75 : Value).ownBlock) (Kd.R_keptB ((Kd.R_apart' HO_676000.out (Kd.R_typed HO_12.out) (by decide))) hkp (fun k_ hk_ hs_ => (hk_.2) hs_)) (fun k_ hk_ => hk_.1.1)); replace BK655 := am (blk_kept (kq BK655.out) hkp (fun hs_ => (fun e_ => (Kd.R_ne HO_12.out BK655.out (by decide)) e_) hs_)); replace BK675 := am (blk_kept (kq BK675.out) hkp (fun hs_ => (fun e_ => (Kd.R_ne HO_12.out BK675.out (by decide)) e_) hs_)); replace HO689 := am (Kd.R_mono (ok' := fun k_ => some k_ ≠ (.slice Ao42 t672.length co42 : Value).ownBlock) (Kd.R_keptB ((Kd.R_apart' HO689.out (Kd.R_typed HO_12.out) (by decide))) hkp (fun k_ hk_ hs_ => (hk_.2) hs_)) (fun k_ hk_ => hk_.1.1)); replace HO_12 := am (Kd.R_reok rfl hy0 (fun k_ e_ => HO_12.out.1 k_ e_)); replace HO693 := am (Kd.R_mono (ok' := fun k_ => some k_ ≠ (v669 : Value).ownBlock ∧ some k_ ≠ (.slice Ao48 t676.length co48 : Value).ownBlock ∧ some k_ ≠ (.slice Ao49 t679.length co49 : Value).ownBlock ∧ some k_ ≠ (v683 : Value).ownBlock ∧ some k_ ≠ (.slice Ao81 t695.length co81 : Value).ownBlock) (Kd.R_keptB (HO693.out) hkp (fun k_ hk_ hs_ => (hk_.2.2.1) hs_)) (fun k_ hk_ => ⟨hk_.1.1, hk_.1.2.1, hk_.1.2.2.1, hk_.1.2.2.2.1, hk_.1.2.2.2.2⟩)); replace HO697 := am (Kd.R_mono (ok' := fun k_ => some k_ ≠ (v669 : Value).ownBlock ∧ some k_ ≠ (.slice Ao48 t676.length co48 : Value).ownBlock ∧ some k_ ≠ (.slice Ao49 t679.length co49 : Value).ownBlock ∧ some k_ ≠ (v683 : Value).ownBlock ∧ some k_ ≠ (.slice Ao78 t691.length co78 : Value).ownBlock) (Kd.R_keptB (HO697.out) hkp (fun k_ hk_ hs_ => (hk_.2.2.1) hs_)) (fun k_ hk_ => ⟨hk_.1.1, hk_.1.2.1, hk_.1.2.2.1, hk_.1.2.2.2.1, hk_.1.2.2.2.2⟩)); replace HB := am (hb); (try clear hb); (try clear hkp); (try clear hy0)))
          (try simp only [Act.put, List.setIfInBounds_toArray, List.set_cons_zero, List.set_cons_succ])
          go_cut [103] (fun v103 wc => ∃ (kq : Nat) (x103_71 : Bool), v103 = .bool x103_71 ∧ Aside0 (laws_FnExactWithFinally.j1 kq l1 l2 t668 t671 t682 x103_71 l0_0 = some r) ∧ Aside0 (kq ≤ kj26) ∧ Aside0 (Kd.R k50 50 wc w.heap.size (fun k_ => some k_ ≠ (v683 : Value).ownBlock) v669 t668) ∧ Aside0 (Kd.R k50 50 wc w.heap.size (fun k_ => some k_ ≠ (v669 : Value).ownBlock) v683 t682) ∧ Aside0 (Kd.R k63 63 wc w.heap.size (fun _ => True) (.slice Ao42 t672.length co42) t700) ∧ Aside0 (wc.heap[gb655]? = some (.cells #[(.slice A0_0 l0_0.length c0_0)] 24 (0, 0))) ∧ Aside0 (wc.heap[gb675]? = some (.cells #[(.slice Ao42 t672.length co42)] 33 (0, 0))) ∧ Aside0 (Below w.heap.size w wc))
          case first =>
           have H := HC72.out
           clear HC72
           by_cases c88 : t703 < 0
           ·rw [if_pos c88] at H
            have c88b0 : decide (t703 < 0) = true := decide_eq_true c88
            clear c88
            (first | rw [c88b0] | (simp only [i64_w, i32_w]; rw [c88b0]) | skip)
            have H' := am H
            clear H
            go_wp2
            go_meet
            case rel => exact ⟨_, (true), (sq), H', ⟨by have := HJ26.out; first | omega | exact Nat.le_refl _⟩, ⟨by (with_reducible repeat (first | apply Kd.R_alloc | apply Kd.R_drewN | apply Kd.R_drew)); exact Kd.R_mono HO_8.out (fun _ hk => hk.2.2.1)⟩, ⟨by (with_reducible repeat (first | apply Kd.R_alloc | apply Kd.R_drewN | apply Kd.R_drew)); exact Kd.R_mono HO_13.out (fun _ hk => hk.1)⟩, ⟨by (with_reducible repeat (first | apply Kd.R_alloc | apply Kd.R_drewN | apply Kd.R_drew)); exact Kd.R_mono HO_676000.out (fun _ hk => trivial)⟩, ⟨kq BK655.out⟩, ⟨kq BK675.out⟩, ⟨Y8⟩⟩
           ·rw [if_neg c88] at H
            have c88b0 : decide (t703 < 0) = false := decide_eq_false c88
            clear c88
            (first | rw [c88b0] | (simp only [i64_w, i32_w]; rw [c88b0]) | skip)
            replace H := Option.bind_eq_some_iff.mp H
            obtain ⟨t705, A890, H⟩ := H
            replace H : (if t705 = true then (laws_FnExactWithFinally.j1 kj26 l1 l2 t668 t671 t682 (t685 != t671) l0_0) else (laws_FnExactWithFinally.j1 kj26 l1 l2 t668 t671 t682 true l0_0)) = some r := H
            have A89 := am A890
            clear A890
            by_cases c90 : t705 = true
            ·subst c90
             have H1 : (laws_FnExactWithFinally.j1 kj26 l1 l2 t668 t671 t682 (t685 != t671) l0_0) = some r := by rw [if_pos rfl] at H; exact H
             clear H
             have H := H1
             clear H1
             have H' := am H
             clear H
             obtain ⟨Ao91, co91, eo91⟩ := Kd.R_slice HO_13.out
             subst eo91
             obtain ⟨Ao92, co92, eo92⟩ := Kd.R_slice HO_8.out
             subst eo92
             go_wp2_with (first | (go_at_call 13; (with_reducible refine (laws_eqLineS.calls kj26 _ _ t682 _ _ t668 true _ ?side1 ?side2 ?side3 ?side4 A89.out).mono ?_); (case side1 => exact cq (Kd.R_reads' HO_13.out).2.2); (case side2 => exact (Kd.R_reads' HO_13.out).2.1); (case side3 => exact cq (Kd.R_reads' HO_8.out).2.2); (case side4 => exact (Kd.R_reads' HO_8.out).2.1); rintro e w93 ⟨rfl, hb⟩; replace HO_8 := am (Kd.R_below (rq HO_8.out) hb); replace HO_11 := am (Kd.R_below (rq HO_11.out) hb); replace HO_12 := am (Kd.R_below (rq HO_12.out) hb); replace HO_13 := am (Kd.R_below (rq HO_13.out) hb); replace HO_676000 := am (Kd.R_below (rq HO_676000.out) hb); replace HO689 := am (Kd.R_below (rq HO689.out) hb); replace HO693 := am (Kd.R_below (rq HO693.out) hb); replace HO697 := am (Kd.R_below (rq HO697.out) hb); replace BK655 := am (blk_below (g := gb655) (o := .cells #[.slice A0_0 l0_0.length c0_0] 24 (0, 0)) (kq BK655.out) hb); replace BK675 := am (blk_below (g := gb675) (o := .cells #[.slice Ao42 t672.length co42] 33 (0, 0)) (kq BK675.out) hb); replace HB := am (below_step (Y8) hb); (try clear hb); (try clear hb2); (try clear hk); (try clear hi)))
             go_meet
             case rel => exact ⟨_, ((t685 != t671)), (sq), H', ⟨by have := HJ26.out; first | omega | exact Nat.le_refl _⟩, ⟨by (with_reducible repeat (first | apply Kd.R_alloc | apply Kd.R_drewN | apply Kd.R_drew)); exact Kd.R_mono HO_8.out (fun _ hk => hk.2.2.1)⟩, ⟨by (with_reducible repeat (first | apply Kd.R_alloc | apply Kd.R_drewN | apply Kd.R_drew)); exact Kd.R_mono HO_13.out (fun _ hk => hk.1)⟩, ⟨by (with_reducible repeat (first | apply Kd.R_alloc | apply Kd.R_drewN | apply Kd.R_drew)); exact Kd.R_mono HO_676000.out (fun _ hk => trivial)⟩, ⟨kq BK655.out⟩, ⟨kq BK675.out⟩, ⟨Y8⟩⟩
            ·replace c90 := Bool.eq_false_iff.mpr c90
             subst c90
             have H1 : (laws_FnExactWithFinally.j1 kj26 l1 l2 t668 t671 t682 true l0_0) = some r := by rw [if_neg (show ¬ (false = true) by decide)] at H; exact H
             clear H
             have H := H1
             clear H1
             have H' := am H
             clear H
             obtain ⟨Ao94, co94, eo94⟩ := Kd.R_slice HO_13.out
             subst eo94
             obtain ⟨Ao95, co95, eo95⟩ := Kd.R_slice HO_8.out
             subst eo95
             go_wp2_with (first | (go_at_call 13; (with_reducible refine (laws_eqLineS.calls kj26 _ _ t682 _ _ t668 false _ ?side1 ?side2 ?side3 ?side4 A89.out).mono ?_); (case side1 => exact cq (Kd.R_reads' HO_13.out).2.2); (case side2 => exact (Kd.R_reads' HO_13.out).2.1); (case side3 => exact cq (Kd.R_reads' HO_8.out).2.2); (case side4 => exact (Kd.R_reads' HO_8.out).2.1); rintro e w96 ⟨rfl, hb⟩; replace HO_8 := am (Kd.R_below (rq HO_8.out) hb); replace HO_11 := am (Kd.R_below (rq HO_11.out) hb); replace HO_12 := am (Kd.R_below (rq HO_12.out) hb); replace HO_13 := am (Kd.R_below (rq HO_13.out) hb); replace HO_676000 := am (Kd.R_below (rq HO_676000.out) hb); replace HO689 := am (Kd.R_below (rq HO689.out) hb); replace HO693 := am (Kd.R_below (rq HO693.out) hb); replace HO697 := am (Kd.R_below (rq HO697.out) hb); replace BK655 := am (blk_below (g := gb655) (o := .cells #[.slice A0_0 l0_0.length c0_0] 24 (0, 0)) (kq BK655.out) hb); replace BK675 := am (blk_below (g := gb675) (o := .cells #[.slice Ao42 t672.length co42] 33 (0, 0)) (kq BK675.out) hb); replace HB := am (below_step (Y8) hb); (try clear hb); (try clear hb2); (try clear hk); (try clear hi)))
             go_meet
             case rel => exact ⟨_, (true), (sq), H', ⟨by have := HJ26.out; first | omega | exact Nat.le_refl _⟩, ⟨by (with_reducible repeat (first | apply Kd.R_alloc | apply Kd.R_drewN | apply Kd.R_drew)); exact Kd.R_mono HO_8.out (fun _ hk => hk.2.2.1)⟩, ⟨by (with_reducible repeat (first | apply Kd.R_alloc | apply Kd.R_drewN | apply Kd.R_drew)); exact Kd.R_mono HO_13.out (fun _ hk => hk.1)⟩, ⟨by (with_reducible repeat (first | apply Kd.R_alloc | apply Kd.R_drewN | apply Kd.R_drew)); exact Kd.R_mono HO_676000.out (fun _ hk => trivial)⟩, ⟨kq BK655.out⟩, ⟨kq BK675.out⟩, ⟨Y8⟩⟩
          case rest =>
           clear HC72
           try clear c1
           try clear c2
           try clear p2
           try clear c4
           try clear c5
           try clear c5b0
           try clear c6
           try clear c7
           try clear c8
           try clear c9
           try clear c10
           try clear c10b0
           try clear c11
           try clear c13
           try clear c14
           try clear c15
           try clear c15b0
           try clear c16
           try clear c22
           try clear c23
           try clear c43
           try clear c52
           try clear c59
           try clear c62
           try clear c65
           try clear c68
           try clear c83
           try clear c88
           try clear c88b0
           try clear c90
           try clear hcz12_0
           try clear hcz17_0
           try clear hcz29_0
           try clear hcz31_0
           try clear hcz39_0
           try clear hcz44_0
           try clear hcz47_0
           try clear hcz7_0
           try clear hcz84_0
           try clear hfz12_0
           try clear hfz17_0
           try clear hfz29_0
           try clear hfz31_0
           try clear hfz39_0
           try clear hfz44_0
           try clear hfz47_0
           try clear hfz7_0
           try clear hfz84_0
           try clear p2
           obtain ⟨kq, x103_71, rfl, HA, HJ71, HO_8, HO_13, HO_676000, BK655, BK675, HB⟩ := hcut
           have hl676000_71 := (Kd.R_reads' HO_676000.out).1
           rw [hl676000_71] at HO_676000
           (try simp only [hl676000_71])
           (try simp only [hl676000_71] at BK655)
           (try simp only [hl676000_71] at BK675)
           (try simp only [hl676000_71] at HO_8)
           (try simp only [hl676000_71] at HO_13)
           cases kq with
           | zero => exact absurd HA.out (by simp [laws_FnExactWithFinally.j1])
           | succ kj71 =>
            have H := HA.out
            clear HA
            simp only [laws_FnExactWithFinally.j1] at H
            by_cases c97 : x103_71 = true
            ·subst c97
             have H1 : (some false) = some r := by rw [if_pos rfl] at H; exact H
             clear H
             have H := H1
             clear H1
             exact absurd ((Option.some.inj H).trans hT) Bool.false_ne_true
            ·replace c97 := Bool.eq_false_iff.mpr c97
             subst c97
             have H1 : ((laws_markLineS.f kj71 t682 1).bind fun bt706 => ((laws_heldLineS.f kj71 bt706.2 1).bind fun t708 => (if t708 < 0 then (some false) else (if t708 = bt706.1 then ((laws_toTree.f kj71 l0_0).bind fun t709 => ((laws_toLineS.f kj71 l1).bind fun t712 => ((laws_toLineS.f kj71 l2).bind fun t715 => ((impl_WithFinally.f kj71 t709 t712 t715).bind fun bt718 => ((laws_eqLineS.f kj71 bt718.1 t668).bind fun t722 => (if t722 = true then (laws_FnExactWithFinally.j2 kj71 bt706.2 bt706.1 (bt718.2 != t671)) else (laws_FnExactWithFinally.j2 kj71 bt706.2 bt706.1 true))))))) else (some false))))) = some r := by rw [if_neg (show ¬ (false = true) by decide)] at H; exact H
             clear H
             have H := H1
             clear H1
             replace H := Option.bind_eq_some_iff.mp H
             obtain ⟨⟨t706, t707⟩, A980, H⟩ := H
             replace H : ((laws_heldLineS.f kj71 t707 1).bind fun t708 => (if t708 < 0 then (some false) else (if t708 = t706 then ((laws_toTree.f kj71 l0_0).bind fun t709 => ((laws_toLineS.f kj71 l1).bind fun t712 => ((laws_toLineS.f kj71 l2).bind fun t715 => ((impl_WithFinally.f kj71 t709 t712 t715).bind fun bt718 => ((laws_eqLineS.f kj71 bt718.1 t668).bind fun t722 => (if t722 = true then (laws_FnExactWithFinally.j2 kj71 t707 t706 (bt718.2 != t671)) else (laws_FnExactWithFinally.j2 kj71 t707 t706 true))))))) else (some false)))) = some r := H
             have A98 := am A980
             clear A980
             replace H := Option.bind_eq_some_iff.mp H
             obtain ⟨t708, A990, H⟩ := H
             replace H : (if t708 < 0 then (some false) else (if t708 = t706 then ((laws_toTree.f kj71 l0_0).bind fun t709 => ((laws_toLineS.f kj71 l1).bind fun t712 => ((laws_toLineS.f kj71 l2).bind fun t715 => ((impl_WithFinally.f kj71 t709 t712 t715).bind fun bt718 => ((laws_eqLineS.f kj71 bt718.1 t668).bind fun t722 => (if t722 = true then (laws_FnExactWithFinally.j2 kj71 t707 t706 (bt718.2 != t671)) else (laws_FnExactWithFinally.j2 kj71 t707 t706 true))))))) else (some false))) = some r := H
             have A99 := am A990
             clear A990
             by_cases c100 : t708 < 0
             ·rw [if_pos c100] at H
              have c100b0 : decide (t708 < 0) = true := decide_eq_true c100
              clear c100
              exact absurd ((Option.some.inj H).trans hT) Bool.false_ne_true
             ·rw [if_neg c100] at H
              have c100b0 : decide (t708 < 0) = false := decide_eq_false c100
              clear c100
              by_cases c101 : t708 = t706
              ·rw [if_pos c101] at H
               have c101b0 : (t708 == t706) = true := beq_iff_eq.mpr c101
               have c101b1 : (t708 != t706) = false := bne_eq_false_iff_eq.mpr c101
               clear c101
               replace H := Option.bind_eq_some_iff.mp H
               obtain ⟨t709, A1020, H⟩ := H
               replace H : ((laws_toLineS.f kj71 l1).bind fun t712 => ((laws_toLineS.f kj71 l2).bind fun t715 => ((impl_WithFinally.f kj71 t709 t712 t715).bind fun bt718 => ((laws_eqLineS.f kj71 bt718.1 t668).bind fun t722 => (if t722 = true then (laws_FnExactWithFinally.j2 kj71 t707 t706 (bt718.2 != t671)) else (laws_FnExactWithFinally.j2 kj71 t707 t706 true)))))) = some r := H
               have A102 := am A1020
               clear A1020
               replace H := Option.bind_eq_some_iff.mp H
               obtain ⟨t712, A1030, H⟩ := H
               replace H : ((laws_toLineS.f kj71 l2).bind fun t715 => ((impl_WithFinally.f kj71 t709 t712 t715).bind fun bt718 => ((laws_eqLineS.f kj71 bt718.1 t668).bind fun t722 => (if t722 = true then (laws_FnExactWithFinally.j2 kj71 t707 t706 (bt718.2 != t671)) else (laws_FnExactWithFinally.j2 kj71 t707 t706 true))))) = some r := H
               have A103 := am A1030
               clear A1030
               replace H := Option.bind_eq_some_iff.mp H
               obtain ⟨t715, A1040, H⟩ := H
               replace H : ((impl_WithFinally.f kj71 t709 t712 t715).bind fun bt718 => ((laws_eqLineS.f kj71 bt718.1 t668).bind fun t722 => (if t722 = true then (laws_FnExactWithFinally.j2 kj71 t707 t706 (bt718.2 != t671)) else (laws_FnExactWithFinally.j2 kj71 t707 t706 true)))) = some r := H
               have A104 := am A1040
               clear A1040
               replace H := Option.bind_eq_some_iff.mp H
               obtain ⟨⟨t718, t721⟩, A1050, H⟩ := H
               replace H : ((laws_eqLineS.f kj71 t718 t668).bind fun t722 => (if t722 = true then (laws_FnExactWithFinally.j2 kj71 t707 t706 (t721 != t671)) else (laws_FnExactWithFinally.j2 kj71 t707 t706 true))) = some r := H
               have A105 := am A1050
               clear A1050
               have HC106 := am H
               clear H
               obtain ⟨Ao107, co107, eo107⟩ := Kd.R_slice HO_13.out
               subst eo107
               go_upto_region 39 with (first | ((with_reducible refine gate_callee (f := 16) rfl ?_); refine gL (some 106) Try.func16 #[.slice Ao107 t682.length co107, .int .i64 1] ?_; (with_reducible refine (laws_markLineS.calls kj71 (fun k_ => some k_ = (.slice Ao107 t682.length co107 : Value).ownBlock) (.slice Ao107 t682.length co107) t682 1 t706 t707 w _ ?side1 ?side2 A98.out).mono ?_); (case side1 => exact Y8); (case side2 => exact Kd.R_tight rfl HO_13.out); rintro e w108 ⟨rfl, hy0, hb, hkp⟩; refine ⟨_, rfl, ?_⟩; replace HO_8 := am (Kd.R_mono (ok' := fun k_ => some k_ ≠ (.slice Ao107 t682.length co107 : Value).ownBlock) (Kd.R_keptB (HO_8.out) hkp (fun k_ hk_ hs_ => (hk_) hs_)) (fun k_ hk_ => hk_.1)); replace HO_676000 := am (Kd.R_mono (ok' := fun k_ => True) (Kd.R_keptB ((Kd.R_apart' HO_676000.out (Kd.R_typed HO_13.out) (by decide))) hkp (fun k_ hk_ hs_ => (hk_.2) hs_)) (fun k_ hk_ => trivial)); replace BK655 := am (blk_kept (kq BK655.out) hkp (fun hs_ => (fun e_ => (Kd.R_ne HO_13.out BK655.out (by decide)) e_) hs_)); replace BK675 := am (blk_kept (kq BK675.out) hkp (fun hs_ => (fun e_ => (Kd.R_ne HO_13.out BK675.out (by decide)) e_) hs_)); replace HO_13 := am (Kd.R_reok rfl hy0 (fun k_ e_ => HO_13.out.1 k_ e_)); replace HB := am (hb); (try clear hb); (try clear hkp); (try clear hy0)) | ((with_reducible refine gate_callee (f := 17) rfl ?_); refine goesL_ (some 109) rfl rfl Try.func17 (by kernel_rfl) rfl #[.slice Ao107 t707.length co107, .int .i64 1] rfl (by (try simp only [List.map_toArray, List.map_cons, List.map_nil]); first | done | (rw [show t707.length = t682.length from (Kd.R_reads' HO_13.out).1.symm] <;> rfl) | rfl | (simp only [List.length_drop, List.length_take]; rfl)) ?_; (with_reducible refine (laws_heldLineS.calls kj71 _ _ t707 1 t708 _ ?side1 ?side2 A99.out).mono ?_); (case side1 => exact cq (Kd.R_reads' HO_13.out).2.2); (case side2 => rw [show t707.length = t682.length from (Kd.R_reads' HO_13.out).1.symm]; exact (Kd.R_reads' HO_13.out).2.1); rintro e w' ⟨rfl, ⟨nd, rfl⟩⟩; refine ⟨_, rfl, ?_⟩; have hnb109 := NB655_675.out; have hnc109 := NB675_655.out; have hcz110_0 := bc0 BK655.out; have hfz110_0 := blk_frozen BK655.out 0) | ((with_reducible refine gate_callee (f := 10) rfl ?_); refine gL (some 117) Try.func10 #[.agg #[.slice A0_0 l0_0.length c0_0]] ?_; (with_reducible refine (laws_toTree.calls kj71 _ _ l0_0 t709 _ ?side1 ?side2 A102.out).mono ?_); (case side1 => repeat (first | exact (Kd.C_below HR0_0.out (by repeat (first | (with_reducible first | exact HB.out | apply below_alloc | apply pw_below_drewN | apply below_drew1 | refine below_set ?_ GE655.out | refine below_set ?_ GE675.out) | exact HB.out))) | (with_reducible refine Kd.C_alloc ?_ _) | (with_reducible refine Kd.C_drewN ?_ _) | (with_reducible refine Kd.C_drew ?_))); (case side2 => exact HC0_0.out); rintro e w111 ⟨v710, rfl, ho0, hb⟩; refine ⟨_, rfl, ?_⟩; have HO711 := am (Kd.R_lower (Kd.R_new' ho0 (Kd.R_lt (rq HO_676000.out))) (below_size (Y8))); replace HO_8 := am (Kd.R_below (rq HO_8.out) hb); replace HO_13 := am (Kd.R_below (rq HO_13.out) hb); replace HO_676000 := am (Kd.R_elder' (rq HO_676000.out) (Kd.R_base ho0) hb); replace BK655 := am (blk_below (g := gb655) (o := .cells #[.slice A0_0 l0_0.length c0_0] 24 (0, 0)) (kq BK655.out) hb); replace BK675 := am (blk_below (g := gb675) (o := .cells #[.slice Ao42 t700.length co42] 33 (0, 0)) (kq BK675.out) hb); replace HB := am (below_step (Y8) hb); (try clear hb); (try clear hb2); (try clear hk); (try clear hi); (try clear ho0)) | ((with_reducible refine gate_callee (f := 11) rfl ?_); refine gL (some 119) Try.func11 #[.slice A1 l1.length c1] ?_; (with_reducible refine (laws_toLineS.calls kj71 _ _ l1 t712 _ ?side1 ?side2 A103.out).mono ?_); (case side1 => exact cq (Kd.C_below HR1.out HB.out)); (case side2 => exact HC1.out); rintro e w112 ⟨v713, rfl, ho0, hb⟩; refine ⟨_, rfl, ?_⟩; have HO714 := am (Kd.R_lower (Kd.R_new' (Kd.R_new' ho0 (Kd.R_lt (rq HO_8.out))) (Kd.R_lt (rq HO_13.out))) (below_size (Y8))); replace HO_8 := am (Kd.R_elder' (rq HO_8.out) (Kd.R_base ho0) hb); replace HO_13 := am (Kd.R_elder' (rq HO_13.out) (Kd.R_base ho0) hb); replace HO_676000 := am (Kd.R_below (rq HO_676000.out) hb); replace HO711 := am (Kd.R_below (rq HO711.out) hb); replace BK655 := am (blk_below (g := gb655) (o := .cells #[.slice A0_0 l0_0.length c0_0] 24 (0, 0)) (kq BK655.out) hb); replace BK675 := am (blk_below (g := gb675) (o := .cells #[.slice Ao42 t700.length co42] 33 (0, 0)) (kq BK675.out) hb); replace HB := am (below_step (Y8) hb); (try clear hb); (try clear hb2); (try clear hk); (try clear hi); (try clear ho0)) | ((with_reducible refine gate_callee (f := 11) rfl ?_); refine gL (some 121) Try.func11 #[.slice A2 l2.length c2] ?_; (with_reducible refine (laws_toLineS.calls kj71 _ _ l2 t715 _ ?side1 ?side2 A104.out).mono ?_); (case side1 => exact cq (Kd.C_below HR2.out HB.out)); (case side2 => exact HC2.out); rintro e w113 ⟨v716, rfl, ho0, hb⟩; refine ⟨_, rfl, ?_⟩; have HO717 := am (Kd.R_lower (Kd.R_new' (Kd.R_new' (Kd.R_new' ho0 (Kd.R_lt (rq HO_8.out))) (Kd.R_lt (rq HO_13.out))) (Kd.R_lt (rq HO714.out))) (below_size (Y8))); replace HO_8 := am (Kd.R_elder' (rq HO_8.out) (Kd.R_base ho0) hb); replace HO_13 := am (Kd.R_elder' (rq HO_13.out) (Kd.R_base ho0) hb); replace HO_676000 := am (Kd.R_below (rq HO_676000.out) hb); replace HO711 := am (Kd.R_below (rq HO711.out) hb); replace HO714 := am (Kd.R_elder' (rq HO714.out) (Kd.R_base ho0) hb); replace BK655 := am (blk_below (g := gb655) (o := .cells #[.slice A0_0 l0_0.length c0_0] 24 (0, 0)) (kq BK655.out) hb); replace BK675 := am (blk_below (g := gb675) (o := .cells #[.slice Ao42 t700.length co42] 33 (0, 0)) (kq BK675.out) hb); replace HB := am (below_step (Y8) hb); (try clear hb); (try clear hb2); (try clear hk); (try clear hi); (try clear ho0); obtain ⟨Ao114, co114, eo114⟩ := Kd.R_slice HO711.out; subst eo114; obtain ⟨Ao115, co115, eo115⟩ := Kd.R_slice HO714.out; subst eo115; obtain ⟨Ao116, co116, eo116⟩ := Kd.R_slice HO717.out; subst eo116) | ((with_reducible refine gate_callee (f := 23) rfl ?_); refine gL (some 122) Try.func23 #[.agg #[.slice Ao114 t709.length co114], .slice Ao115 t712.length co115, .slice Ao116 t715.length co116] ?_; (with_reducible refine (impl_WithFinally.calls kj71 _ _ t709 _ _ t712 _ _ t715 t718 t721 _ ?side1 ?side2 ?side3 ?side4 ?side5 ?side6 A105.out).mono ?_); (case side1 => exact cq (Kd.R_reads' HO711.out).2.2); (case side2 => exact (Kd.R_reads' HO711.out).2.1); (case side3 => exact cq (Kd.R_reads' HO714.out).2.2); (case side4 => exact (Kd.R_reads' HO714.out).2.1); (case side5 => exact cq (Kd.R_reads' HO717.out).2.2); (case side6 => exact (Kd.R_reads' HO717.out).2.1); rintro e w117 ⟨v719, rfl, ho0, hb⟩; refine ⟨_, rfl, ?_⟩; have HO720 := am (Kd.R_lower (Kd.R_new' (Kd.R_new' (Kd.R_new' (Kd.R_new' ho0 (Kd.R_lt (rq HO_8.out))) (Kd.R_lt (rq HO_13.out))) (Kd.R_lt (rq HO714.out))) (Kd.R_lt (rq HO717.out))) (below_size (Y8))); replace HO_8 := am (Kd.R_elder' (rq HO_8.out) (Kd.R_base ho0) hb); replace HO_13 := am (Kd.R_elder' (rq HO_13.out) (Kd.R_base ho0) hb); replace HO_676000 := am (Kd.R_below (rq HO_676000.out) hb); replace HO711 := am (Kd.R_below (rq HO711.out) hb); replace HO714 := am (Kd.R_elder' (rq HO714.out) (Kd.R_base ho0) hb); replace HO717 := am (Kd.R_elder' (rq HO717.out) (Kd.R_base ho0) hb); replace BK655 := am (blk_below (g := gb655) (o := .cells #[.slice A0_0 l0_0.length c0_0] 24 (0, 0)) (kq BK655.out) hb); replace BK675 := am (blk_below (g := gb675) (o := .cells #[.slice Ao42 t700.length co42] 33 (0, 0)) (kq BK675.out) hb); replace HB := am (below_step (Y8) hb); (try clear hb); (try clear hb2); (try clear hk); (try clear hi); (try clear ho0)))
               (try simp only [Act.put, List.setIfInBounds_toArray, List.set_cons_zero, List.set_cons_succ])
               go_cut [133] (fun v133 wc => ∃ (kq : Nat) (x133_105 : Bool), v133 = .bool x133_105 ∧ Aside0 (laws_FnExactWithFinally.j2 kq t707 t706 x133_105 = some r) ∧ Aside0 (kq ≤ kj71) ∧ Aside0 (Kd.R k50 50 wc w.heap.size (fun _ => True) (.slice Ao107 t682.length co107) t707) ∧ Aside0 (Kd.R k63 63 wc w.heap.size (fun _ => True) (.slice Ao42 t700.length co42) t700) ∧ Aside0 (wc.heap[gb655]? = some (.cells #[(.slice A0_0 l0_0.length c0_0)] 24 (0, 0))) ∧ Aside0 (wc.heap[gb675]? = some (.cells #[(.slice Ao42 t700.length co42)] 33 (0, 0))) ∧ Aside0 (Below w.heap.size w wc))
               case first =>
                have H := HC106.out
                clear HC106
                replace H := Option.bind_eq_some_iff.mp H
                obtain ⟨t722, A1180, H⟩ := H
                replace H : (if t722 = true then (laws_FnExactWithFinally.j2 kj71 t707 t706 (t721 != t671)) else (laws_FnExactWithFinally.j2 kj71 t707 t706 true)) = some r := H
                have A118 := am A1180
                clear A1180
                by_cases c119 : t722 = true
                ·subst c119
                 have H1 : (laws_FnExactWithFinally.j2 kj71 t707 t706 (t721 != t671)) = some r := by rw [if_pos rfl] at H; exact H
                 clear H
                 have H := H1
                 clear H1
                 have H' := am H
                 clear H
                 obtain ⟨Ao120, co120, eo120⟩ := Kd.R_slice HO720.out
                 subst eo120
                 obtain ⟨Ao121, co121, eo121⟩ := Kd.R_slice HO_8.out
                 subst eo121
                 go_wp2_with (first | ((with_reducible refine gate_callee (f := 13) rfl ?_); refine gL (some 127) Try.func13 #[.slice Ao120 t718.length co120, .slice Ao121 t668.length co121] ?_; (with_reducible refine (laws_eqLineS.calls kj71 _ _ t718 _ _ t668 true _ ?side1 ?side2 ?side3 ?side4 A118.out).mono ?_); (case side1 => exact cq (Kd.R_reads' HO720.out).2.2); (case side2 => exact (Kd.R_reads' HO720.out).2.1); (case side3 => exact cq (Kd.R_reads' HO_8.out).2.2); (case side4 => exact (Kd.R_reads' HO_8.out).2.1); rintro e w122 ⟨rfl, hb⟩; refine ⟨_, rfl, ?_⟩; replace HO_8 := am (Kd.R_below (rq HO_8.out) hb); replace HO_13 := am (Kd.R_below (rq HO_13.out) hb); replace HO_676000 := am (Kd.R_below (rq HO_676000.out) hb); replace HO711 := am (Kd.R_below (rq HO711.out) hb); replace HO714 := am (Kd.R_below (rq HO714.out) hb); replace HO717 := am (Kd.R_below (rq HO717.out) hb); replace HO720 := am (Kd.R_below (rq HO720.out) hb); replace BK655 := am (blk_below (g := gb655) (o := .cells #[.slice A0_0 l0_0.length c0_0] 24 (0, 0)) (kq BK655.out) hb); replace BK675 := am (blk_below (g := gb675) (o := .cells #[.slice Ao42 t700.length co42] 33 (0, 0)) (kq BK675.out) hb); replace HB := am (below_step (Y8) hb); (try clear hb); (try clear hb2); (try clear hk); (try clear hi)))
                 go_meet
                 case rel => exact ⟨_, ((t721 != t671)), (sq), H', ⟨by have := HJ26.out; have := HJ71.out; first | omega | exact Nat.le_refl _⟩, ⟨by (try simp only [hl676000_71]); (with_reducible repeat (first | apply Kd.R_alloc | apply Kd.R_drewN | apply Kd.R_drew)); exact Kd.R_mono HO_13.out (fun _ hk => trivial)⟩, ⟨by (try simp only [hl676000_71]); (with_reducible repeat (first | apply Kd.R_alloc | apply Kd.R_drewN | apply Kd.R_drew)); exact Kd.R_mono HO_676000.out (fun _ hk => trivial)⟩, ⟨by (try simp only [hl676000_71]); (with_reducible repeat (first | refine blk_drewN ?_ _ | refine blk_drew ?_ | refine blk_alloc ?_ _)); exact BK655.out⟩, ⟨by (try simp only [hl676000_71]); (with_reducible repeat (first | refine blk_drewN ?_ _ | refine blk_drew ?_ | refine blk_alloc ?_ _)); exact BK675.out⟩, ⟨Y8⟩⟩
                ·replace c119 := Bool.eq_false_iff.mpr c119
                 subst c119
                 have H1 : (laws_FnExactWithFinally.j2 kj71 t707 t706 true) = some r := by rw [if_neg (show ¬ (false = true) by decide)] at H; exact H
                 clear H
                 have H := H1
                 clear H1
                 have H' := am H
                 clear H
                 obtain ⟨Ao123, co123, eo123⟩ := Kd.R_slice HO720.out
                 subst eo123
                 obtain ⟨Ao124, co124, eo124⟩ := Kd.R_slice HO_8.out
                 subst eo124
                 go_wp2_with (first | ((with_reducible refine gate_callee (f := 13) rfl ?_); refine gL (some 127) Try.func13 #[.slice Ao123 t718.length co123, .slice Ao124 t668.length co124] ?_; (with_reducible refine (laws_eqLineS.calls kj71 _ _ t718 _ _ t668 false _ ?side1 ?side2 ?side3 ?side4 A118.out).mono ?_); (case side1 => exact cq (Kd.R_reads' HO720.out).2.2); (case side2 => exact (Kd.R_reads' HO720.out).2.1); (case side3 => exact cq (Kd.R_reads' HO_8.out).2.2); (case side4 => exact (Kd.R_reads' HO_8.out).2.1); rintro e w125 ⟨rfl, hb⟩; refine ⟨_, rfl, ?_⟩; replace HO_8 := am (Kd.R_below (rq HO_8.out) hb); replace HO_13 := am (Kd.R_below (rq HO_13.out) hb); replace HO_676000 := am (Kd.R_below (rq HO_676000.out) hb); replace HO711 := am (Kd.R_below (rq HO711.out) hb); replace HO714 := am (Kd.R_below (rq HO714.out) hb); replace HO717 := am (Kd.R_below (rq HO717.out) hb); replace HO720 := am (Kd.R_below (rq HO720.out) hb); replace BK655 := am (blk_below (g := gb655) (o := .cells #[.slice A0_0 l0_0.length c0_0] 24 (0, 0)) (kq BK655.out) hb); replace BK675 := am (blk_below (g := gb675) (o := .cells #[.slice Ao42 t700.length co42] 33 (0, 0)) (kq BK675.out) hb); replace HB := am (below_step (Y8) hb); (try clear hb); (try clear hb2); (try clear hk); (try clear hi)))
                 go_meet
                 case rel => exact ⟨_, (true), (sq), H', ⟨by have := HJ26.out; have := HJ71.out; first | omega | exact Nat.le_refl _⟩, ⟨by (try simp only [hl676000_71]); (with_reducible repeat (first | apply Kd.R_alloc | apply Kd.R_drewN | apply Kd.R_drew)); exact Kd.R_mono HO_13.out (fun _ hk => trivial)⟩, ⟨by (try simp only [hl676000_71]); (with_reducible repeat (first | apply Kd.R_alloc | apply Kd.R_drewN | apply Kd.R_drew)); exact Kd.R_mono HO_676000.out (fun _ hk => trivial)⟩, ⟨by (try simp only [hl676000_71]); (with_reducible repeat (first | refine blk_drewN ?_ _ | refine blk_drew ?_ | refine blk_alloc ?_ _)); exact BK655.out⟩, ⟨by (try simp only [hl676000_71]); (with_reducible repeat (first | refine blk_drewN ?_ _ | refine blk_drew ?_ | refine blk_alloc ?_ _)); exact BK675.out⟩, ⟨Y8⟩⟩
               case rest =>
                clear HC106
                try clear c1
                try clear c2
                try clear p2
                try clear c4
                try clear c5
                try clear c5b0
                try clear c6
                try clear c7
                try clear c8
                try clear c9
                try clear c10
                try clear c10b0
                try clear c11
                try clear c13
                try clear c14
                try clear c15
                try clear c15b0
                try clear c16
                try clear c17
                try clear c22
                try clear c23
                try clear c43
                try clear c52
                try clear c59
                try clear c62
                try clear c65
                try clear c68
                try clear c83
                try clear c88
                try clear c88b0
                try clear c90
                try clear c97
                try clear c100
                try clear c100b0
                try clear c101
                try clear c101b0
                try clear c101b1
                try clear c109
                try clear c119
                try clear hcz110_0
                try clear hcz12_0
                try clear hcz17_0
                try clear hcz29_0
                try clear hcz31_0
                try clear hcz39_0
                try clear hcz44_0
                try clear hcz47_0
                try clear hcz7_0
                try clear hcz84_0
                try clear hfz110_0
                try clear hfz12_0
                try clear hfz17_0
                try clear hfz29_0
                try clear hfz31_0
                try clear hfz39_0
                try clear hfz44_0
                try clear hfz47_0
                try clear hfz7_0
                try clear hfz84_0
                try clear p2
                obtain ⟨kq, x133_105, rfl, HA, HJ105, HO_13, HO_676000, BK655, BK675, HB⟩ := hcut
                have hl13_105 := (Kd.R_reads' HO_13.out).1
                rw [hl13_105] at HO_13
                (try simp only [hl13_105])
                (try simp only [hl13_105] at BK655)
                (try simp only [hl13_105] at BK675)
                (try simp only [hl13_105] at HO_676000)
                cases kq with
                | zero => exact absurd HA.out (by simp [laws_FnExactWithFinally.j2])
                | succ kj105 =>
                 have H := HA.out
                 clear HA
                 simp only [laws_FnExactWithFinally.j2] at H
                 by_cases c126 : x133_105 = true
                 ·subst c126
                  have H1 : (some false) = some r := by rw [if_pos rfl] at H; exact H
                  clear H
                  have H := H1
                  clear H1
                  exact absurd ((Option.some.inj H).trans hT) Bool.false_ne_true
                 ·replace c126 := Bool.eq_false_iff.mpr c126
                  subst c126
                  have H1 : ((laws_heldLineS.f kj105 t707 1).bind fun t723 => (if t723 < 0 then (some false) else (if t723 = t706 then (some true) else (some false)))) = some r := by rw [if_neg (show ¬ (false = true) by decide)] at H; exact H
                  clear H
                  have H := H1
                  clear H1
                  replace H := Option.bind_eq_some_iff.mp H
                  obtain ⟨t723, A1270, H⟩ := H
                  replace H : (if t723 < 0 then (some false) else (if t723 = t706 then (some true) else (some false))) = some r := H
                  have A127 := am A1270
                  clear A1270
                  by_cases c128 : t723 < 0
                  ·rw [if_pos c128] at H
                   have c128b0 : decide (t723 < 0) = true := decide_eq_true c128
                   clear c128
                   exact absurd ((Option.some.inj H).trans hT) Bool.false_ne_true
                  ·rw [if_neg c128] at H
                   have c128b0 : decide (t723 < 0) = false := decide_eq_false c128
                   clear c128
                   by_cases c129 : t723 = t706
                   ·rw [if_pos c129] at H
                    have c129b0 : (t723 == t706) = true := beq_iff_eq.mpr c129
                    have c129b1 : (t723 != t706) = false := bne_eq_false_iff_eq.mpr c129
                    clear c129
                    obtain rfl := Option.some.inj H
                    go_wp2_with (first | ((with_reducible refine gate_callee (f := 17) rfl ?_); refine gL (some 136) Try.func17 #[.slice Ao107 t707.length co107, .int .i64 1] ?_; (with_reducible refine (laws_heldLineS.calls kj105 _ _ t707 1 t723 _ ?side1 ?side2 A127.out).mono ?_); (case side1 => exact cq (Kd.R_reads' HO_13.out).2.2); (case side2 => exact (Kd.R_reads' HO_13.out).2.1); rintro e w' ⟨rfl, ⟨nd, rfl⟩⟩; refine ⟨_, rfl, ?_⟩))
                    go_ret
                    exact ⟨Y1, Y8⟩
                   ·rw [if_neg c129] at H
                    have c129b0 : (t723 == t706) = false := beq_eq_false_iff_ne.mpr c129
                    have c129b1 : (t723 != t706) = true := bne_iff_ne.mpr c129
                    exact absurd ((Option.some.inj H).trans hT) Bool.false_ne_true
              ·rw [if_neg c101] at H
               have c101b0 : (t708 == t706) = false := beq_eq_false_iff_ne.mpr c101
               have c101b1 : (t708 != t706) = true := bne_iff_ne.mpr c101
               exact absurd ((Option.some.inj H).trans hT) Bool.false_ne_true
         ·replace c68 := Bool.eq_false_iff.mpr c68
          subst c68
          have H1 : (some false) = some r := by rw [if_neg (show ¬ (false = true) by decide)] at H; exact H
          clear H
          have H := H1
          clear H1
          exact absurd ((Option.some.inj H).trans hT) Bool.false_ne_true
        ·replace c65 := Bool.eq_false_iff.mpr c65
         subst c65
         have H1 : (some false) = some r := by rw [if_neg (show ¬ (false = true) by decide)] at H; exact H
         clear H
         have H := H1
         clear H1
         exact absurd ((Option.some.inj H).trans hT) Bool.false_ne_true
       ·replace c62 := Bool.eq_false_iff.mpr c62
        subst c62
        have H1 : (some false) = some r := by rw [if_neg (show ¬ (false = true) by decide)] at H; exact H
        clear H
        have H := H1
        clear H1
        exact absurd ((Option.some.inj H).trans hT) Bool.false_ne_true
end Go.Proofs.Ytgbigghiegiejaa.P
end
