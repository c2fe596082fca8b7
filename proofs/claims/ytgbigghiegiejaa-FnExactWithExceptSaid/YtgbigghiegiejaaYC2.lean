/- One part of the proofs on this program: functions of the program as plain functions, that the code comes to them, and facts on them. -/
import Derived.Test.YtgbigghiegiejaaYAll1
import Derived.Test.YtgbigghiegiejaaYAll2
import Derived.Test.YtgbigghiegiejaaYAll4
import Derived.Test.YtgbigghiegiejaaYAll5
import Derived.Test.YtgbigghiegiejaaYC1
import Derived.Test.YtgbigghiegiejaaYWAuto
section
namespace Go.Proofs.Ytgbigghiegiejaa.P
open Go.RowKit Go.Proofs.YtgbigghiegiejaaW.PrintWords Go.Proofs.YtgbigghiegiejaaW.PrintLast Go.Proofs.YtgbigghiegiejaaW.PrintMore
attribute [local go_sem] max2_int min2_int max_two min_two max_three min_three max_four min_four isSome_cell_setCell
set_option linter.unusedVariables false
set_option linter.unusedSimpArgs false
mutual
def laws_FnExactWithExcept.j0 : Nat → List (S52) → Int → List (S52) → List (S50) → Bool → List (S50) → List (S50) → List (S50) → Bool → Bool → List (S62) → List (S63) → Option (Bool)
 | 0, _, _, _, _, _, _, _, _, _, _, _, _ => none
 | k + 1, x1, x2, x3, x10, x11, x13, x14, x15, x16, x70, x548000, x568000 => if x70 = true then (some false) else ((laws_toTree.f k x548000).bind fun t579 => ((laws_eqTree.f k x568000 t579).bind fun t582 => (if t582 = true then ((laws_toLineS.f k x1).bind fun t583 => ((laws_eqLineS.f k x13 t583).bind fun t586 => (if t586 = true then ((laws_toLineS.f k x3).bind fun t587 => ((laws_eqLineS.f k x14 t587).bind fun t590 => (if t590 = true then ((laws_markTree.f k x568000 1).bind fun bt591 => ((laws_markLineS.f k x13 bt591.1).bind fun bt593 => ((laws_markLineS.f k x14 bt593.1).bind fun bt595 => (if bt595.1 < 0 then (laws_FnExactWithExcept.j1 k x1 x2 x3 x10 x11 x15 true x548000) else ((laws_eqLineS.f k x15 x10).bind fun t597 => (if t597 = true then (laws_FnExactWithExcept.j1 k x1 x2 x3 x10 x11 x15 (x16 != x11) x548000) else (laws_FnExactWithExcept.j1 k x1 x2 x3 x10 x11 x15 true x548000))))))) else (some false)))) else (some false)))) else (some false))))
def laws_FnExactWithExcept.j1 : Nat → List (S52) → Int → List (S52) → List (S50) → Bool → List (S50) → Bool → List (S62) → Option (Bool)
 | 0, _, _, _, _, _, _, _, _ => none
 | k + 1, x1, x2, x3, x10, x11, x15, x107, x548000 => if x107 = true then (some false) else ((laws_markLineS.f k x15 1).bind fun bt598 => ((laws_heldLineS.f k bt598.2 1).bind fun t600 => (if t600 < 0 then (some false) else (if t600 = bt598.1 then ((laws_toTree.f k x548000).bind fun t601 => ((laws_toLineS.f k x1).bind fun t604 => ((laws_toLineS.f k x3).bind fun t607 => ((impl_WithExcept.f k t601 t604 x2 t607).bind fun bt610 => ((laws_eqLineS.f k bt610.1 x10).bind fun t614 => (if t614 = true then (laws_FnExactWithExcept.j2 k bt598.2 bt598.1 (bt610.2 != x11)) else (laws_FnExactWithExcept.j2 k bt598.2 bt598.1 true))))))) else (some false)))))
def laws_FnExactWithExcept.j2 : Nat → List (S50) → Int → Bool → Option (Bool)
 | 0, _, _, _ => none
 | k + 1, x15, x18, x138 => if x138 = true then (some false) else ((laws_heldLineS.f k x15 1).bind fun t615 => (if t615 < 0 then (some false) else (if t615 = x18 then (some true) else (some false))))
end
def laws_FnExactWithExcept.f (k : Nat) (l0_0 : List (S62)) (l1 : List (S52)) (a2 : Int) (l3 : List (S52)) : Option (Bool) := (laws_szTree.f k l0_0 1048576).bind fun t548 => (if t548 < 0 then (some true) else ((laws_szLineS.f l1 t548).bind fun t549 => (if t549 < 0 then (some true) else ((laws_szLineS.f l3 t549).bind fun t550 => (if t550 < 0 then (some true) else ((laws_toTree.f k l0_0).bind fun t551 => ((laws_toLineS.f k l1).bind fun t554 => ((laws_toLineS.f k l3).bind fun t557 => ((spec_WithExcept.f k t551 t554 a2 t557).bind fun bt560 => ((laws_toTree.f k l0_0).bind fun t564 => ((laws_toLineS.f k l1).bind fun t568 => ((laws_toLineS.f k l3).bind fun t571 => ((impl_WithExcept.f k t564 t568 a2 t571).bind fun bt574 => ((laws_eqLineS.f k bt574.1 bt560.1).bind fun t578 => (if t578 = true then (laws_FnExactWithExcept.j0 k l1 a2 l3 bt560.1 bt560.2 t568 t571 bt574.1 bt574.2 (bt574.2 != bt560.2) l0_0 t564) else (laws_FnExactWithExcept.j0 k l1 a2 l3 bt560.1 bt560.2 t568 t571 bt574.1 bt574.2 true l0_0 t564))))))))))))))))
set_option maxHeartbeats 8000000 in
set_option maxRecDepth 100000 in
theorem laws_FnExactWithExcept.calls (k : Nat) (A0_0 : Option Addr) (c0_0 : Nat) (l0_0 : List (S62)) (A1 : Option Addr) (c1 : Nat) (l1 : List (S52)) (a2 : Int) (A3 : Option Addr) (c3 : Nat) (l3 : List (S52)) (r : Bool) (w : World) (hr0_0 : Kd.C k62 w A0_0 l0_0.length l0_0) (hc0_0 : l0_0.length ≤ c0_0) (hr1 : Kd.C k52 w A1 l1.length l1) (hc1 : l1.length ≤ c1) (hr3 : Kd.C k52 w A3 l3.length l3) (hc3 : l3.length ≤ c3) (hT : r = true) (h : laws_FnExactWithExcept.f k l0_0 l1 a2 l3 = some r) :
  Calls Try.prog 5 #[.agg #[.slice A0_0 l0_0.length c0_0], .slice A1 l1.length c1, .int .i64 a2, .slice A3 l3.length c3] w fun e w' => e = .returned (.bool r) ∧ Below w.heap.size w w' := by
 have hu24 := Try.underlying24
 have hu33 := Try.underlying33
 have HR0_0 := am hr0_0
 have HC0_0 := am hc0_0
 clear hr0_0 hc0_0
 have HR1 := am hr1
 have HC1 := am hc1
 clear hr1 hc1
 have HR3 := am hr3
 have HC3 := am hc3
 clear hr3 hc3
 have HB := am (Below.refl w.heap.size w)
 have H : ((laws_szTree.f k l0_0 1048576).bind fun t548 => (if t548 < 0 then (some true) else ((laws_szLineS.f l1 t548).bind fun t549 => (if t549 < 0 then (some true) else ((laws_szLineS.f l3 t549).bind fun t550 => (if t550 < 0 then (some true) else ((laws_toTree.f k l0_0).bind fun t551 => ((laws_toLineS.f k l1).bind fun t554 => ((laws_toLineS.f k l3).bind fun t557 => ((spec_WithExcept.f k t551 t554 a2 t557).bind fun bt560 => ((laws_toTree.f k l0_0).bind fun t564 => ((laws_toLineS.f k l1).bind fun t568 => ((laws_toLineS.f k l3).bind fun t571 => ((impl_WithExcept.f k t564 t568 a2 t571).bind fun bt574 => ((laws_eqLineS.f k bt574.1 bt560.1).bind fun t578 => (if t578 = true then (laws_FnExactWithExcept.j0 k l1 a2 l3 bt560.1 bt560.2 t568 t571 bt574.1 bt574.2 (bt574.2 != bt560.2) l0_0 t564) else (laws_FnExactWithExcept.j0 k l1 a2 l3 bt560.1 bt560.2 t568 t571 bt574.1 bt574.2 true l0_0 t564))))))))))))))))) = some r := h
 clear h
 replace H := Option.bind_eq_some_iff.mp H
 obtain ⟨t548, A50, H⟩ := H
 replace H : (if t548 < 0 then (some true) else ((laws_szLineS.f l1 t548).bind fun t549 => (if t549 < 0 then (some true) else ((laws_szLineS.f l3 t549).bind fun t550 => (if t550 < 0 then (some true) else ((laws_toTree.f k l0_0).bind fun t551 => ((laws_toLineS.f k l1).bind fun t554 => ((laws_toLineS.f k l3).bind fun t557 => ((spec_WithExcept.f k t551 t554 a2 t557).bind fun bt560 => ((laws_toTree.f k l0_0).bind fun t564 => ((laws_toLineS.f k l1).bind fun t568 => ((laws_toLineS.f k l3).bind fun t571 => ((impl_WithExcept.f k t564 t568 a2 t571).bind fun bt574 => ((laws_eqLineS.f k bt574.1 bt560.1).bind fun t578 => (if t578 = true then (laws_FnExactWithExcept.j0 k l1 a2 l3 bt560.1 bt560.2 t568 t571 bt574.1 bt574.2 (bt574.2 != bt560.2) l0_0 t564) else (laws_FnExactWithExcept.j0 k l1 a2 l3 bt560.1 bt560.2 t568 t571 bt574.1 bt574.2 true l0_0 t564)))))))))))))))) = some r := H
 have A5 := am A50
 clear A50
 by_cases c6 : t548 < 0
 ·rw [if_pos c6] at H
  have c6b0 : decide (t548 < 0) = true := decide_eq_true c6
  clear c6
  obtain rfl := Option.some.inj H
  go_enter Try.func5, Try.ntmps5
  go_wp2_with (first | ((with_reducible refine gate_dst (N := 4) rfl ?_); refine bE (N := 4) (cs := #[.slice A0_0 l0_0.length c0_0]) (t := 24) ?_; intro gb547 hg w7 hbox hb; have BK547 := am (hbox); have GW547 := am ((Y0 : w.heap.size ≤ gb547)); have GE547 := am ((Y0 : w.heap.size ≤ gb547)); replace HB := am (below_step (bq) hb); clear hb hbox hg; have hcz8_0 := bc0 BK547.out; have hfz8_0 := blk_frozen BK547.out 0) | ((with_reducible refine gate_callee (f := 7) rfl ?_); refine gL (some 24) Try.func7 #[.agg #[.slice A0_0 l0_0.length c0_0], .int .i64 1048576] ?_; (with_reducible refine (laws_szTree.calls k _ _ l0_0 1048576 t548 _ ?side1 ?side2 A5.out).mono ?_); (case side1 => exact cq (Kd.C_below HR0_0.out HB.out)); (case side2 => exact HC0_0.out); rintro e w9 ⟨rfl, hb⟩; refine ⟨_, rfl, ?_⟩; replace BK547 := am (blk_below (g := gb547) (o := .cells #[.slice A0_0 l0_0.length c0_0] 24 (0, 0)) (kq BK547.out) hb); replace HB := am (below_step (Y15) hb); (try clear hb); (try clear hb2); (try clear hk); (try clear hi)))
  go_ret
  exact ⟨Y1, Y15⟩
 ·rw [if_neg c6] at H
  have c6b0 : decide (t548 < 0) = false := decide_eq_false c6
  clear c6
  replace H := Option.bind_eq_some_iff.mp H
  obtain ⟨t549, A100, H⟩ := H
  replace H : (if t549 < 0 then (some true) else ((laws_szLineS.f l3 t549).bind fun t550 => (if t550 < 0 then (some true) else ((laws_toTree.f k l0_0).bind fun t551 => ((laws_toLineS.f k l1).bind fun t554 => ((laws_toLineS.f k l3).bind fun t557 => ((spec_WithExcept.f k t551 t554 a2 t557).bind fun bt560 => ((laws_toTree.f k l0_0).bind fun t564 => ((laws_toLineS.f k l1).bind fun t568 => ((laws_toLineS.f k l3).bind fun t571 => ((impl_WithExcept.f k t564 t568 a2 t571).bind fun bt574 => ((laws_eqLineS.f k bt574.1 bt560.1).bind fun t578 => (if t578 = true then (laws_FnExactWithExcept.j0 k l1 a2 l3 bt560.1 bt560.2 t568 t571 bt574.1 bt574.2 (bt574.2 != bt560.2) l0_0 t564) else (laws_FnExactWithExcept.j0 k l1 a2 l3 bt560.1 bt560.2 t568 t571 bt574.1 bt574.2 true l0_0 t564)))))))))))))) = some r := H
  have A10 := am A100
  clear A100
  by_cases c11 : t549 < 0
  ·rw [if_pos c11] at H
   have c11b0 : decide (t549 < 0) = true := decide_eq_true c11
   clear c11
   obtain rfl := Option.some.inj H
   go_enter Try.func5, Try.ntmps5
   go_wp2_with (first | ((with_reducible refine gate_dst (N := 4) rfl ?_); refine bE (N := 4) (cs := #[.slice A0_0 l0_0.length c0_0]) (t := 24) ?_; intro gb547 hg w12 hbox hb; have BK547 := am (hbox); have GW547 := am ((Y0 : w.heap.size ≤ gb547)); have GE547 := am ((Y0 : w.heap.size ≤ gb547)); replace HB := am (below_step (bq) hb); clear hb hbox hg; have hcz13_0 := bc0 BK547.out; have hfz13_0 := blk_frozen BK547.out 0) | ((with_reducible refine gate_callee (f := 7) rfl ?_); refine gL (some 24) Try.func7 #[.agg #[.slice A0_0 l0_0.length c0_0], .int .i64 1048576] ?_; (with_reducible refine (laws_szTree.calls k _ _ l0_0 1048576 t548 _ ?side1 ?side2 A5.out).mono ?_); (case side1 => exact cq (Kd.C_below HR0_0.out HB.out)); (case side2 => exact HC0_0.out); rintro e w14 ⟨rfl, hb⟩; refine ⟨_, rfl, ?_⟩; replace BK547 := am (blk_below (g := gb547) (o := .cells #[.slice A0_0 l0_0.length c0_0] 24 (0, 0)) (kq BK547.out) hb); replace HB := am (below_step (Y15) hb); (try clear hb); (try clear hb2); (try clear hk); (try clear hi)) | ((with_reducible refine gate_callee (f := 8) rfl ?_); refine gL (some 29) Try.func8 #[.slice A1 l1.length c1, .int .i64 t548] ?_; (with_reducible refine (laws_szLineS.calls _ _ l1 t548 t549 _ ?side1 ?side2 A10.out).mono ?_); (case side1 => exact cq (Kd.C_below HR1.out HB.out)); (case side2 => exact HC1.out); rintro e w' ⟨rfl, ⟨nd, rfl⟩⟩; refine ⟨_, rfl, ?_⟩))
   go_ret
   exact ⟨Y1, Y15⟩
  ·rw [if_neg c11] at H
   have c11b0 : decide (t549 < 0) = false := decide_eq_false c11
   clear c11
   replace H := Option.bind_eq_some_iff.mp H
   obtain ⟨t550, A150, H⟩ := H
   replace H : (if t550 < 0 then (some true) else ((laws_toTree.f k l0_0).bind fun t551 => ((laws_toLineS.f k l1).bind fun t554 => ((laws_toLineS.f k l3).bind fun t557 => ((spec_WithExcept.f k t551 t554 a2 t557).bind fun bt560 => ((laws_toTree.f k l0_0).bind fun t564 => ((laws_toLineS.f k l1).bind fun t568 => ((laws_toLineS.f k l3).bind fun t571 => ((impl_WithExcept.f k t564 t568 a2 t571).bind fun bt574 => ((laws_eqLineS.f k bt574.1 bt560.1).bind fun t578 => (if t578 = true then (laws_FnExactWithExcept.j0 k l1 a2 l3 bt560.1 bt560.2 t568 t571 bt574.1 bt574.2 (bt574.2 != bt560.2) l0_0 t564) else (laws_FnExactWithExcept.j0 k l1 a2 l3 bt560.1 bt560.2 t568 t571 bt574.1 bt574.2 true l0_0 t564)))))))))))) = some r := H
   have A15 := am A150
   clear A150
   by_cases c16 : t550 < 0
   ·rw [if_pos c16] at H
    have c16b0 : decide (t550 < 0) = true := decide_eq_true c16
    clear c16
    obtain rfl := Option.some.inj H
    go_enter Try.func5, Try.ntmps5
    go_wp2_with (first | ((with_reducible refine gate_dst (N := 4) rfl ?_); refine bE (N := 4) (cs := #[.slice A0_0 l0_0.length c0_0]) (t := 24) ?_; intro gb547 hg w17 hbox hb; have BK547 := am (hbox); have GW547 := am ((Y0 : w.heap.size ≤ gb547)); have GE547 := am ((Y0 : w.heap.size ≤ gb547)); replace HB := am (below_step (bq) hb); clear hb hbox hg; have hcz18_0 := bc0 BK547.out; have hfz18_0 := blk_frozen BK547.out 0) | ((with_reducible refine gate_callee (f := 7) rfl ?_); refine gL (some 24) Try.func7 #[.agg #[.slice A0_0 l0_0.length c0_0], .int .i64 1048576] ?_; (with_reducible refine (laws_szTree.calls k _ _ l0_0 1048576 t548 _ ?side1 ?side2 A5.out).mono ?_); (case side1 => exact cq (Kd.C_below HR0_0.out HB.out)); (case side2 => exact HC0_0.out); rintro e w19 ⟨rfl, hb⟩; refine ⟨_, rfl, ?_⟩; replace BK547 := am (blk_below (g := gb547) (o := .cells #[.slice A0_0 l0_0.length c0_0] 24 (0, 0)) (kq BK547.out) hb); replace HB := am (below_step (Y15) hb); (try clear hb); (try clear hb2); (try clear hk); (try clear hi)) | ((with_reducible refine gate_callee (f := 8) rfl ?_); refine gL (some 29) Try.func8 #[.slice A1 l1.length c1, .int .i64 t548] ?_; (with_reducible refine (laws_szLineS.calls _ _ l1 t548 t549 _ ?side1 ?side2 A10.out).mono ?_); (case side1 => exact cq (Kd.C_below HR1.out HB.out)); (case side2 => exact HC1.out); rintro e w' ⟨rfl, ⟨nd, rfl⟩⟩; refine ⟨_, rfl, ?_⟩) | ((with_reducible refine gate_callee (f := 8) rfl ?_); refine gL (some 34) Try.func8 #[.slice A3 l3.length c3, .int .i64 t549] ?_; (with_reducible refine (laws_szLineS.calls _ _ l3 t549 t550 _ ?side1 ?side2 A15.out).mono ?_); (case side1 => repeat (first | exact (Kd.C_below HR3.out (by repeat (first | (with_reducible first | exact HB.out | apply below_alloc | apply pw_below_drewN | apply below_drew1 | refine below_set ?_ GE547.out) | exact HB.out))) | (with_reducible refine Kd.C_alloc ?_ _) | (with_reducible refine Kd.C_drewN ?_ _) | (with_reducible refine Kd.C_drew ?_))); (case side2 => exact HC3.out); rintro e w' ⟨rfl, ⟨nd, rfl⟩⟩; refine ⟨_, rfl, ?_⟩))
    go_ret
    exact ⟨Y1, Y15⟩
   ·rw [if_neg c16] at H
    have c16b0 : decide (t550 < 0) = false := decide_eq_false c16
    clear c16
    replace H := Option.bind_eq_some_iff.mp H
    obtain ⟨t551, A200, H⟩ := H
    replace H : ((laws_toLineS.f k l1).bind fun t554 => ((laws_toLineS.f k l3).bind fun t557 => ((spec_WithExcept.f k t551 t554 a2 t557).bind fun bt560 => ((laws_toTree.f k l0_0).bind fun t564 => ((laws_toLineS.f k l1).bind fun t568 => ((laws_toLineS.f k l3).bind fun t571 => ((impl_WithExcept.f k t564 t568 a2 t571).bind fun bt574 => ((laws_eqLineS.f k bt574.1 bt560.1).bind fun t578 => (if t578 = true then (laws_FnExactWithExcept.j0 k l1 a2 l3 bt560.1 bt560.2 t568 t571 bt574.1 bt574.2 (bt574.2 != bt560.2) l0_0 t564) else (laws_FnExactWithExcept.j0 k l1 a2 l3 bt560.1 bt560.2 t568 t571 bt574.1 bt574.2 true l0_0 t564)))))))))) = some r := H
    have A20 := am A200
    clear A200
    replace H := Option.bind_eq_some_iff.mp H
    obtain ⟨t554, A210, H⟩ := H
    replace H : ((laws_toLineS.f k l3).bind fun t557 => ((spec_WithExcept.f k t551 t554 a2 t557).bind fun bt560 => ((laws_toTree.f k l0_0).bind fun t564 => ((laws_toLineS.f k l1).bind fun t568 => ((laws_toLineS.f k l3).bind fun t571 => ((impl_WithExcept.f k t564 t568 a2 t571).bind fun bt574 => ((laws_eqLineS.f k bt574.1 bt560.1).bind fun t578 => (if t578 = true then (laws_FnExactWithExcept.j0 k l1 a2 l3 bt560.1 bt560.2 t568 t571 bt574.1 bt574.2 (bt574.2 != bt560.2) l0_0 t564) else (laws_FnExactWithExcept.j0 k l1 a2 l3 bt560.1 bt560.2 t568 t571 bt574.1 bt574.2 true l0_0 t564))))))))) = some r := H
    have A21 := am A210
    clear A210
    replace H := Option.bind_eq_some_iff.mp H
    obtain ⟨t557, A220, H⟩ := H
    replace H : ((spec_WithExcept.f k t551 t554 a2 t557).bind fun bt560 => ((laws_toTree.f k l0_0).bind fun t564 => ((laws_toLineS.f k l1).bind fun t568 => ((laws_toLineS.f k l3).bind fun t571 => ((impl_WithExcept.f k t564 t568 a2 t571).bind fun bt574 => ((laws_eqLineS.f k bt574.1 bt560.1).bind fun t578 => (if t578 = true then (laws_FnExactWithExcept.j0 k l1 a2 l3 bt560.1 bt560.2 t568 t571 bt574.1 bt574.2 (bt574.2 != bt560.2) l0_0 t564) else (laws_FnExactWithExcept.j0 k l1 a2 l3 bt560.1 bt560.2 t568 t571 bt574.1 bt574.2 true l0_0 t564)))))))) = some r := H
    have A22 := am A220
    clear A220
    replace H := Option.bind_eq_some_iff.mp H
    obtain ⟨⟨t560, t563⟩, A230, H⟩ := H
    replace H : ((laws_toTree.f k l0_0).bind fun t564 => ((laws_toLineS.f k l1).bind fun t568 => ((laws_toLineS.f k l3).bind fun t571 => ((impl_WithExcept.f k t564 t568 a2 t571).bind fun bt574 => ((laws_eqLineS.f k bt574.1 t560).bind fun t578 => (if t578 = true then (laws_FnExactWithExcept.j0 k l1 a2 l3 t560 t563 t568 t571 bt574.1 bt574.2 (bt574.2 != t563) l0_0 t564) else (laws_FnExactWithExcept.j0 k l1 a2 l3 t560 t563 t568 t571 bt574.1 bt574.2 true l0_0 t564))))))) = some r := H
    have A23 := am A230
    clear A230
    replace H := Option.bind_eq_some_iff.mp H
    obtain ⟨t564, A240, H⟩ := H
    replace H : ((laws_toLineS.f k l1).bind fun t568 => ((laws_toLineS.f k l3).bind fun t571 => ((impl_WithExcept.f k t564 t568 a2 t571).bind fun bt574 => ((laws_eqLineS.f k bt574.1 t560).bind fun t578 => (if t578 = true then (laws_FnExactWithExcept.j0 k l1 a2 l3 t560 t563 t568 t571 bt574.1 bt574.2 (bt574.2 != t563) l0_0 t564) else (laws_FnExactWithExcept.j0 k l1 a2 l3 t560 t563 t568 t571 bt574.1 bt574.2 true l0_0 t564)))))) = some r := H
    have A24 := am A240
    clear A240
    replace H := Option.bind_eq_some_iff.mp H
    obtain ⟨t568, A250, H⟩ := H
    replace H : ((laws_toLineS.f k l3).bind fun t571 => ((impl_WithExcept.f k t564 t568 a2 t571).bind fun bt574 => ((laws_eqLineS.f k bt574.1 t560).bind fun t578 => (if t578 = true then (laws_FnExactWithExcept.j0 k l1 a2 l3 t560 t563 t568 t571 bt574.1 bt574.2 (bt574.2 != t563) l0_0 t564) else (laws_FnExactWithExcept.j0 k l1 a2 l3 t560 t563 t568 t571 bt574.1 bt574.2 true l0_0 t564))))) = some r := H
    have A25 := am A250
    clear A250
    replace H := Option.bind_eq_some_iff.mp H
    obtain ⟨t571, A260, H⟩ := H
    replace H : ((impl_WithExcept.f k t564 t568 a2 t571).bind fun bt574 => ((laws_eqLineS.f k bt574.1 t560).bind fun t578 => (if t578 = true then (laws_FnExactWithExcept.j0 k l1 a2 l3 t560 t563 t568 t571 bt574.1 bt574.2 (bt574.2 != t563) l0_0 t564) else (laws_FnExactWithExcept.j0 k l1 a2 l3 t560 t563 t568 t571 bt574.1 bt574.2 true l0_0 t564)))) = some r := H
    have A26 := am A260
    clear A260
    replace H := Option.bind_eq_some_iff.mp H
    obtain ⟨⟨t574, t577⟩, A270, H⟩ := H
    replace H : ((laws_eqLineS.f k t574 t560).bind fun t578 => (if t578 = true then (laws_FnExactWithExcept.j0 k l1 a2 l3 t560 t563 t568 t571 t574 t577 (t577 != t563) l0_0 t564) else (laws_FnExactWithExcept.j0 k l1 a2 l3 t560 t563 t568 t571 t574 t577 true l0_0 t564))) = some r := H
    have A27 := am A270
    clear A270
    have HC28 := am H
    clear H
    go_enter Try.func5, Try.ntmps5
    go_upto_region 16 with (first | ((with_reducible refine gate_dst (N := 4) rfl ?_); refine bE (N := 4) (cs := #[.slice A0_0 l0_0.length c0_0]) (t := 24) ?_; intro gb547 hg w29 hbox hb; have BK547 := am (hbox); have GW547 := am ((Y0 : w.heap.size ≤ gb547)); have GE547 := am ((Y0 : w.heap.size ≤ gb547)); replace HB := am (below_step (bq) hb); clear hb hbox hg; have hcz30_0 := bc0 BK547.out; have hfz30_0 := blk_frozen BK547.out 0) | ((with_reducible refine gate_callee (f := 7) rfl ?_); refine gL (some 24) Try.func7 #[.agg #[.slice A0_0 l0_0.length c0_0], .int .i64 1048576] ?_; (with_reducible refine (laws_szTree.calls k _ _ l0_0 1048576 t548 _ ?side1 ?side2 A5.out).mono ?_); (case side1 => exact cq (Kd.C_below HR0_0.out HB.out)); (case side2 => exact HC0_0.out); rintro e w31 ⟨rfl, hb⟩; refine ⟨_, rfl, ?_⟩; replace BK547 := am (blk_below (g := gb547) (o := .cells #[.slice A0_0 l0_0.length c0_0] 24 (0, 0)) (kq BK547.out) hb); replace HB := am (below_step (Y15) hb); (try clear hb); (try clear hb2); (try clear hk); (try clear hi)) | ((with_reducible refine gate_callee (f := 8) rfl ?_); refine gL (some 29) Try.func8 #[.slice A1 l1.length c1, .int .i64 t548] ?_; (with_reducible refine (laws_szLineS.calls _ _ l1 t548 t549 _ ?side1 ?side2 A10.out).mono ?_); (case side1 => exact cq (Kd.C_below HR1.out HB.out)); (case side2 => exact HC1.out); rintro e w' ⟨rfl, ⟨nd, rfl⟩⟩; refine ⟨_, rfl, ?_⟩; (try (rw [drewN_self w31]; generalize hq_ : World.drewN w31 _ = w31; have n0_ : Aside0 (w31.heap[gb547]? = some (.cells #[.slice A0_0 l0_0.length c0_0] 24 (0, 0))) := ⟨by rw [← hq_]; exact (kq BK547.out)⟩; have n1_ : Aside0 (Below w.heap.size w w31) := ⟨by rw [← hq_]; exact (Y15)⟩; clear BK547 HB hq_; have BK547 := n0_; have HB := n1_; clear n0_ n1_))) | ((with_reducible refine gate_callee (f := 8) rfl ?_); refine gL (some 34) Try.func8 #[.slice A3 l3.length c3, .int .i64 t549] ?_; (with_reducible refine (laws_szLineS.calls _ _ l3 t549 t550 _ ?side1 ?side2 A15.out).mono ?_); (case side1 => exact cq (Kd.C_below HR3.out HB.out)); (case side2 => exact HC3.out); rintro e w' ⟨rfl, ⟨nd, rfl⟩⟩; refine ⟨_, rfl, ?_⟩; (try (rw [drewN_self w31]; generalize hq_ : World.drewN w31 _ = w31; have n0_ : Aside0 (w31.heap[gb547]? = some (.cells #[.slice A0_0 l0_0.length c0_0] 24 (0, 0))) := ⟨by rw [← hq_]; exact (kq BK547.out)⟩; have n1_ : Aside0 (Below w.heap.size w w31) := ⟨by rw [← hq_]; exact (Y15)⟩; clear BK547 HB hq_; have BK547 := n0_; have HB := n1_; clear n0_ n1_)); have hcz32_0 := bc0 BK547.out; have hfz32_0 := blk_frozen BK547.out 0) | ((with_reducible refine gate_callee (f := 10) rfl ?_); refine gL (some 39) Try.func10 #[.agg #[.slice A0_0 l0_0.length c0_0]] ?_; (with_reducible refine (laws_toTree.calls k _ _ l0_0 t551 _ ?side1 ?side2 A20.out).mono ?_); (case side1 => exact cq (Kd.C_below HR0_0.out HB.out)); (case side2 => exact HC0_0.out); rintro e w33 ⟨v552, rfl, ho0, hb⟩; refine ⟨_, rfl, ?_⟩; have HO553 := am (Kd.R_lower ho0 (below_size (Y15))); replace BK547 := am (blk_below (g := gb547) (o := .cells #[.slice A0_0 l0_0.length c0_0] 24 (0, 0)) (kq BK547.out) hb); replace HB := am (below_step (Y15) hb); (try clear hb); (try clear hb2); (try clear hk); (try clear hi); (try clear ho0)) | ((with_reducible refine gate_callee (f := 11) rfl ?_); refine gL (some 41) Try.func11 #[.slice A1 l1.length c1] ?_; (with_reducible refine (laws_toLineS.calls k _ _ l1 t554 _ ?side1 ?side2 A21.out).mono ?_); (case side1 => exact cq (Kd.C_below HR1.out HB.out)); (case side2 => exact HC1.out); rintro e w34 ⟨v555, rfl, ho0, hb⟩; refine ⟨_, rfl, ?_⟩; have HO556 := am (Kd.R_lower ho0 (below_size (Y15))); replace HO553 := am (Kd.R_below (rq HO553.out) hb); replace BK547 := am (blk_below (g := gb547) (o := .cells #[.slice A0_0 l0_0.length c0_0] 24 (0, 0)) (kq BK547.out) hb); replace HB := am (below_step (Y15) hb); (try clear hb); (try clear hb2); (try clear hk); (try clear hi); (try clear ho0)) | ((with_reducible refine gate_callee (f := 11) rfl ?_); refine gL (some 44) Try.func11 #[.slice A3 l3.length c3] ?_; (with_reducible refine (laws_toLineS.calls k _ _ l3 t557 _ ?side1 ?side2 A22.out).mono ?_); (case side1 => exact cq (Kd.C_below HR3.out HB.out)); (case side2 => exact HC3.out); rintro e w35 ⟨v558, rfl, ho0, hb⟩; refine ⟨_, rfl, ?_⟩; have HO559 := am (Kd.R_lower (Kd.R_new' ho0 (Kd.R_lt (rq HO556.out))) (below_size (Y15))); replace HO553 := am (Kd.R_below (rq HO553.out) hb); replace HO556 := am (Kd.R_elder' (rq HO556.out) (Kd.R_base ho0) hb); replace BK547 := am (blk_below (g := gb547) (o := .cells #[.slice A0_0 l0_0.length c0_0] 24 (0, 0)) (kq BK547.out) hb); replace HB := am (below_step (Y15) hb); (try clear hb); (try clear hb2); (try clear hk); (try clear hi); (try clear ho0); obtain ⟨Ao36, co36, eo36⟩ := Kd.R_slice HO553.out; subst eo36; obtain ⟨Ao37, co37, eo37⟩ := Kd.R_slice HO556.out; subst eo37; obtain ⟨Ao38, co38, eo38⟩ := Kd.R_slice HO559.out; subst eo38) | ((with_reducible refine gate_callee (f := 20) rfl ?_); refine gL (some 45) Try.func20 #[.agg #[.slice Ao36 t551.length co36], .slice Ao37 t554.length co37, .int .i64 a2, .slice Ao38 t557.length co38] ?_; (with_reducible refine (spec_WithExcept.calls k _ _ t551 _ _ t554 a2 _ _ t557 t560 t563 _ ?side1 ?side2 ?side3 ?side4 ?side5 ?side6 A23.out).mono ?_); (case side1 => exact cq (Kd.R_reads' HO553.out).2.2); (case side2 => exact (Kd.R_reads' HO553.out).2.1); (case side3 => exact cq (Kd.R_reads' HO556.out).2.2); (case side4 => exact (Kd.R_reads' HO556.out).2.1); (case side5 => exact cq (Kd.R_reads' HO559.out).2.2); (case side6 => exact (Kd.R_reads' HO559.out).2.1); rintro e w39 ⟨v561, rfl, ho0, hb⟩; refine ⟨_, rfl, ?_⟩; have HO562 := am (Kd.R_lower (Kd.R_new' (Kd.R_new' ho0 (Kd.R_lt (rq HO556.out))) (Kd.R_lt (rq HO559.out))) (below_size (Y15))); replace HO553 := am (Kd.R_below (rq HO553.out) hb); replace HO556 := am (Kd.R_elder' (rq HO556.out) (Kd.R_base ho0) hb); replace HO559 := am (Kd.R_elder' (rq HO559.out) (Kd.R_base ho0) hb); replace BK547 := am (blk_below (g := gb547) (o := .cells #[.slice A0_0 l0_0.length c0_0] 24 (0, 0)) (kq BK547.out) hb); replace HB := am (below_step (Y15) hb); (try clear hb); (try clear hb2); (try clear hk); (try clear hi); (try clear ho0); have hcz40_0 := bc0 BK547.out; have hfz40_0 := blk_frozen BK547.out 0) | ((with_reducible refine gate_callee (f := 10) rfl ?_); refine gL (some 49) Try.func10 #[.agg #[.slice A0_0 l0_0.length c0_0]] ?_; (with_reducible refine (laws_toTree.calls k _ _ l0_0 t564 _ ?side1 ?side2 A24.out).mono ?_); (case side1 => exact cq (Kd.C_below HR0_0.out HB.out)); (case side2 => exact HC0_0.out); rintro e w41 ⟨v565, rfl, ho0, hb⟩; refine ⟨_, rfl, ?_⟩; have HO566 := am (Kd.R_lower (Kd.R_new' ho0 (Kd.R_lt (rq HO553.out))) (below_size (Y15))); replace HO553 := am (Kd.R_elder' (rq HO553.out) (Kd.R_base ho0) hb); replace HO556 := am (Kd.R_below (rq HO556.out) hb); replace HO559 := am (Kd.R_below (rq HO559.out) hb); replace HO562 := am (Kd.R_below (rq HO562.out) hb); replace BK547 := am (blk_below (g := gb547) (o := .cells #[.slice A0_0 l0_0.length c0_0] 24 (0, 0)) (kq BK547.out) hb); replace HB := am (below_step (Y15) hb); (try clear hb); (try clear hb2); (try clear hk); (try clear hi); (try clear ho0)) | ((with_reducible refine gate_dst (N := 12) rfl ?_); refine bE (N := 12) (cs := #[.slice none 0 0]) (t := 33) ?_; intro gb567 hg w42 hbox hb; have BK567 := am (hbox); have GW567 := am ((Y95 : w.heap.size ≤ gb567)); have GE567 := am ((Y95 : w.heap.size ≤ gb567)); have NB547_567 := am ((by rw [hg]; exact Nat.ne_of_lt (blk_lt (g := gb547) (o := .cells #[.slice A0_0 l0_0.length c0_0] 24 (0, 0)) (kq BK547.out)) : gb547 ≠ gb567)); have NB567_547 := am ((by rw [hg]; exact Nat.ne_of_gt (blk_lt (g := gb547) (o := .cells #[.slice A0_0 l0_0.length c0_0] 24 (0, 0)) (kq BK547.out)) : gb567 ≠ gb547)); replace HO553 := am (Kd.R_below (rq HO553.out) hb); replace HO556 := am (Kd.R_below (rq HO556.out) hb); replace HO559 := am (Kd.R_below (rq HO559.out) hb); replace HO562 := am (Kd.R_below (rq HO562.out) hb); replace HO566 := am (Kd.R_below (rq HO566.out) hb); replace BK547 := am (blk_below (g := gb547) (o := .cells #[.slice A0_0 l0_0.length c0_0] 24 (0, 0)) (kq BK547.out) hb); replace HB := am (below_step (Y15) hb); clear hb hbox hg; obtain ⟨Ao43, co43, eo43⟩ := Kd.R_slice HO566.out; subst eo43; have hnb44 := NB567_547.out; have hnc44 := NB547_567.out; have hcz45_0 := bc0 BK567.out; have hfz45_0 := blk_frozen BK567.out 0) | ((with_reducible refine gate_callee (f := 11) rfl ?_); refine gL (some 51) Try.func11 #[.slice A1 l1.length c1] ?_; (with_reducible refine (laws_toLineS.calls k _ _ l1 t568 _ ?side1 ?side2 A25.out).mono ?_); (case side1 => exact Kd.C_below HR1.out (Y7)); (case side2 => exact HC1.out); rintro e w46 ⟨v569, rfl, ho0, hb⟩; refine ⟨_, rfl, ?_⟩; have HO570 := am (Kd.R_lower (Kd.R_new' (Kd.R_new' (Kd.R_new' ho0 (Kd.R_lt (Y96))) (Kd.R_lt (Y97))) (Kd.R_lt (Y98))) (below_size (Y7))); replace HO553 := am (Kd.R_below (by (with_reducible repeat (first | apply Kd.R_alloc | apply Kd.R_drewN | apply Kd.R_drew)); exact (Kd.R_mono (Kd.R_far (p := ⟨gb567, 0, none⟩) (Kd.R_types HO553.out BK567.out (by decide)) (fun _ hk => hk.2) (.slice Ao43 t564.length co43)) (fun _ h_ => h_.1))) hb); replace HO556 := am (Kd.R_elder' (Y96) (Kd.R_base ho0) hb); replace HO559 := am (Kd.R_elder' (Y97) (Kd.R_base ho0) hb); replace HO562 := am (Kd.R_elder' (Y98) (Kd.R_base ho0) hb); replace HO566 := am (Kd.R_below (by (with_reducible repeat (first | apply Kd.R_alloc | apply Kd.R_drewN | apply Kd.R_drew)); exact (Kd.R_mono (Kd.R_far (p := ⟨gb567, 0, none⟩) (Kd.R_types HO566.out BK567.out (by decide)) (fun _ hk => hk.2) (.slice Ao43 t564.length co43)) (fun _ h_ => h_.1))) hb); replace BK547 := am (blk_below (g := gb547) (o := .cells #[.slice A0_0 l0_0.length c0_0] 24 (0, 0)) (by (with_reducible repeat (first | refine blk_drewN ?_ _ | refine blk_drew ?_ | refine blk_alloc ?_ _)); refine blk_far ?_ NB547_567.out _; (with_reducible repeat (first | refine blk_drewN ?_ _ | refine blk_drew ?_ | refine blk_alloc ?_ _)); exact BK547.out) hb); replace BK567 := am (blk_below (g := gb567) (o := .cells #[.slice Ao43 t564.length co43] 33 (0, 0)) (by (with_reducible repeat (first | refine blk_drewN ?_ _ | refine blk_drew ?_ | refine blk_alloc ?_ _)); refine blk_put (cs := #[.slice none 0 0]) ?_ 0 _ rfl; (with_reducible repeat (first | refine blk_drewN ?_ _ | refine blk_drew ?_ | refine blk_alloc ?_ _)); exact BK567.out) hb); replace HB := am (below_step (Y7) hb); (try clear hb); (try clear hb2); (try clear hk); (try clear hi); (try clear ho0)) | ((with_reducible refine gate_callee (f := 11) rfl ?_); refine gL (some 53) Try.func11 #[.slice A3 l3.length c3] ?_; (with_reducible refine (laws_toLineS.calls k _ _ l3 t571 _ ?side1 ?side2 A26.out).mono ?_); (case side1 => exact cq (Kd.C_below HR3.out HB.out)); (case side2 => exact HC3.out); rintro e w47 ⟨v572, rfl, ho0, hb⟩; refine ⟨_, rfl, ?_⟩; have HO573 := am (Kd.R_lower (Kd.R_new' (Kd.R_new' (Kd.R_new' (Kd.R_new' ho0 (Kd.R_lt (rq HO556.out))) (Kd.R_lt (rq HO559.out))) (Kd.R_lt (rq HO562.out))) (Kd.R_lt (rq HO570.out))) (below_size (Y7))); replace HO553 := am (Kd.R_below (rq HO553.out) hb); replace HO556 := am (Kd.R_elder' (rq HO556.out) (Kd.R_base ho0) hb); replace HO559 := am (Kd.R_elder' (rq HO559.out) (Kd.R_base ho0) hb); replace HO562 := am (Kd.R_elder' (rq HO562.out) (Kd.R_base ho0) hb); replace HO566 := am (Kd.R_below (rq HO566.out) hb); replace HO570 := am (Kd.R_elder' (rq HO570.out) (Kd.R_base ho0) hb); replace BK547 := am (blk_below (g := gb547) (o := .cells #[.slice A0_0 l0_0.length c0_0] 24 (0, 0)) (kq BK547.out) hb); replace BK567 := am (blk_below (g := gb567) (o := .cells #[.slice Ao43 t564.length co43] 33 (0, 0)) (kq BK567.out) hb); replace HB := am (below_step (Y7) hb); (try clear hb); (try clear hb2); (try clear hk); (try clear hi); (try clear ho0); have hcz48_0 := bc0 BK567.out; have hfz48_0 := blk_frozen BK567.out 0; obtain ⟨Ao49, co49, eo49⟩ := Kd.R_slice HO570.out; subst eo49; obtain ⟨Ao50, co50, eo50⟩ := Kd.R_slice HO573.out; subst eo50) | ((with_reducible refine gate_callee (f := 21) rfl ?_); refine gL (some 59) Try.func21 #[.agg #[.slice Ao43 t564.length co43], .slice Ao49 t568.length co49, .int .i64 a2, .slice Ao50 t571.length co50] ?_; (with_reducible refine (impl_WithExcept.calls k _ _ t564 _ _ t568 a2 _ _ t571 t574 t577 _ ?side1 ?side2 ?side3 ?side4 ?side5 ?side6 A27.out).mono ?_); (case side1 => exact cq (Kd.R_reads' HO566.out).2.2); (case side2 => exact (Kd.R_reads' HO566.out).2.1); (case side3 => exact cq (Kd.R_reads' HO570.out).2.2); (case side4 => exact (Kd.R_reads' HO570.out).2.1); (case side5 => exact cq (Kd.R_reads' HO573.out).2.2); (case side6 => exact (Kd.R_reads' HO573.out).2.1); rintro e w51 ⟨v575, rfl, ho0, hb⟩; refine ⟨_, rfl, ?_⟩; have HO576 := am (Kd.R_lower (Kd.R_new' (Kd.R_new' (Kd.R_new' (Kd.R_new' (Kd.R_new' ho0 (Kd.R_lt (rq HO556.out))) (Kd.R_lt (rq HO559.out))) (Kd.R_lt (rq HO562.out))) (Kd.R_lt (rq HO570.out))) (Kd.R_lt (rq HO573.out))) (below_size (Y7))); replace HO553 := am (Kd.R_below (rq HO553.out) hb); replace HO556 := am (Kd.R_elder' (rq HO556.out) (Kd.R_base ho0) hb); replace HO559 := am (Kd.R_elder' (rq HO559.out) (Kd.R_base ho0) hb); replace HO562 := am (Kd.R_elder' (rq HO562.out) (Kd.R_base ho0) hb); replace HO566 := am (Kd.R_below (rq HO566.out) hb); replace HO570 := am (Kd.R_elder' (rq HO570.out) (Kd.R_base ho0) hb); replace HO573 := am (Kd.R_elder' (rq HO573.out) (Kd.R_base ho0) hb); replace BK547 := am (blk_below (g := gb547) (o := .cells #[.slice A0_0 l0_0.length c0_0] 24 (0, 0)) (kq BK547.out) hb); replace BK567 := am (blk_below (g := gb567) (o := .cells #[.slice Ao43 t564.length co43] 33 (0, 0)) (kq BK567.out) hb); replace HB := am (below_step (Y7) hb); (try clear hb); (try clear hb2); (try clear hk); (try clear hi); (try clear ho0)))
    (try simp only [Act.put, List.setIfInBounds_toArray, List.set_cons_zero, List.set_cons_succ])
    go_cut [70] (fun v70 wc => ∃ (kq : Nat) (x70_27 : Bool), v70 = .bool x70_27 ∧ Aside0 (laws_FnExactWithExcept.j0 kq l1 a2 l3 t560 t563 t568 t571 t574 t577 x70_27 l0_0 t564 = some r) ∧ Aside0 (kq ≤ k) ∧ Aside0 (Kd.R k50 50 wc w.heap.size (fun k_ => some k_ ≠ ((.slice Ao49 t568.length co49) : Value).ownBlock ∧ some k_ ≠ ((.slice Ao50 t571.length co50) : Value).ownBlock ∧ some k_ ≠ (v575 : Value).ownBlock) v561 t560) ∧ Aside0 (Kd.R k50 50 wc w.heap.size (fun k_ => some k_ ≠ (v561 : Value).ownBlock ∧ some k_ ≠ ((.slice Ao50 t571.length co50) : Value).ownBlock ∧ some k_ ≠ (v575 : Value).ownBlock) (.slice Ao49 t568.length co49) t568) ∧ Aside0 (Kd.R k50 50 wc w.heap.size (fun k_ => some k_ ≠ (v561 : Value).ownBlock ∧ some k_ ≠ ((.slice Ao49 t568.length co49) : Value).ownBlock ∧ some k_ ≠ (v575 : Value).ownBlock) (.slice Ao50 t571.length co50) t571) ∧ Aside0 (Kd.R k50 50 wc w.heap.size (fun k_ => some k_ ≠ (v561 : Value).ownBlock ∧ some k_ ≠ ((.slice Ao49 t568.length co49) : Value).ownBlock ∧ some k_ ≠ ((.slice Ao50 t571.length co50) : Value).ownBlock) v575 t574) ∧ Aside0 (Kd.R k63 63 wc w.heap.size (fun _ => True) (.slice Ao43 t564.length co43) t564) ∧ Aside0 (wc.heap[gb547]? = some (.cells #[(.slice A0_0 l0_0.length c0_0)] 24 (0, 0))) ∧ Aside0 (wc.heap[gb567]? = some (.cells #[(.slice Ao43 t564.length co43)] 33 (0, 0))) ∧ Aside0 (Below w.heap.size w wc))
    case first =>
     have H := HC28.out
     clear HC28
     replace H := Option.bind_eq_some_iff.mp H
     obtain ⟨t578, A520, H⟩ := H
     replace H : (if t578 = true then (laws_FnExactWithExcept.j0 k l1 a2 l3 t560 t563 t568 t571 t574 t577 (t577 != t563) l0_0 t564) else (laws_FnExactWithExcept.j0 k l1 a2 l3 t560 t563 t568 t571 t574 t577 true l0_0 t564)) = some r := H
     have A52 := am A520
     clear A520
     by_cases c53 : t578 = true
     ·subst c53
      have H1 : (laws_FnExactWithExcept.j0 k l1 a2 l3 t560 t563 t568 t571 t574 t577 (t577 != t563) l0_0 t564) = some r := by rw [if_pos rfl] at H; exact H
      clear H
      have H := H1
      clear H1
      have H' := am H
      clear H
      obtain ⟨Ao54, co54, eo54⟩ := Kd.R_slice HO576.out
      subst eo54
      obtain ⟨Ao55, co55, eo55⟩ := Kd.R_slice HO562.out
      subst eo55
      go_wp2_with (first | ((with_reducible refine gate_callee (f := 13) rfl ?_); refine gL (some 64) Try.func13 #[.slice Ao54 t574.length co54, .slice Ao55 t560.length co55] ?_; (with_reducible refine (laws_eqLineS.calls k _ _ t574 _ _ t560 true _ ?side1 ?side2 ?side3 ?side4 A52.out).mono ?_); (case side1 => exact cq (Kd.R_reads' HO576.out).2.2); (case side2 => exact (Kd.R_reads' HO576.out).2.1); (case side3 => exact cq (Kd.R_reads' HO562.out).2.2); (case side4 => exact (Kd.R_reads' HO562.out).2.1); rintro e w56 ⟨rfl, hb⟩; refine ⟨_, rfl, ?_⟩; replace HO553 := am (Kd.R_below (rq HO553.out) hb); replace HO556 := am (Kd.R_below (rq HO556.out) hb); replace HO559 := am (Kd.R_below (rq HO559.out) hb); replace HO562 := am (Kd.R_below (rq HO562.out) hb); replace HO566 := am (Kd.R_below (rq HO566.out) hb); replace HO570 := am (Kd.R_below (rq HO570.out) hb); replace HO573 := am (Kd.R_below (rq HO573.out) hb); replace HO576 := am (Kd.R_below (rq HO576.out) hb); replace BK547 := am (blk_below (g := gb547) (o := .cells #[.slice A0_0 l0_0.length c0_0] 24 (0, 0)) (kq BK547.out) hb); replace BK567 := am (blk_below (g := gb567) (o := .cells #[.slice Ao43 t564.length co43] 33 (0, 0)) (kq BK567.out) hb); replace HB := am (below_step (Y7) hb); (try clear hb); (try clear hb2); (try clear hk); (try clear hi)))
      go_meet
      case rel => exact ⟨_, ((t577 != t563)), (sq), H', ⟨Y22⟩, ⟨by (with_reducible repeat (first | apply Kd.R_alloc | apply Kd.R_drewN | apply Kd.R_drew)); exact Kd.R_mono HO562.out (fun _ hk => ⟨hk.1.1.2, ⟨hk.1.2, hk.2⟩⟩)⟩, ⟨by (with_reducible repeat (first | apply Kd.R_alloc | apply Kd.R_drewN | apply Kd.R_drew)); exact Kd.R_mono HO570.out (fun _ hk => ⟨hk.1.1.2, ⟨hk.1.2, hk.2⟩⟩)⟩, ⟨by (with_reducible repeat (first | apply Kd.R_alloc | apply Kd.R_drewN | apply Kd.R_drew)); exact Kd.R_mono HO573.out (fun _ hk => ⟨hk.1.1.2, ⟨hk.1.2, hk.2⟩⟩)⟩, ⟨by (with_reducible repeat (first | apply Kd.R_alloc | apply Kd.R_drewN | apply Kd.R_drew)); exact Kd.R_mono HO576.out (fun _ hk => ⟨hk.1.1.2, ⟨hk.1.2, hk.2⟩⟩)⟩, ⟨by (with_reducible repeat (first | apply Kd.R_alloc | apply Kd.R_drewN | apply Kd.R_drew)); exact Kd.R_mono HO566.out (fun _ hk => trivial)⟩, ⟨kq BK547.out⟩, ⟨kq BK567.out⟩, ⟨Y7⟩⟩
     ·replace c53 := Bool.eq_false_iff.mpr c53
      subst c53
      have H1 : (laws_FnExactWithExcept.j0 k l1 a2 l3 t560 t563 t568 t571 t574 t577 true l0_0 t564) = some r := by rw [if_neg (show ¬ (false = true) by decide)] at H; exact H
      clear H
      have H := H1
      clear H1
      have H' := am H
      clear H
      obtain ⟨Ao57, co57, eo57⟩ := Kd.R_slice HO576.out
      subst eo57
      obtain ⟨Ao58, co58, eo58⟩ := Kd.R_slice HO562.out
      subst eo58
      go_wp2_with (first | ((with_reducible refine gate_callee (f := 13) rfl ?_); refine gL (some 64) Try.func13 #[.slice Ao57 t574.length co57, .slice Ao58 t560.length co58] ?_; (with_reducible refine (laws_eqLineS.calls k _ _ t574 _ _ t560 false _ ?side1 ?side2 ?side3 ?side4 A52.out).mono ?_); (case side1 => exact cq (Kd.R_reads' HO576.out).2.2); (case side2 => exact (Kd.R_reads' HO576.out).2.1); (case side3 => exact cq (Kd.R_reads' HO562.out).2.2); (case side4 => exact (Kd.R_reads' HO562.out).2.1); rintro e w59 ⟨rfl, hb⟩; refine ⟨_, rfl, ?_⟩; replace HO553 := am (Kd.R_below (rq HO553.out) hb); replace HO556 := am (Kd.R_below (rq HO556.out) hb); replace HO559 := am (Kd.R_below (rq HO559.out) hb); replace HO562 := am (Kd.R_below (rq HO562.out) hb); replace HO566 := am (Kd.R_below (rq HO566.out) hb); replace HO570 := am (Kd.R_below (rq HO570.out) hb); replace HO573 := am (Kd.R_below (rq HO573.out) hb); replace HO576 := am (Kd.R_below (rq HO576.out) hb); replace BK547 := am (blk_below (g := gb547) (o := .cells #[.slice A0_0 l0_0.length c0_0] 24 (0, 0)) (kq BK547.out) hb); replace BK567 := am (blk_below (g := gb567) (o := .cells #[.slice Ao43 t564.length co43] 33 (0, 0)) (kq BK567.out) hb); replace HB := am (below_step (Y7) hb); (try clear hb); (try clear hb2); (try clear hk); (try clear hi)))
      go_meet
      case rel => exact ⟨_, (true), (sq), H', ⟨Y22⟩, ⟨by (with_reducible repeat (first | apply Kd.R_alloc | apply Kd.R_drewN | apply Kd.R_drew)); exact Kd.R_mono HO562.out (fun _ hk => ⟨hk.1.1.2, ⟨hk.1.2, hk.2⟩⟩)⟩, ⟨by (with_reducible repeat (first | apply Kd.R_alloc | apply Kd.R_drewN | apply Kd.R_drew)); exact Kd.R_mono HO570.out (fun _ hk => ⟨hk.1.1.2, ⟨hk.1.2, hk.2⟩⟩)⟩, ⟨by (with_reducible repeat (first | apply Kd.R_alloc | apply Kd.R_drewN | apply Kd.R_drew)); exact Kd.R_mono HO573.out (fun _ hk => ⟨hk.1.1.2, ⟨hk.1.2, hk.2⟩⟩)⟩, ⟨by (with_reducible repeat (first | apply Kd.R_alloc | apply Kd.R_drewN | apply Kd.R_drew)); exact Kd.R_mono HO576.out (fun _ hk => ⟨hk.1.1.2, ⟨hk.1.2, hk.2⟩⟩)⟩, ⟨by (with_reducible repeat (first | apply Kd.R_alloc | apply Kd.R_drewN | apply Kd.R_drew)); exact Kd.R_mono HO566.out (fun _ hk => trivial)⟩, ⟨kq BK547.out⟩, ⟨kq BK567.out⟩, ⟨Y7⟩⟩
    case rest =>
     clear HC28
     try clear c1
     try clear c2
     try clear p2
     try clear c3
     try clear c4
     try clear c5
     try clear c6
     try clear c6b0
     try clear c7
     try clear c8
     try clear c10
     try clear c11
     try clear c11b0
     try clear c13
     try clear c16
     try clear c16b0
     try clear c20
     try clear c21
     try clear c44
     try clear c53
     try clear hcz13_0
     try clear hcz18_0
     try clear hcz30_0
     try clear hcz32_0
     try clear hcz40_0
     try clear hcz45_0
     try clear hcz48_0
     try clear hcz8_0
     try clear hfz13_0
     try clear hfz18_0
     try clear hfz30_0
     try clear hfz32_0
     try clear hfz40_0
     try clear hfz45_0
     try clear hfz48_0
     try clear hfz8_0
     obtain ⟨kq, x70_27, rfl, HA, HJ27, HO_10, HO_13, HO_14, HO_15, HO_568000, BK547, BK567, HB⟩ := hcut
     cases kq with
     | zero => exact absurd HA.out (by simp [laws_FnExactWithExcept.j0])
     | succ kj27 =>
      have H := HA.out
      clear HA
      simp only [laws_FnExactWithExcept.j0] at H
      by_cases c60 : x70_27 = true
      ·subst c60
       have H1 : (some false) = some r := by rw [if_pos rfl] at H; exact H
       clear H
       have H := H1
       clear H1
       exact absurd ((Option.some.inj H).trans hT) Bool.false_ne_true
      ·replace c60 := Bool.eq_false_iff.mpr c60
       subst c60
       have H1 : ((laws_toTree.f kj27 l0_0).bind fun t579 => ((laws_eqTree.f kj27 t564 t579).bind fun t582 => (if t582 = true then ((laws_toLineS.f kj27 l1).bind fun t583 => ((laws_eqLineS.f kj27 t568 t583).bind fun t586 => (if t586 = true then ((laws_toLineS.f kj27 l3).bind fun t587 => ((laws_eqLineS.f kj27 t571 t587).bind fun t590 => (if t590 = true then ((laws_markTree.f kj27 t564 1).bind fun bt591 => ((laws_markLineS.f kj27 t568 bt591.1).bind fun bt593 => ((laws_markLineS.f kj27 t571 bt593.1).bind fun bt595 => (if bt595.1 < 0 then (laws_FnExactWithExcept.j1 kj27 l1 a2 l3 t560 t563 t574 true l0_0) else ((laws_eqLineS.f kj27 t574 t560).bind fun t597 => (if t597 = true then (laws_FnExactWithExcept.j1 kj27 l1 a2 l3 t560 t563 t574 (t577 != t563) l0_0) else (laws_FnExactWithExcept.j1 kj27 l1 a2 l3 t560 t563 t574 true l0_0))))))) else (some false)))) else (some false)))) else (some false)))) = some r := by rw [if_neg (show ¬ (false = true) by decide)] at H; exact H
       clear H
       have H := H1
       clear H1
       replace H := Option.bind_eq_some_iff.mp H
       obtain ⟨t579, A610, H⟩ := H
       replace H : ((laws_eqTree.f kj27 t564 t579).bind fun t582 => (if t582 = true then ((laws_toLineS.f kj27 l1).bind fun t583 => ((laws_eqLineS.f kj27 t568 t583).bind fun t586 => (if t586 = true then ((laws_toLineS.f kj27 l3).bind fun t587 => ((laws_eqLineS.f kj27 t571 t587).bind fun t590 => (if t590 = true then ((laws_markTree.f kj27 t564 1).bind fun bt591 => ((laws_markLineS.f kj27 t568 bt591.1).bind fun bt593 => ((laws_markLineS.f kj27 t571 bt593.1).bind fun bt595 => (if bt595.1 < 0 then (laws_FnExactWithExcept.j1 kj27 l1 a2 l3 t560 t563 t574 true l0_0) else ((laws_eqLineS.f kj27 t574 t560).bind fun t597 => (if t597 = true then (laws_FnExactWithExcept.j1 kj27 l1 a2 l3 t560 t563 t574 (t577 != t563) l0_0) else (laws_FnExactWithExcept.j1 kj27 l1 a2 l3 t560 t563 t574 true l0_0))))))) else (some false)))) else (some false)))) else (some false))) = some r := H
       have A61 := am A610
       clear A610
       replace H := Option.bind_eq_some_iff.mp H
       obtain ⟨t582, A620, H⟩ := H
       replace H : (if t582 = true then ((laws_toLineS.f kj27 l1).bind fun t583 => ((laws_eqLineS.f kj27 t568 t583).bind fun t586 => (if t586 = true then ((laws_toLineS.f kj27 l3).bind fun t587 => ((laws_eqLineS.f kj27 t571 t587).bind fun t590 => (if t590 = true then ((laws_markTree.f kj27 t564 1).bind fun bt591 => ((laws_markLineS.f kj27 t568 bt591.1).bind fun bt593 => ((laws_markLineS.f kj27 t571 bt593.1).bind fun bt595 => (if bt595.1 < 0 then (laws_FnExactWithExcept.j1 kj27 l1 a2 l3 t560 t563 t574 true l0_0) else ((laws_eqLineS.f kj27 t574 t560).bind fun t597 => (if t597 = true then (laws_FnExactWithExcept.j1 kj27 l1 a2 l3 t560 t563 t574 (t577 != t563) l0_0) else (laws_FnExactWithExcept.j1 kj27 l1 a2 l3 t560 t563 t574 true l0_0))))))) else (some false)))) else (some false)))) else (some false)) = some r := H
       have A62 := am A620
       clear A620
       by_cases c63 : t582 = true
       ·subst c63
        have H1 : ((laws_toLineS.f kj27 l1).bind fun t583 => ((laws_eqLineS.f kj27 t568 t583).bind fun t586 => (if t586 = true then ((laws_toLineS.f kj27 l3).bind fun t587 => ((laws_eqLineS.f kj27 t571 t587).bind fun t590 => (if t590 = true then ((laws_markTree.f kj27 t564 1).bind fun bt591 => ((laws_markLineS.f kj27 t568 bt591.1).bind fun bt593 => ((laws_markLineS.f kj27 t571 bt593.1).bind fun bt595 => (if bt595.1 < 0 then (laws_FnExactWithExcept.j1 kj27 l1 a2 l3 t560 t563 t574 true l0_0) else ((laws_eqLineS.f kj27 t574 t560).bind fun t597 => (if t597 = true then (laws_FnExactWithExcept.j1 kj27 l1 a2 l3 t560 t563 t574 (t577 != t563) l0_0) else (laws_FnExactWithExcept.j1 kj27 l1 a2 l3 t560 t563 t574 true l0_0))))))) else (some false)))) else (some false)))) = some r := by rw [if_pos rfl] at H; exact H
        clear H
        have H := H1
        clear H1
        replace H := Option.bind_eq_some_iff.mp H
        obtain ⟨t583, A640, H⟩ := H
        replace H : ((laws_eqLineS.f kj27 t568 t583).bind fun t586 => (if t586 = true then ((laws_toLineS.f kj27 l3).bind fun t587 => ((laws_eqLineS.f kj27 t571 t587).bind fun t590 => (if t590 = true then ((laws_markTree.f kj27 t564 1).bind fun bt591 => ((laws_markLineS.f kj27 t568 bt591.1).bind fun bt593 => ((laws_markLineS.f kj27 t571 bt593.1).bind fun bt595 => (if bt595.1 < 0 then (laws_FnExactWithExcept.j1 kj27 l1 a2 l3 t560 t563 t574 true l0_0) else ((laws_eqLineS.f kj27 t574 t560).bind fun t597 => (if t597 = true then (laws_FnExactWithExcept.j1 kj27 l1 a2 l3 t560 t563 t574 (t577 != t563) l0_0) else (laws_FnExactWithExcept.j1 kj27 l1 a2 l3 t560 t563 t574 true l0_0))))))) else (some false)))) else (some false))) = some r := H
        have A64 := am A640
        clear A640
        replace H := Option.bind_eq_some_iff.mp H
        obtain ⟨t586, A650, H⟩ := H
        replace H : (if t586 = true then ((laws_toLineS.f kj27 l3).bind fun t587 => ((laws_eqLineS.f kj27 t571 t587).bind fun t590 => (if t590 = true then ((laws_markTree.f kj27 t564 1).bind fun bt591 => ((laws_markLineS.f kj27 t568 bt591.1).bind fun bt593 => ((laws_markLineS.f kj27 t571 bt593.1).bind fun bt595 => (if bt595.1 < 0 then (laws_FnExactWithExcept.j1 kj27 l1 a2 l3 t560 t563 t574 true l0_0) else ((laws_eqLineS.f kj27 t574 t560).bind fun t597 => (if t597 = true then (laws_FnExactWithExcept.j1 kj27 l1 a2 l3 t560 t563 t574 (t577 != t563) l0_0) else (laws_FnExactWithExcept.j1 kj27 l1 a2 l3 t560 t563 t574 true l0_0))))))) else (some false)))) else (some false)) = some r := H
        have A65 := am A650
        clear A650
        by_cases c66 : t586 = true
        ·subst c66
         have H1 : ((laws_toLineS.f kj27 l3).bind fun t587 => ((laws_eqLineS.f kj27 t571 t587).bind fun t590 => (if t590 = true then ((laws_markTree.f kj27 t564 1).bind fun bt591 => ((laws_markLineS.f kj27 t568 bt591.1).bind fun bt593 => ((laws_markLineS.f kj27 t571 bt593.1).bind fun bt595 => (if bt595.1 < 0 then (laws_FnExactWithExcept.j1 kj27 l1 a2 l3 t560 t563 t574 true l0_0) else ((laws_eqLineS.f kj27 t574 t560).bind fun t597 => (if t597 = true then (laws_FnExactWithExcept.j1 kj27 l1 a2 l3 t560 t563 t574 (t577 != t563) l0_0) else (laws_FnExactWithExcept.j1 kj27 l1 a2 l3 t560 t563 t574 true l0_0))))))) else (some false)))) = some r := by rw [if_pos rfl] at H; exact H
         clear H
         have H := H1
         clear H1
         replace H := Option.bind_eq_some_iff.mp H
         obtain ⟨t587, A670, H⟩ := H
         replace H : ((laws_eqLineS.f kj27 t571 t587).bind fun t590 => (if t590 = true then ((laws_markTree.f kj27 t564 1).bind fun bt591 => ((laws_markLineS.f kj27 t568 bt591.1).bind fun bt593 => ((laws_markLineS.f kj27 t571 bt593.1).bind fun bt595 => (if bt595.1 < 0 then (laws_FnExactWithExcept.j1 kj27 l1 a2 l3 t560 t563 t574 true l0_0) else ((laws_eqLineS.f kj27 t574 t560).bind fun t597 => (if t597 = true then (laws_FnExactWithExcept.j1 kj27 l1 a2 l3 t560 t563 t574 (t577 != t563) l0_0) else (laws_FnExactWithExcept.j1 kj27 l1 a2 l3 t560 t563 t574 true l0_0))))))) else (some false))) = some r := H
         have A67 := am A670
         clear A670
         replace H := Option.bind_eq_some_iff.mp H
         obtain ⟨t590, A680, H⟩ := H
         replace H : (if t590 = true then ((laws_markTree.f kj27 t564 1).bind fun bt591 => ((laws_markLineS.f kj27 t568 bt591.1).bind fun bt593 => ((laws_markLineS.f kj27 t571 bt593.1).bind fun bt595 => (if bt595.1 < 0 then (laws_FnExactWithExcept.j1 kj27 l1 a2 l3 t560 t563 t574 true l0_0) else ((laws_eqLineS.f kj27 t574 t560).bind fun t597 => (if t597 = true then (laws_FnExactWithExcept.j1 kj27 l1 a2 l3 t560 t563 t574 (t577 != t563) l0_0) else (laws_FnExactWithExcept.j1 kj27 l1 a2 l3 t560 t563 t574 true l0_0))))))) else (some false)) = some r := H
         have A68 := am A680
         clear A680
         by_cases c69 : t590 = true
         ·subst c69
          have H1 : ((laws_markTree.f kj27 t564 1).bind fun bt591 => ((laws_markLineS.f kj27 t568 bt591.1).bind fun bt593 => ((laws_markLineS.f kj27 t571 bt593.1).bind fun bt595 => (if bt595.1 < 0 then (laws_FnExactWithExcept.j1 kj27 l1 a2 l3 t560 t563 t574 true l0_0) else ((laws_eqLineS.f kj27 t574 t560).bind fun t597 => (if t597 = true then (laws_FnExactWithExcept.j1 kj27 l1 a2 l3 t560 t563 t574 (t577 != t563) l0_0) else (laws_FnExactWithExcept.j1 kj27 l1 a2 l3 t560 t563 t574 true l0_0))))))) = some r := by rw [if_pos rfl] at H; exact H
          clear H
          have H := H1
          clear H1
          replace H := Option.bind_eq_some_iff.mp H
          obtain ⟨⟨t591, t592⟩, A700, H⟩ := H
          replace H : ((laws_markLineS.f kj27 t568 t591).bind fun bt593 => ((laws_markLineS.f kj27 t571 bt593.1).bind fun bt595 => (if bt595.1 < 0 then (laws_FnExactWithExcept.j1 kj27 l1 a2 l3 t560 t563 t574 true l0_0) else ((laws_eqLineS.f kj27 t574 t560).bind fun t597 => (if t597 = true then (laws_FnExactWithExcept.j1 kj27 l1 a2 l3 t560 t563 t574 (t577 != t563) l0_0) else (laws_FnExactWithExcept.j1 kj27 l1 a2 l3 t560 t563 t574 true l0_0)))))) = some r := H
          have A70 := am A700
          clear A700
          replace H := Option.bind_eq_some_iff.mp H
          obtain ⟨⟨t593, t594⟩, A710, H⟩ := H
          replace H : ((laws_markLineS.f kj27 t571 t593).bind fun bt595 => (if bt595.1 < 0 then (laws_FnExactWithExcept.j1 kj27 l1 a2 l3 t560 t563 t574 true l0_0) else ((laws_eqLineS.f kj27 t574 t560).bind fun t597 => (if t597 = true then (laws_FnExactWithExcept.j1 kj27 l1 a2 l3 t560 t563 t574 (t577 != t563) l0_0) else (laws_FnExactWithExcept.j1 kj27 l1 a2 l3 t560 t563 t574 true l0_0))))) = some r := H
          have A71 := am A710
          clear A710
          replace H := Option.bind_eq_some_iff.mp H
          obtain ⟨⟨t595, t596⟩, A720, H⟩ := H
          replace H : (if t595 < 0 then (laws_FnExactWithExcept.j1 kj27 l1 a2 l3 t560 t563 t574 true l0_0) else ((laws_eqLineS.f kj27 t574 t560).bind fun t597 => (if t597 = true then (laws_FnExactWithExcept.j1 kj27 l1 a2 l3 t560 t563 t574 (t577 != t563) l0_0) else (laws_FnExactWithExcept.j1 kj27 l1 a2 l3 t560 t563 t574 true l0_0)))) = some r := H
          have A72 := am A720
          clear A720
          have HC73 := am H
          clear H
          try go_wp2
          replace HO_10 := am (Kd.R_drew HO_10.out)
          replace HO_13 := am (Kd.R_drew HO_13.out)
          replace HO_14 := am (Kd.R_drew HO_14.out)
          replace HO_15 := am (Kd.R_drew HO_15.out)
          replace HO_568000 := am (Kd.R_drew HO_568000.out)
          replace BK547 := am (blk_drew BK547.out)
          replace BK567 := am (blk_drew BK567.out)
          replace HB := am (below_drew1 HB.out)
          refine start_ (n := 5) (S := fun w' => w'.cell? ⟨gb567, 0, none⟩ = some (.slice Ao43 t564.length co43) ∧ w'.cell? ⟨gb547, 0, none⟩ = some (.slice A0_0 l0_0.length c0_0)) (ds := []) #[false, false, false, false, false] (by kernel_rfl) rfl rfl ⟨(blk_cell BK567.out 0).trans rfl, (blk_cell BK547.out 0).trans rfl⟩ (fun hHeld => ?_)
          generalize wc.drew = w74 at HO_10 HO_13 HO_14 HO_15 HO_568000 BK547 BK567 HB hHeld ⊢
          refine take_ (i := 0) (N := some 71) (v := ?_) (a' := ?_) #[true, false, false, false, false] rfl rfl (by kernel_rfl) (fun _ _ _ h => h) (Or.inl ⟨by rfl, ?_⟩) hHeld ?_ ?_
          rotate_left
          ·rintro w' ⟨s0, s1⟩
           go_simp
           with_reducible rfl
          rotate_left
          ·exact sa
          refine take_ (i := 1) (N := some 72) (v := ?_) (a' := ?_) #[true, true, false, false, false] rfl rfl (by kernel_rfl) (fun _ _ _ h => h) (Or.inl ⟨by rfl, ?_⟩) hHeld ?_ ?_
          rotate_left
          ·rintro w' ⟨s0, s1⟩
           go_simp
           with_reducible rfl
          rotate_left
          ·exact sa
          refine one_ (i := 2) (N := some 73) #[true, true, true, false, false] rfl rfl (by kernel_rfl) (by decide) (fun K hK => ?_)
          refine goes_ Try.func10 (by kernel_rfl) rfl #[.agg #[.slice A0_0 l0_0.length c0_0]] (by rfl) rfl rfl (aq) ?_
          with_reducible refine (laws_toTree.calls kj27 _ _ l0_0 t579 _ ?side1 ?side2 A61.out).mono ?_
          (case side1 => exact cq (Kd.C_below HR0_0.out HB.out))
          (case side2 => exact HC0_0.out)
          rintro e w75 ⟨v580, rfl, ho0, hb⟩
          refine ⟨_, rfl, ?_⟩
          have HO581 := am (Kd.R_lower (Kd.R_new' ho0 (Kd.R_lt (rq HO_568000.out))) (below_size (Y7)))
          replace HO_10 := am (Kd.R_below (rq HO_10.out) hb)
          replace HO_13 := am (Kd.R_below (rq HO_13.out) hb)
          replace HO_14 := am (Kd.R_below (rq HO_14.out) hb)
          replace HO_15 := am (Kd.R_below (rq HO_15.out) hb)
          replace HO_568000 := am (Kd.R_elder' (rq HO_568000.out) (Kd.R_base ho0) hb)
          replace BK547 := am (blk_below (g := gb547) (o := .cells #[.slice A0_0 l0_0.length c0_0] 24 (0, 0)) (kq BK547.out) hb)
          replace BK567 := am (blk_below (g := gb567) (o := .cells #[.slice Ao43 t564.length co43] 33 (0, 0)) (kq BK567.out) hb)
          replace HB := am (below_step (Y7) hb)
          (try clear hb)
          (try clear hb2)
          (try clear hk)
          (try clear hi)
          (try clear ho0)
          obtain ⟨Ao76, co76, eo76⟩ := Kd.R_slice HO581.out
          (first | subst eo76 | (injection eo76 with f1_ f2_ f3_; have f4_ := f1_.symm; have f5_ := f3_.symm; clear f1_ f2_ f3_; subst f4_; subst f5_))
          refine hK.out _ _ ⟨(blk_cell BK567.out 0).trans rfl, (blk_cell BK547.out 0).trans rfl⟩ (fun hHeld => ?_)
          clear hK K
          refine norm_ (a' := ?_) ?_ ?_
          rotate_left
          ·show Act.put _ (some 73) _ = _
           simp only [Act.put, List.setIfInBounds_toArray, List.set_cons_zero, List.set_cons_succ, i64_w, i32_w]
           rfl
          refine one_ (i := 3) (N := some 74) #[true, true, true, true, false] rfl rfl (by kernel_rfl) (by decide) (fun K hK => ?_)
          refine goes_ Try.func14 (by kernel_rfl) rfl #[.agg #[.slice Ao43 t564.length co43], .agg #[.slice Ao76 t579.length co76]] (by rfl) rfl rfl (aq) ?_
          with_reducible refine (laws_eqTree.calls kj27 _ _ t564 _ _ t579 true _ ?side1 ?side2 ?side3 ?side4 A62.out).mono ?_
          (case side1 => exact cq (Kd.R_reads' HO_568000.out).2.2)
          (case side2 => exact (Kd.R_reads' HO_568000.out).2.1)
          (case side3 => exact cq (Kd.R_reads' HO581.out).2.2)
          (case side4 => exact (Kd.R_reads' HO581.out).2.1)
          rintro e w77 ⟨rfl, hb⟩
          refine ⟨_, rfl, ?_⟩
          replace HO_10 := am (Kd.R_below (rq HO_10.out) hb)
          replace HO_13 := am (Kd.R_below (rq HO_13.out) hb)
          replace HO_14 := am (Kd.R_below (rq HO_14.out) hb)
          replace HO_15 := am (Kd.R_below (rq HO_15.out) hb)
          replace HO_568000 := am (Kd.R_below (rq HO_568000.out) hb)
          replace HO581 := am (Kd.R_below (rq HO581.out) hb)
          replace BK547 := am (blk_below (g := gb547) (o := .cells #[.slice A0_0 l0_0.length c0_0] 24 (0, 0)) (kq BK547.out) hb)
          replace BK567 := am (blk_below (g := gb567) (o := .cells #[.slice Ao43 t564.length co43] 33 (0, 0)) (kq BK567.out) hb)
          replace HB := am (below_step (Y7) hb)
          (try clear hb)
          (try clear hb2)
          (try clear hk)
          (try clear hi)
          refine hK.out _ _ ⟨(blk_cell BK567.out 0).trans rfl, (blk_cell BK547.out 0).trans rfl⟩ (fun hHeld => ?_)
          clear hK K
          refine norm_ (a' := ?_) ?_ ?_
          rotate_left
          ·show Act.put _ (some 74) _ = _
           simp only [Act.put, List.setIfInBounds_toArray, List.set_cons_zero, List.set_cons_succ, i64_w, i32_w]
           rfl
          refine pure_ (i := 4) (N := some 75) (v := ?_) (a' := ?_) #[true, true, true, true, true] rfl rfl (by kernel_rfl) (fun _ _ _ h => h) (Or.inl ⟨by rfl, ?_⟩) ?_ ?_
          rotate_left
          ·exact sb
          rotate_left
          ·exact sa
          refine done_ (by kernel_rfl) ?_
          go_upto_region 28 with (first | ((with_reducible refine gate_callee (f := 11) rfl ?_); refine gL (some 78) Try.func11 #[.slice A1 l1.length c1] ?_; (with_reducible refine (laws_toLineS.calls kj27 _ _ l1 t583 _ ?side1 ?side2 A64.out).mono ?_); (case side1 => exact cq (Kd.C_below HR1.out HB.out)); (case side2 => exact HC1.out); rintro e w78 ⟨v584, rfl, ho0, hb⟩; refine ⟨_, rfl, ?_⟩; have HO585 := am (Kd.R_lower (Kd.R_new' (Kd.R_new' (Kd.R_new' (Kd.R_new' ho0 (Kd.R_lt (rq HO_10.out))) (Kd.R_lt (rq HO_13.out))) (Kd.R_lt (rq HO_14.out))) (Kd.R_lt (rq HO_15.out))) (below_size (Y7))); replace HO_10 := am (Kd.R_elder' (rq HO_10.out) (Kd.R_base ho0) hb); replace HO_13 := am (Kd.R_elder' (rq HO_13.out) (Kd.R_base ho0) hb); replace HO_14 := am (Kd.R_elder' (rq HO_14.out) (Kd.R_base ho0) hb); replace HO_15 := am (Kd.R_elder' (rq HO_15.out) (Kd.R_base ho0) hb); replace HO_568000 := am (Kd.R_below (rq HO_568000.out) hb); replace HO581 := am (Kd.R_below (rq HO581.out) hb); replace BK547 := am (blk_below (g := gb547) (o := .cells #[.slice A0_0 l0_0.length c0_0] 24 (0, 0)) (kq BK547.out) hb); replace BK567 := am (blk_below (g := gb567) (o := .cells #[.slice Ao43 t564.length co43] 33 (0, 0)) (kq BK567.out) hb); replace HB := am (below_step (Y7) hb); (try clear hb); (try clear hb2); (try clear hk); (try clear hi); (try clear ho0); obtain ⟨Ao79, co79, eo79⟩ := Kd.R_slice HO585.out; subst eo79) | ((with_reducible refine gate_callee (f := 13) rfl ?_); refine gL (some 79) Try.func13 #[.slice Ao49 t568.length co49, .slice Ao79 t583.length co79] ?_; (with_reducible refine (laws_eqLineS.calls kj27 _ _ t568 _ _ t583 true _ ?side1 ?side2 ?side3 ?side4 A65.out).mono ?_); (case side1 => exact cq (Kd.R_reads' HO_13.out).2.2); (case side2 => exact (Kd.R_reads' HO_13.out).2.1); (case side3 => exact cq (Kd.R_reads' HO585.out).2.2); (case side4 => exact (Kd.R_reads' HO585.out).2.1); rintro e w80 ⟨rfl, hb⟩; refine ⟨_, rfl, ?_⟩; replace HO_10 := am (Kd.R_below (rq HO_10.out) hb); replace HO_13 := am (Kd.R_below (rq HO_13.out) hb); replace HO_14 := am (Kd.R_below (rq HO_14.out) hb); replace HO_15 := am (Kd.R_below (rq HO_15.out) hb); replace HO_568000 := am (Kd.R_below (rq HO_568000.out) hb); replace HO581 := am (Kd.R_below (rq HO581.out) hb); replace HO585 := am (Kd.R_below (rq HO585.out) hb); replace BK547 := am (blk_below (g := gb547) (o := .cells #[.slice A0_0 l0_0.length c0_0] 24 (0, 0)) (kq BK547.out) hb); replace BK567 := am (blk_below (g := gb567) (o := .cells #[.slice Ao43 t564.length co43] 33 (0, 0)) (kq BK567.out) hb); replace HB := am (below_step (Y7) hb); (try clear hb); (try clear hb2); (try clear hk); (try clear hi)) | ((with_reducible refine gate_callee (f := 11) rfl ?_); refine gL (some 83) Try.func11 #[.slice A3 l3.length c3] ?_; (with_reducible refine (laws_toLineS.calls kj27 _ _ l3 t587 _ ?side1 ?side2 A67.out).mono ?_); (case side1 => exact cq (Kd.C_below HR3.out HB.out)); (case side2 => exact HC3.out); rintro e w81 ⟨v588, rfl, ho0, hb⟩; refine ⟨_, rfl, ?_⟩; have HO589 := am (Kd.R_lower (Kd.R_new' (Kd.R_new' (Kd.R_new' (Kd.R_new' (Kd.R_new' ho0 (Kd.R_lt (rq HO_10.out))) (Kd.R_lt (rq HO_13.out))) (Kd.R_lt (rq HO_14.out))) (Kd.R_lt (rq HO_15.out))) (Kd.R_lt (rq HO585.out))) (below_size (Y7))); replace HO_10 := am (Kd.R_elder' (rq HO_10.out) (Kd.R_base ho0) hb); replace HO_13 := am (Kd.R_elder' (rq HO_13.out) (Kd.R_base ho0) hb); replace HO_14 := am (Kd.R_elder' (rq HO_14.out) (Kd.R_base ho0) hb); replace HO_15 := am (Kd.R_elder' (rq HO_15.out) (Kd.R_base ho0) hb); replace HO_568000 := am (Kd.R_below (rq HO_568000.out) hb); replace HO581 := am (Kd.R_below (rq HO581.out) hb); replace HO585 := am (Kd.R_elder' (rq HO585.out) (Kd.R_base ho0) hb); replace BK547 := am (blk_below (g := gb547) (o := .cells #[.slice A0_0 l0_0.length c0_0] 24 (0, 0)) (kq BK547.out) hb); replace BK567 := am (blk_below (g := gb567) (o := .cells #[.slice Ao43 t564.length co43] 33 (0, 0)) (kq BK567.out) hb); replace HB := am (below_step (Y7) hb); (try clear hb); (try clear hb2); (try clear hk); (try clear hi); (try clear ho0); obtain ⟨Ao82, co82, eo82⟩ := Kd.R_slice HO589.out; subst eo82) | ((with_reducible refine gate_callee (f := 13) rfl ?_); refine gL (some 84) Try.func13 #[.slice Ao50 t571.length co50, .slice Ao82 t587.length co82] ?_; (with_reducible refine (laws_eqLineS.calls kj27 _ _ t571 _ _ t587 true _ ?side1 ?side2 ?side3 ?side4 A68.out).mono ?_); (case side1 => exact cq (Kd.R_reads' HO_14.out).2.2); (case side2 => exact (Kd.R_reads' HO_14.out).2.1); (case side3 => exact cq (Kd.R_reads' HO589.out).2.2); (case side4 => exact (Kd.R_reads' HO589.out).2.1); rintro e w83 ⟨rfl, hb⟩; refine ⟨_, rfl, ?_⟩; replace HO_10 := am (Kd.R_below (rq HO_10.out) hb); replace HO_13 := am (Kd.R_below (rq HO_13.out) hb); replace HO_14 := am (Kd.R_below (rq HO_14.out) hb); replace HO_15 := am (Kd.R_below (rq HO_15.out) hb); replace HO_568000 := am (Kd.R_below (rq HO_568000.out) hb); replace HO581 := am (Kd.R_below (rq HO581.out) hb); replace HO585 := am (Kd.R_below (rq HO585.out) hb); replace HO589 := am (Kd.R_below (rq HO589.out) hb); replace BK547 := am (blk_below (g := gb547) (o := .cells #[.slice A0_0 l0_0.length c0_0] 24 (0, 0)) (kq BK547.out) hb); replace BK567 := am (blk_below (g := gb567) (o := .cells #[.slice Ao43 t564.length co43] 33 (0, 0)) (kq BK567.out) hb); replace HB := am (below_step (Y7) hb); (try clear hb); (try clear hb2); (try clear hk); (try clear hi); have hnb84 := NB567_547.out; have hnc84 := NB547_567.out; have hcz85_0 := bc0 BK567.out; have hfz85_0 := blk_frozen BK567.out 0) | ((with_reducible refine gate_callee (f := 15) rfl ?_); refine gL (some 88) Try.func15 #[.agg #[.slice Ao43 t564.length co43], .int .i64 1] ?_; (with_reducible refine (laws_markTree.calls kj27 (fun k_ => some k_ = (.slice Ao43 t564.length co43 : Value).ownBlock) (.slice Ao43 t564.length co43) t564 1 t591 t592 w _ ?side1 ?side2 A70.out).mono ?_); (case side1 => exact Y7); (case side2 => exact Kd.R_tight rfl HO_568000.out); rintro e w86 ⟨rfl, hy0, hb, hkp⟩; refine ⟨_, rfl, ?_⟩; replace HO_10 := am (Kd.R_mono (ok' := fun k_ => some k_ ≠ (.slice Ao49 t568.length co49 : Value).ownBlock ∧ some k_ ≠ (.slice Ao50 t571.length co50 : Value).ownBlock ∧ some k_ ≠ (v575 : Value).ownBlock ∧ some k_ ≠ (.slice Ao79 t583.length co79 : Value).ownBlock ∧ some k_ ≠ (.slice Ao82 t587.length co82 : Value).ownBlock) (Kd.R_keptB ((Kd.R_apart' HO_10.out (Kd.R_typed HO_568000.out) (by decide))) hkp (fun k_ hk_ hs_ => (hk_.2) hs_)) (fun k_ hk_ => ⟨hk_.1.1.1.1.1, hk_.1.1.1.1.2.1, hk_.1.1.1.1.2.2, hk_.1.1.1.2, hk_.1.1.2⟩)); replace HO_13 := am (Kd.R_mono (ok' := fun k_ => some k_ ≠ (v561 : Value).ownBlock ∧ some k_ ≠ (.slice Ao50 t571.length co50 : Value).ownBlock ∧ some k_ ≠ (v575 : Value).ownBlock ∧ some k_ ≠ (.slice Ao79 t583.length co79 : Value).ownBlock ∧ some k_ ≠ (.slice Ao82 t587.length co82 : Value).ownBlock) (Kd.R_keptB ((Kd.R_apart' HO_13.out (Kd.R_typed HO_568000.out) (by decide))) hkp (fun k_ hk_ hs_ => (hk_.2) hs_)) (fun k_ hk_ => ⟨hk_.1.1.1.1.1, hk_.1.1.1.1.2.1, hk_.1.1.1.1.2.2, hk_.1.1.1.2, hk_.1.1.2⟩)); replace HO_14 := am (Kd.R_mono (ok' := fun k_ => some k_ ≠ (v561 : Value).ownBlock ∧ some k_ ≠ (.slice Ao49 t568.length co49 : Value).ownBlock ∧ some k_ ≠ (v575 : Value).ownBlock ∧ some k_ ≠ (.slice Ao79 t583.length co79 : Value).ownBlock ∧ some k_ ≠ (.slice Ao82 t587.length co82 : Value).ownBlock) (Kd.R_keptB ((Kd.R_apart' HO_14.out (Kd.R_typed HO_568000.out) (by decide))) hkp (fun k_ hk_ hs_ => (hk_.2) hs_)) (fun k_ hk_ => ⟨hk_.1.1.1.1.1, hk_.1.1.1.1.2.1, hk_.1.1.1.1.2.2, hk_.1.1.1.2, hk_.1.1.2⟩)); replace HO_15 := am (Kd.R_mono (ok' := fun k_ => some k_ ≠ (v561 : Value).ownBlock ∧ some k_ ≠ (.slice Ao49 t568.length co49 : Value).ownBlock ∧ some k_ ≠ (.slice Ao50 t571.length co50 : Value).ownBlock ∧ some k_ ≠ (.slice Ao79 t583.length co79 : Value).ownBlock ∧ some k_ ≠ (.slice Ao82 t587.length co82 : Value).ownBlock) (Kd.R_keptB ((Kd.R_apart' HO_15.out (Kd.R_typed HO_568000.out) (by decide))) hkp (fun k_ hk_ hs_ => (hk_.2) hs_)) (fun k_ hk_ => ⟨hk_.1.1.1.1.1, hk_.1.1.1.1.2.1, hk_.1.1.1.1.2.2, hk_.1.1.1.2, hk_.1.1.2⟩)); replace BK547 := am (blk_kept (kq BK547.out) hkp (fun hs_ => (fun e_ => (Kd.R_ne HO_568000.out BK547.out (by decide)) e_) hs_)); replace BK567 := am (blk_kept (kq BK567.out) hkp (fun hs_ => (fun e_ => (Kd.R_ne HO_568000.out BK567.out (by decide)) e_) hs_)); replace HO581 := am (Kd.R_mono (ok' := fun k_ => some k_ ≠ (.slice Ao43 t564.length co43 : Value).ownBlock) (Kd.R_keptB (HO581.out) hkp (fun k_ hk_ hs_ => (hk_.2) hs_)) (fun k_ hk_ => hk_.1.2)); replace HO585 := am (Kd.R_mono (ok' := fun k_ => some k_ ≠ (v561 : Value).ownBlock ∧ some k_ ≠ (.slice Ao49 t568.length co49 : Value).ownBlock ∧ some k_ ≠ (.slice Ao50 t571.length co50 : Value).ownBlock ∧ some k_ ≠ (v575 : Value).ownBlock ∧ some k_ ≠ (.slice Ao82 t587.length co82 : Value).ownBlock) (Kd.R_keptB ((Kd.R_apart' HO585.out (Kd.R_typed HO_568000.out) (by decide))) hkp (fun k_ hk_ hs_ => (hk_.2) hs_)) (fun k_ hk_ => ⟨hk_.1.1.1.1.1.1.2, hk_.1.1.1.1.1.2, hk_.1.1.1.1.2, hk_.1.1.1.2, hk_.1.1.2⟩)); replace HO589 := am (Kd.R_mono (ok' := fun k_ => some k_ ≠ (v561 : Value).ownBlock ∧ some k_ ≠ (.slice Ao49 t568.length co49 : Value).ownBlock ∧ some k_ ≠ (.slice Ao50 t571.length co50 : Value).ownBlock ∧ some k_ ≠ (v575 : Value).ownBlock ∧ some k_ ≠ (.slice Ao79 t583.length co79 : Value).ownBlock) (Kd.R_keptB ((Kd.R_apart' HO589.out (Kd.R_typed HO_568000.out) (by decide))) hkp (fun k_ hk_ hs_ => (hk_.2) hs_)) (fun k_ hk_ => ⟨hk_.1.1.1.1.1.1.2, hk_.1.1.1.1.1.2, hk_.1.1.1.1.2, hk_.1.1.1.2, hk_.1.1.2⟩)); replace HO_568000 := am (Kd.R_reok rfl hy0 (fun k_ e_ => HO_568000.out.1 k_ e_)); replace HB := am (hb); (try clear hb); (try clear hkp); (try clear hy0)) | ((with_reducible refine gate_callee (f := 16) rfl ?_); refine gL (some 91) Try.func16 #[.slice Ao49 t568.length co49, .int .i64 t591] ?_; (with_reducible refine (laws_markLineS.calls kj27 (fun k_ => some k_ = (.slice Ao49 t568.length co49 : Value).ownBlock) (.slice Ao49 t568.length co49) t568 t591 t593 t594 w _ ?side1 ?side2 A71.out).mono ?_); (case side1 => exact Y7); (case side2 => exact Kd.R_tight rfl HO_13.out); rintro e w87 ⟨rfl, hy0, hb, hkp⟩; refine ⟨_, rfl, ?_⟩; replace HO_10 := am (Kd.R_mono (ok' := fun k_ => some k_ ≠ (.slice Ao49 t568.length co49 : Value).ownBlock ∧ some k_ ≠ (.slice Ao50 t571.length co50 : Value).ownBlock ∧ some k_ ≠ (v575 : Value).ownBlock ∧ some k_ ≠ (.slice Ao79 t583.length co79 : Value).ownBlock ∧ some k_ ≠ (.slice Ao82 t587.length co82 : Value).ownBlock) (Kd.R_keptB (HO_10.out) hkp (fun k_ hk_ hs_ => (hk_.1) hs_)) (fun k_ hk_ => ⟨hk_.1.1, hk_.1.2.1, hk_.1.2.2.1, hk_.1.2.2.2.1, hk_.1.2.2.2.2⟩)); replace HO_14 := am (Kd.R_mono (ok' := fun k_ => some k_ ≠ (v561 : Value).ownBlock ∧ some k_ ≠ (.slice Ao49 t568.length co49 : Value).ownBlock ∧ some k_ ≠ (v575 : Value).ownBlock ∧ some k_ ≠ (.slice Ao79 t583.length co79 : Value).ownBlock ∧ some k_ ≠ (.slice Ao82 t587.length co82 : Value).ownBlock) (Kd.R_keptB (HO_14.out) hkp (fun k_ hk_ hs_ => (hk_.2.1) hs_)) (fun k_ hk_ => ⟨hk_.1.1, hk_.1.2.1, hk_.1.2.2.1, hk_.1.2.2.2.1, hk_.1.2.2.2.2⟩)); replace HO_15 := am (Kd.R_mono (ok' := fun k_ => some k_ ≠ (v561 : Value).ownBlock ∧ some k_ ≠ (.slice Ao49 t568.length co49 : Value).ownBlock ∧ some k_ ≠ (.slice Ao50 t571.length co50 : Value).ownBlock ∧ some k_ ≠ (.slice Ao79 t583.length co79 : Value).ownBlock ∧ some k_ ≠ (.slice Ao82 t587.length co82 : Value).ownBlock) (Kd.R_keptB (HO_15.out) hkp (fun k_ hk_ hs_ => (hk_.2.1) hs_)) (fun k_ hk_ => ⟨hk_.1.1, hk_.1.2.1, hk_.1.2.2.1, hk_.1.2.2.2.1, hk_.1.2.2.2.2⟩)); replace HO_568000 := am (Kd.R_mono (ok' := fun k_ => some k_ ≠ (.slice Ao76 t579.length co76 : Value).ownBlock) (Kd.R_keptB ((Kd.R_apart' HO_568000.out (Kd.R_typed HO_13.out) (by decide))) hkp (fun k_ hk_ hs_ => (hk_.2) hs_)) (fun k_ hk_ => hk_.1.1.2)); replace BK547 := am (blk_kept (kq BK547.out) hkp (fun hs_ => (fun e_ => (Kd.R_ne HO_13.out BK547.out (by decide)) e_) hs_)); replace BK567 := am (blk_kept (kq BK567.out) hkp (fun hs_ => (fun e_ => (Kd.R_ne HO_13.out BK567.out (by decide)) e_) hs_)); replace HO581 := am (Kd.R_mono (ok' := fun k_ => some k_ ≠ (.slice Ao43 t564.length co43 : Value).ownBlock) (Kd.R_keptB ((Kd.R_apart' HO581.out (Kd.R_typed HO_13.out) (by decide))) hkp (fun k_ hk_ hs_ => (hk_.2) hs_)) (fun k_ hk_ => hk_.1.1)); replace HO_13 := am (Kd.R_reok rfl hy0 (fun k_ e_ => HO_13.out.1 k_ e_)); replace HO585 := am (Kd.R_mono (ok' := fun k_ => some k_ ≠ (v561 : Value).ownBlock ∧ some k_ ≠ (.slice Ao49 t568.length co49 : Value).ownBlock ∧ some k_ ≠ (.slice Ao50 t571.length co50 : Value).ownBlock ∧ some k_ ≠ (v575 : Value).ownBlock ∧ some k_ ≠ (.slice Ao82 t587.length co82 : Value).ownBlock) (Kd.R_keptB (HO585.out) hkp (fun k_ hk_ hs_ => (hk_.2.1) hs_)) (fun k_ hk_ => ⟨hk_.1.1, hk_.1.2.1, hk_.1.2.2.1, hk_.1.2.2.2.1, hk_.1.2.2.2.2⟩)); replace HO589 := am (Kd.R_mono (ok' := fun k_ => some k_ ≠ (v561 : Value).ownBlock ∧ some k_ ≠ (.slice Ao49 t568.length co49 : Value).ownBlock ∧ some k_ ≠ (.slice Ao50 t571.length co50 : Value).ownBlock ∧ some k_ ≠ (v575 : Value).ownBlock ∧ some k_ ≠ (.slice Ao79 t583.length co79 : Value).ownBlock) (Kd.R_keptB (HO589.out) hkp (fun k_ hk_ hs_ => (hk_.2.1) hs_)) (fun k_ hk_ => ⟨hk_.1.1, hk_.1.2.1, hk_.1.2.2.1, hk_.1.2.2.2.1, hk_.1.2.2.2.2⟩)); replace HB := am (hb); (try clear hb); (try clear hkp); (try clear hy0)) | ((with_reducible refine gate_callee (f := 16) rfl ?_); refine gL (some 94) Try.func16 #[.slice Ao50 t571.length co50, .int .i64 t593] ?_; (with_reducible refine (laws_markLineS.calls kj27 (fun k_ => some k_ = (.slice Ao50 t571.length co50 : Value).ownBlock) (.slice Ao50 t571.length co50) t571 t593 t595 t596 w _ ?side1 ?side2 A72.out).mono ?_); (case side1 => exact Y7); (case side2 => exact Kd.R_tight rfl HO_14.out); rintro e w88 ⟨rfl, hy0, hb, hkp⟩; refine ⟨_, rfl, ?_⟩; replace HO_10 := am (Kd.R_mono (ok' := fun k_ => some k_ ≠ (.slice Ao49 t568.length co49 : Value).ownBlock ∧ some k_ ≠ (.slice Ao50 t571.length co50 : Value).ownBlock ∧ some k_ ≠ (v575 : Value).ownBlock ∧ some k_ ≠ (.slice Ao79 t583.length co79 : Value).ownBlock ∧ some k_ ≠ (.slice Ao82 t587.length co82 : Value).ownBlock) (Kd.R_keptB (HO_10.out) hkp (fun k_ hk_ hs_ => (hk_.2.1) hs_)) (fun k_ hk_ => ⟨hk_.1.1, hk_.1.2.1, hk_.1.2.2.1, hk_.1.2.2.2.1, hk_.1.2.2.2.2⟩)); replace HO_13 := am (Kd.R_mono (ok' := fun k_ => some k_ ≠ (v561 : Value).ownBlock ∧ some k_ ≠ (.slice Ao50 t571.length co50 : Value).ownBlock ∧ some k_ ≠ (v575 : Value).ownBlock ∧ some k_ ≠ (.slice Ao79 t583.length co79 : Value).ownBlock ∧ some k_ ≠ (.slice Ao82 t587.length co82 : Value).ownBlock) (Kd.R_keptB (HO_13.out) hkp (fun k_ hk_ hs_ => (hk_.2.1) hs_)) (fun k_ hk_ => ⟨hk_.1.1, hk_.1.2.1, hk_.1.2.2.1, hk_.1.2.2.2.1, hk_.1.2.2.2.2⟩)); replace HO_15 := am (Kd.R_mono (ok' := fun k_ => some k_ ≠ (v561 : Value).ownBlock ∧ some k_ ≠ (.slice Ao49 t568.length co49 : Value).ownBlock ∧ some k_ ≠ (.slice Ao50 t571.length co50 : Value).ownBlock ∧ some k_ ≠ (.slice Ao79 t583.length co79 : Value).ownBlock ∧ some k_ ≠ (.slice Ao82 t587.length co82 : Value).ownBlock) (Kd.R_keptB (HO_15.out) hkp (fun k_ hk_ hs_ => (hk_.2.2.1) hs_)) (fun k_ hk_ => ⟨hk_.1.1, hk_.1.2.1, hk_.1.2.2.1, hk_.1.2.2.2.1, hk_.1.2.2.2.2⟩)); replace HO_568000 := am (Kd.R_mono (ok' := fun k_ => some k_ ≠ (.slice Ao76 t579.length co76 : Value).ownBlock) (Kd.R_keptB ((Kd.R_apart' HO_568000.out (Kd.R_typed HO_14.out) (by decide))) hkp (fun k_ hk_ hs_ => (hk_.2) hs_)) (fun k_ hk_ => hk_.1.1)); replace BK547 := am (blk_kept (kq BK547.out) hkp (fun hs_ => (fun e_ => (Kd.R_ne HO_14.out BK547.out (by decide)) e_) hs_)); replace BK567 := am (blk_kept (kq BK567.out) hkp (fun hs_ => (fun e_ => (Kd.R_ne HO_14.out BK567.out (by decide)) e_) hs_)); replace HO581 := am (Kd.R_mono (ok' := fun k_ => some k_ ≠ (.slice Ao43 t564.length co43 : Value).ownBlock) (Kd.R_keptB ((Kd.R_apart' HO581.out (Kd.R_typed HO_14.out) (by decide))) hkp (fun k_ hk_ hs_ => (hk_.2) hs_)) (fun k_ hk_ => hk_.1.1)); replace HO_14 := am (Kd.R_reok rfl hy0 (fun k_ e_ => HO_14.out.1 k_ e_)); replace HO585 := am (Kd.R_mono (ok' := fun k_ => some k_ ≠ (v561 : Value).ownBlock ∧ some k_ ≠ (.slice Ao49 t568.length co49 : Value).ownBlock ∧ some k_ ≠ (.slice Ao50 t571.length co50 : Value).ownBlock ∧ some k_ ≠ (v575 : Value).ownBlock ∧ some k_ ≠ (.slice Ao82 t587.length co82 : Value).ownBlock) (Kd.R_keptB (HO585.out) hkp (fun k_ hk_ hs_ => (hk_.2.2.1) hs_)) (fun k_ hk_ => ⟨hk_.1.1, hk_.1.2.1, hk_.1.2.2.1, hk_.1.2.2.2.1, hk_.1.2.2.2.2⟩)); replace HO589 := am (Kd.R_mono (ok' := fun k_ => some k_ ≠ (v561 : Value).ownBlock ∧ some k_ ≠ (.slice Ao49 t568.length co49 : Value).ownBlock ∧ some k_ ≠ (.slice Ao50 t571.length co50 : Value).ownBlock ∧ some k_ ≠ (v575 : Value).ownBlock ∧ some k_ ≠ (.slice Ao79 t583.length co79 : Value).ownBlock) (Kd.R_keptB (HO589.out) hkp (fun k_ hk_ hs_ => (hk_.2.2.1) hs_)) (fun k_ hk_ => ⟨hk_.1.1, hk_.1.2.1, hk_.1.2.2.1, hk_.1.2.2.2.1, hk_.1.2.2.2.2⟩)); replace HB := am (hb); (try clear hb); (try clear hkp); (try clear hy0)))
          (try simp only [Act.put, List.setIfInBounds_toArray, List.set_cons_zero, List.set_cons_succ])
          go_cut [107] (fun v107 wc => ∃ (kq : Nat) (x107_72 : Bool), v107 = .bool x107_72 ∧ Aside0 (laws_FnExactWithExcept.j1 kq l1 a2 l3 t560 t563 t574 x107_72 l0_0 = some r) ∧ Aside0 (kq ≤ kj27) ∧ Aside0 (Kd.R k50 50 wc w.heap.size (fun k_ => some k_ ≠ (v575 : Value).ownBlock) v561 t560) ∧ Aside0 (Kd.R k50 50 wc w.heap.size (fun k_ => some k_ ≠ (v561 : Value).ownBlock) v575 t574) ∧ Aside0 (Kd.R k63 63 wc w.heap.size (fun _ => True) (.slice Ao43 t564.length co43) t592) ∧ Aside0 (wc.heap[gb547]? = some (.cells #[(.slice A0_0 l0_0.length c0_0)] 24 (0, 0))) ∧ Aside0 (wc.heap[gb567]? = some (.cells #[(.slice Ao43 t564.length co43)] 33 (0, 0))) ∧ Aside0 (Below w.heap.size w wc))
          case first =>
           have H := HC73.out
           clear HC73
           by_cases c89 : t595 < 0
           ·rw [if_pos c89] at H
            have c89b0 : decide (t595 < 0) = true := decide_eq_true c89
            clear c89
            (first | rw [c89b0] | (simp only [i64_w, i32_w]; rw [c89b0]) | skip)
            have H' := am H
            clear H
            go_wp2
            go_meet
            case rel => exact ⟨_, (true), (sq), H', ⟨by have := HJ27.out; first | omega | exact Nat.le_refl _⟩, ⟨by (with_reducible repeat (first | apply Kd.R_alloc | apply Kd.R_drewN | apply Kd.R_drew)); exact Kd.R_mono HO_10.out (fun _ hk => hk.2.2.1)⟩, ⟨by (with_reducible repeat (first | apply Kd.R_alloc | apply Kd.R_drewN | apply Kd.R_drew)); exact Kd.R_mono HO_15.out (fun _ hk => hk.1)⟩, ⟨by (with_reducible repeat (first | apply Kd.R_alloc | apply Kd.R_drewN | apply Kd.R_drew)); exact Kd.R_mono HO_568000.out (fun _ hk => trivial)⟩, ⟨kq BK547.out⟩, ⟨kq BK567.out⟩, ⟨Y7⟩⟩
           ·rw [if_neg c89] at H
            have c89b0 : decide (t595 < 0) = false := decide_eq_false c89
            clear c89
            (first | rw [c89b0] | (simp only [i64_w, i32_w]; rw [c89b0]) | skip)
            replace H := Option.bind_eq_some_iff.mp H
            obtain ⟨t597, A900, H⟩ := H
            replace H : (if t597 = true then (laws_FnExactWithExcept.j1 kj27 l1 a2 l3 t560 t563 t574 (t577 != t563) l0_0) else (laws_FnExactWithExcept.j1 kj27 l1 a2 l3 t560 t563 t574 true l0_0)) = some r := H
            have A90 := am A900
            clear A900
            by_cases c91 : t597 = true
            ·subst c91
             have H1 : (laws_FnExactWithExcept.j1 kj27 l1 a2 l3 t560 t563 t574 (t577 != t563) l0_0) = some r := by rw [if_pos rfl] at H; exact H
             clear H
             have H := H1
             clear H1
             have H' := am H
             clear H
             obtain ⟨Ao92, co92, eo92⟩ := Kd.R_slice HO_15.out
             subst eo92
             obtain ⟨Ao93, co93, eo93⟩ := Kd.R_slice HO_10.out
             subst eo93
             go_wp2_with (first | (go_at_call 13; (with_reducible refine (laws_eqLineS.calls kj27 _ _ t574 _ _ t560 true _ ?side1 ?side2 ?side3 ?side4 A90.out).mono ?_); (case side1 => exact cq (Kd.R_reads' HO_15.out).2.2); (case side2 => exact (Kd.R_reads' HO_15.out).2.1); (case side3 => exact cq (Kd.R_reads' HO_10.out).2.2); (case side4 => exact (Kd.R_reads' HO_10.out).2.1); rintro e w94 ⟨rfl, hb⟩; replace HO_10 := am (Kd.R_below (rq HO_10.out) hb); replace HO_13 := am (Kd.R_below (rq HO_13.out) hb); replace HO_14 := am (Kd.R_below (rq HO_14.out) hb); replace HO_15 := am (Kd.R_below (rq HO_15.out) hb); replace HO_568000 := am (Kd.R_below (rq HO_568000.out) hb); replace HO581 := am (Kd.R_below (rq HO581.out) hb); replace HO585 := am (Kd.R_below (rq HO585.out) hb); replace HO589 := am (Kd.R_below (rq HO589.out) hb); replace BK547 := am (blk_below (g := gb547) (o := .cells #[.slice A0_0 l0_0.length c0_0] 24 (0, 0)) (kq BK547.out) hb); replace BK567 := am (blk_below (g := gb567) (o := .cells #[.slice Ao43 t564.length co43] 33 (0, 0)) (kq BK567.out) hb); replace HB := am (below_step (Y7) hb); (try clear hb); (try clear hb2); (try clear hk); (try clear hi)))
             go_meet
             case rel => exact ⟨_, ((t577 != t563)), (sq), H', ⟨by have := HJ27.out; first | omega | exact Nat.le_refl _⟩, ⟨by (with_reducible repeat (first | apply Kd.R_alloc | apply Kd.R_drewN | apply Kd.R_drew)); exact Kd.R_mono HO_10.out (fun _ hk => hk.2.2.1)⟩, ⟨by (with_reducible repeat (first | apply Kd.R_alloc | apply Kd.R_drewN | apply Kd.R_drew)); exact Kd.R_mono HO_15.out (fun _ hk => hk.1)⟩, ⟨by (with_reducible repeat (first | apply Kd.R_alloc | apply Kd.R_drewN | apply Kd.R_drew)); exact Kd.R_mono HO_568000.out (fun _ hk => trivial)⟩, ⟨kq BK547.out⟩, ⟨kq BK567.out⟩, ⟨Y7⟩⟩
            ·replace c91 := Bool.eq_false_iff.mpr c91
             subst c91
             have H1 : (laws_FnExactWithExcept.j1 kj27 l1 a2 l3 t560 t563 t574 true l0_0) = some r := by rw [if_neg (show ¬ (false = true) by decide)] at H; exact H
             clear H
             have H := H1
             clear H1
             have H' := am H
             clear H
             obtain ⟨Ao95, co95, eo95⟩ := Kd.R_slice HO_15.out
             subst eo95
             obtain ⟨Ao96, co96, eo96⟩ := Kd.R_slice HO_10.out
             subst eo96
             go_wp2_with (first | (go_at_call 13; (with_reducible refine (laws_eqLineS.calls kj27 _ _ t574 _ _ t560 false _ ?side1 ?side2 ?side3 ?side4 A90.out).mono ?_); (case side1 => exact cq (Kd.R_reads' HO_15.out).2.2); (case side2 => exact (Kd.R_reads' HO_15.out).2.1); (case side3 => exact cq (Kd.R_reads' HO_10.out).2.2); (case side4 => exact (Kd.R_reads' HO_10.out).2.1); rintro e w97 ⟨rfl, hb⟩; replace HO_10 := am (Kd.R_below (rq HO_10.out) hb); replace HO_13 := am (Kd.R_below (rq HO_13.out) hb); replace HO_14 := am (Kd.R_below (rq HO_14.out) hb); replace HO_15 := am (Kd.R_below (rq HO_15.out) hb); replace HO_568000 := am (Kd.R_below (rq HO_568000.out) hb); replace HO581 := am (Kd.R_below (rq HO581.out) hb); replace HO585 := am (Kd.R_below (rq HO585.out) hb); replace HO589 := am (Kd.R_below (rq HO589.out) hb); replace BK547 := am (blk_below (g := gb547) (o := .cells #[.slice A0_0 l0_0.length c0_0] 24 (0, 0)) (kq BK547.out) hb); replace BK567 := am (blk_below (g := gb567) (o := .cells #[.slice Ao43 t564.length co43] 33 (0, 0)) (kq BK567.out) hb); replace HB := am (below_step (Y7) hb); (try clear hb); (try clear hb2); (try clear hk); (try clear hi)))
             go_meet
             case rel => exact ⟨_, (true), (sq), H', ⟨by have := HJ27.out; first | omega | exact Nat.le_refl _⟩, ⟨by (with_reducible repeat (first | apply Kd.R_alloc | apply Kd.R_drewN | apply Kd.R_drew)); exact Kd.R_mono HO_10.out (fun _ hk => hk.2.2.1)⟩, ⟨by (with_reducible repeat (first | apply Kd.R_alloc | apply Kd.R_drewN | apply Kd.R_drew)); exact Kd.R_mono HO_15.out (fun _ hk => hk.1)⟩, ⟨by (with_reducible repeat (first | apply Kd.R_alloc | apply Kd.R_drewN | apply Kd.R_drew)); exact Kd.R_mono HO_568000.out (fun _ hk => trivial)⟩, ⟨kq BK547.out⟩, ⟨kq BK567.out⟩, ⟨Y7⟩⟩
          case rest =>
           clear HC73
           try clear c1
           try clear c2
           try clear p2
           try clear c3
           try clear c4
           try clear c5
           try clear c6
           try clear c6b0
           try clear c7
           try clear c8
           try clear c9
           try clear c10
           try clear c11
           try clear c11b0
           try clear c13
           try clear c14
           try clear c15
           try clear c16
           try clear c16b0
           try clear c20
           try clear c21
           try clear c44
           try clear c53
           try clear c60
           try clear c63
           try clear c66
           try clear c69
           try clear c84
           try clear c89
           try clear c89b0
           try clear c91
           try clear hcz13_0
           try clear hcz18_0
           try clear hcz30_0
           try clear hcz32_0
           try clear hcz40_0
           try clear hcz45_0
           try clear hcz48_0
           try clear hcz85_0
           try clear hcz8_0
           try clear hfz13_0
           try clear hfz18_0
           try clear hfz30_0
           try clear hfz32_0
           try clear hfz40_0
           try clear hfz45_0
           try clear hfz48_0
           try clear hfz85_0
           try clear hfz8_0
           try clear p2
           obtain ⟨kq, x107_72, rfl, HA, HJ72, HO_10, HO_15, HO_568000, BK547, BK567, HB⟩ := hcut
           have hl568000_72 := (Kd.R_reads' HO_568000.out).1
           rw [hl568000_72] at HO_568000
           (try simp only [hl568000_72])
           (try simp only [hl568000_72] at BK547)
           (try simp only [hl568000_72] at BK567)
           (try simp only [hl568000_72] at HO_10)
           (try simp only [hl568000_72] at HO_15)
           cases kq with
           | zero => exact absurd HA.out (by simp [laws_FnExactWithExcept.j1])
           | succ kj72 =>
            have H := HA.out
            clear HA
            simp only [laws_FnExactWithExcept.j1] at H
            by_cases c98 : x107_72 = true
            ·subst c98
             have H1 : (some false) = some r := by rw [if_pos rfl] at H; exact H
             clear H
             have H := H1
             clear H1
             exact absurd ((Option.some.inj H).trans hT) Bool.false_ne_true
            ·replace c98 := Bool.eq_false_iff.mpr c98
             subst c98
             have H1 : ((laws_markLineS.f kj72 t574 1).bind fun bt598 => ((laws_heldLineS.f kj72 bt598.2 1).bind fun t600 => (if t600 < 0 then (some false) else (if t600 = bt598.1 then ((laws_toTree.f kj72 l0_0).bind fun t601 => ((laws_toLineS.f kj72 l1).bind fun t604 => ((laws_toLineS.f kj72 l3).bind fun t607 => ((impl_WithExcept.f kj72 t601 t604 a2 t607).bind fun bt610 => ((laws_eqLineS.f kj72 bt610.1 t560).bind fun t614 => (if t614 = true then (laws_FnExactWithExcept.j2 kj72 bt598.2 bt598.1 (bt610.2 != t563)) else (laws_FnExactWithExcept.j2 kj72 bt598.2 bt598.1 true))))))) else (some false))))) = some r := by rw [if_neg (show ¬ (false = true) by decide)] at H; exact H
             clear H
             have H := H1
             clear H1
             replace H := Option.bind_eq_some_iff.mp H
             obtain ⟨⟨t598, t599⟩, A990, H⟩ := H
             replace H : ((laws_heldLineS.f kj72 t599 1).bind fun t600 => (if t600 < 0 then (some false) else (if t600 = t598 then ((laws_toTree.f kj72 l0_0).bind fun t601 => ((laws_toLineS.f kj72 l1).bind fun t604 => ((laws_toLineS.f kj72 l3).bind fun t607 => ((impl_WithExcept.f kj72 t601 t604 a2 t607).bind fun bt610 => ((laws_eqLineS.f kj72 bt610.1 t560).bind fun t614 => (if t614 = true then (laws_FnExactWithExcept.j2 kj72 t599 t598 (bt610.2 != t563)) else (laws_FnExactWithExcept.j2 kj72 t599 t598 true))))))) else (some false)))) = some r := H
             have A99 := am A990
             clear A990
             replace H := Option.bind_eq_some_iff.mp H
             obtain ⟨t600, A1000, H⟩ := H
             replace H : (if t600 < 0 then (some false) else (if t600 = t598 then ((laws_toTree.f kj72 l0_0).bind fun t601 => ((laws_toLineS.f kj72 l1).bind fun t604 => ((laws_toLineS.f kj72 l3).bind fun t607 => ((impl_WithExcept.f kj72 t601 t604 a2 t607).bind fun bt610 => ((laws_eqLineS.f kj72 bt610.1 t560).bind fun t614 => (if t614 = true then (laws_FnExactWithExcept.j2 kj72 t599 t598 (bt610.2 != t563)) else (laws_FnExactWithExcept.j2 kj72 t599 t598 true))))))) else (some false))) = some r := H
             have A100 := am A1000
             clear A1000
             by_cases c101 : t600 < 0
             ·rw [if_pos c101] at H
              have c101b0 : decide (t600 < 0) = true := decide_eq_true c101
              clear c101
              exact absurd ((Option.some.inj H).trans hT) Bool.false_ne_true
             ·rw [if_neg c101] at H
              have c101b0 : decide (t600 < 0) = false := decide_eq_false c101
              clear c101
              by_cases c102 : t600 = t598
              ·rw [if_pos c102] at H
               have c102b0 : (t600 == t598) = true := beq_iff_eq.mpr c102
               have c102b1 : (t600 != t598) = false := bne_eq_false_iff_eq.mpr c102
               clear c102
               replace H := Option.bind_eq_some_iff.mp H
               obtain ⟨t601, A1030, H⟩ := H
               replace H : ((laws_toLineS.f kj72 l1).bind fun t604 => ((laws_toLineS.f kj72 l3).bind fun t607 => ((impl_WithExcept.f kj72 t601 t604 a2 t607).bind fun bt610 => ((laws_eqLineS.f kj72 bt610.1 t560).bind fun t614 => (if t614 = true then (laws_FnExactWithExcept.j2 kj72 t599 t598 (bt610.2 != t563)) else (laws_FnExactWithExcept.j2 kj72 t599 t598 true)))))) = some r := H
               have A103 := am A1030
               clear A1030
               replace H := Option.bind_eq_some_iff.mp H
               obtain ⟨t604, A1040, H⟩ := H
               replace H : ((laws_toLineS.f kj72 l3).bind fun t607 => ((impl_WithExcept.f kj72 t601 t604 a2 t607).bind fun bt610 => ((laws_eqLineS.f kj72 bt610.1 t560).bind fun t614 => (if t614 = true then (laws_FnExactWithExcept.j2 kj72 t599 t598 (bt610.2 != t563)) else (laws_FnExactWithExcept.j2 kj72 t599 t598 true))))) = some r := H
               have A104 := am A1040
               clear A1040
               replace H := Option.bind_eq_some_iff.mp H
               obtain ⟨t607, A1050, H⟩ := H
               replace H : ((impl_WithExcept.f kj72 t601 t604 a2 t607).bind fun bt610 => ((laws_eqLineS.f kj72 bt610.1 t560).bind fun t614 => (if t614 = true then (laws_FnExactWithExcept.j2 kj72 t599 t598 (bt610.2 != t563)) else (laws_FnExactWithExcept.j2 kj72 t599 t598 true)))) = some r := H
               have A105 := am A1050
               clear A1050
               replace H := Option.bind_eq_some_iff.mp H
               obtain ⟨⟨t610, t613⟩, A1060, H⟩ := H
               replace H : ((laws_eqLineS.f kj72 t610 t560).bind fun t614 => (if t614 = true then (laws_FnExactWithExcept.j2 kj72 t599 t598 (t613 != t563)) else (laws_FnExactWithExcept.j2 kj72 t599 t598 true))) = some r := H
               have A106 := am A1060
               clear A1060
               have HC107 := am H
               clear H
               obtain ⟨Ao108, co108, eo108⟩ := Kd.R_slice HO_15.out
               subst eo108
               go_upto_region 39 with (first | ((with_reducible refine gate_callee (f := 16) rfl ?_); refine gL (some 110) Try.func16 #[.slice Ao108 t574.length co108, .int .i64 1] ?_; (with_reducible refine (laws_markLineS.calls kj72 (fun k_ => some k_ = (.slice Ao108 t574.length co108 : Value).ownBlock) (.slice Ao108 t574.length co108) t574 1 t598 t599 w _ ?side1 ?side2 A99.out).mono ?_); (case side1 => exact Y7); (case side2 => exact Kd.R_tight rfl HO_15.out); rintro e w109 ⟨rfl, hy0, hb, hkp⟩; refine ⟨_, rfl, ?_⟩; replace HO_10 := am (Kd.R_mono (ok' := fun k_ => some k_ ≠ (.slice Ao108 t574.length co108 : Value).ownBlock) (Kd.R_keptB (HO_10.out) hkp (fun k_ hk_ hs_ => (hk_) hs_)) (fun k_ hk_ => hk_.1)); replace HO_568000 := am (Kd.R_mono (ok' := fun k_ => True) (Kd.R_keptB ((Kd.R_apart' HO_568000.out (Kd.R_typed HO_15.out) (by decide))) hkp (fun k_ hk_ hs_ => (hk_.2) hs_)) (fun k_ hk_ => trivial)); replace BK547 := am (blk_kept (kq BK547.out) hkp (fun hs_ => (fun e_ => (Kd.R_ne HO_15.out BK547.out (by decide)) e_) hs_)); replace BK567 := am (blk_kept (kq BK567.out) hkp (fun hs_ => (fun e_ => (Kd.R_ne HO_15.out BK567.out (by decide)) e_) hs_)); replace HO_15 := am (Kd.R_reok rfl hy0 (fun k_ e_ => HO_15.out.1 k_ e_)); replace HB := am (hb); (try clear hb); (try clear hkp); (try clear hy0)) | ((with_reducible refine gate_callee (f := 17) rfl ?_); refine goesL_ (some 113) rfl rfl Try.func17 (by kernel_rfl) rfl #[.slice Ao108 t599.length co108, .int .i64 1] rfl (by (try simp only [List.map_toArray, List.map_cons, List.map_nil]); first | done | (rw [show t599.length = t574.length from (Kd.R_reads' HO_15.out).1.symm] <;> rfl) | rfl | (simp only [List.length_drop, List.length_take]; rfl)) ?_; (with_reducible refine (laws_heldLineS.calls kj72 _ _ t599 1 t600 _ ?side1 ?side2 A100.out).mono ?_); (case side1 => exact cq (Kd.R_reads' HO_15.out).2.2); (case side2 => rw [show t599.length = t574.length from (Kd.R_reads' HO_15.out).1.symm]; exact (Kd.R_reads' HO_15.out).2.1); rintro e w' ⟨rfl, ⟨nd, rfl⟩⟩; refine ⟨_, rfl, ?_⟩; have hnb110 := NB547_567.out; have hnc110 := NB567_547.out; have hcz111_0 := bc0 BK547.out; have hfz111_0 := blk_frozen BK547.out 0) | ((with_reducible refine gate_callee (f := 10) rfl ?_); refine gL (some 121) Try.func10 #[.agg #[.slice A0_0 l0_0.length c0_0]] ?_; (with_reducible refine (laws_toTree.calls kj72 _ _ l0_0 t601 _ ?side1 ?side2 A103.out).mono ?_); (case side1 => repeat (first | exact (Kd.C_below HR0_0.out (by repeat (first | (with_reducible first | exact HB.out | apply below_alloc | apply pw_below_drewN | apply below_drew1 | refine below_set ?_ GE547.out | refine below_set ?_ GE567.out) | exact HB.out))) | (with_reducible refine Kd.C_alloc ?_ _) | (with_reducible refine Kd.C_drewN ?_ _) | (with_reducible refine Kd.C_drew ?_))); (case side2 => exact HC0_0.out); rintro e w112 ⟨v602, rfl, ho0, hb⟩; refine ⟨_, rfl, ?_⟩; have HO603 := am (Kd.R_lower (Kd.R_new' ho0 (Kd.R_lt (rq HO_568000.out))) (below_size (Y7))); replace HO_10 := am (Kd.R_below (rq HO_10.out) hb); replace HO_15 := am (Kd.R_below (rq HO_15.out) hb); replace HO_568000 := am (Kd.R_elder' (rq HO_568000.out) (Kd.R_base ho0) hb); replace BK547 := am (blk_below (g := gb547) (o := .cells #[.slice A0_0 l0_0.length c0_0] 24 (0, 0)) (kq BK547.out) hb); replace BK567 := am (blk_below (g := gb567) (o := .cells #[.slice Ao43 t592.length co43] 33 (0, 0)) (kq BK567.out) hb); replace HB := am (below_step (Y7) hb); (try clear hb); (try clear hb2); (try clear hk); (try clear hi); (try clear ho0)) | ((with_reducible refine gate_callee (f := 11) rfl ?_); refine gL (some 123) Try.func11 #[.slice A1 l1.length c1] ?_; (with_reducible refine (laws_toLineS.calls kj72 _ _ l1 t604 _ ?side1 ?side2 A104.out).mono ?_); (case side1 => exact cq (Kd.C_below HR1.out HB.out)); (case side2 => exact HC1.out); rintro e w113 ⟨v605, rfl, ho0, hb⟩; refine ⟨_, rfl, ?_⟩; have HO606 := am (Kd.R_lower (Kd.R_new' (Kd.R_new' ho0 (Kd.R_lt (rq HO_10.out))) (Kd.R_lt (rq HO_15.out))) (below_size (Y7))); replace HO_10 := am (Kd.R_elder' (rq HO_10.out) (Kd.R_base ho0) hb); replace HO_15 := am (Kd.R_elder' (rq HO_15.out) (Kd.R_base ho0) hb); replace HO_568000 := am (Kd.R_below (rq HO_568000.out) hb); replace HO603 := am (Kd.R_below (rq HO603.out) hb); replace BK547 := am (blk_below (g := gb547) (o := .cells #[.slice A0_0 l0_0.length c0_0] 24 (0, 0)) (kq BK547.out) hb); replace BK567 := am (blk_below (g := gb567) (o := .cells #[.slice Ao43 t592.length co43] 33 (0, 0)) (kq BK567.out) hb); replace HB := am (below_step (Y7) hb); (try clear hb); (try clear hb2); (try clear hk); (try clear hi); (try clear ho0)) | ((with_reducible refine gate_callee (f := 11) rfl ?_); refine gL (some 126) Try.func11 #[.slice A3 l3.length c3] ?_; (with_reducible refine (laws_toLineS.calls kj72 _ _ l3 t607 _ ?side1 ?side2 A105.out).mono ?_); (case side1 => exact cq (Kd.C_below HR3.out HB.out)); (case side2 => exact HC3.out); rintro e w114 ⟨v608, rfl, ho0, hb⟩; refine ⟨_, rfl, ?_⟩; have HO609 := am (Kd.R_lower (Kd.R_new' (Kd.R_new' (Kd.R_new' ho0 (Kd.R_lt (rq HO_10.out))) (Kd.R_lt (rq HO_15.out))) (Kd.R_lt (rq HO606.out))) (below_size (Y7))); replace HO_10 := am (Kd.R_elder' (rq HO_10.out) (Kd.R_base ho0) hb); replace HO_15 := am (Kd.R_elder' (rq HO_15.out) (Kd.R_base ho0) hb); replace HO_568000 := am (Kd.R_below (rq HO_568000.out) hb); replace HO603 := am (Kd.R_below (rq HO603.out) hb); replace HO606 := am (Kd.R_elder' (rq HO606.out) (Kd.R_base ho0) hb); replace BK547 := am (blk_below (g := gb547) (o := .cells #[.slice A0_0 l0_0.length c0_0] 24 (0, 0)) (kq BK547.out) hb); replace BK567 := am (blk_below (g := gb567) (o := .cells #[.slice Ao43 t592.length co43] 33 (0, 0)) (kq BK567.out) hb); replace HB := am (below_step (Y7) hb); (try clear hb); (try clear hb2); (try clear hk); (try clear hi); (try clear ho0); obtain ⟨Ao115, co115, eo115⟩ := Kd.R_slice HO603.out; subst eo115; obtain ⟨Ao116, co116, eo116⟩ := Kd.R_slice HO606.out; subst eo116; obtain ⟨Ao117, co117, eo117⟩ := Kd.R_slice HO609.out; subst eo117) | ((with_reducible refine gate_callee (f := 21) rfl ?_); refine gL (some 127) Try.func21 #[.agg #[.slice Ao115 t601.length co115], .slice Ao116 t604.length co116, .int .i64 a2, .slice Ao117 t607.length co117] ?_; (with_reducible refine (impl_WithExcept.calls kj72 _ _ t601 _ _ t604 a2 _ _ t607 t610 t613 _ ?side1 ?side2 ?side3 ?side4 ?side5 ?side6 A106.out).mono ?_); (case side1 => exact cq (Kd.R_reads' HO603.out).2.2); (case side2 => exact (Kd.R_reads' HO603.out).2.1); (case side3 => exact cq (Kd.R_reads' HO606.out).2.2); (case side4 => exact (Kd.R_reads' HO606.out).2.1); (case side5 => exact cq (Kd.R_reads' HO609.out).2.2); (case side6 => exact (Kd.R_reads' HO609.out).2.1); rintro e w118 ⟨v611, rfl, ho0, hb⟩; refine ⟨_, rfl, ?_⟩; have HO612 := am (Kd.R_lower (Kd.R_new' (Kd.R_new' (Kd.R_new' (Kd.R_new' ho0 (Kd.R_lt (rq HO_10.out))) (Kd.R_lt (rq HO_15.out))) (Kd.R_lt (rq HO606.out))) (Kd.R_lt (rq HO609.out))) (below_size (Y7))); replace HO_10 := am (Kd.R_elder' (rq HO_10.out) (Kd.R_base ho0) hb); replace HO_15 := am (Kd.R_elder' (rq HO_15.out) (Kd.R_base ho0) hb); replace HO_568000 := am (Kd.R_below (rq HO_568000.out) hb); replace HO603 := am (Kd.R_below (rq HO603.out) hb); replace HO606 := am (Kd.R_elder' (rq HO606.out) (Kd.R_base ho0) hb); replace HO609 := am (Kd.R_elder' (rq HO609.out) (Kd.R_base ho0) hb); replace BK547 := am (blk_below (g := gb547) (o := .cells #[.slice A0_0 l0_0.length c0_0] 24 (0, 0)) (kq BK547.out) hb); replace BK567 := am (blk_below (g := gb567) (o := .cells #[.slice Ao43 t592.length co43] 33 (0, 0)) (kq BK567.out) hb); replace HB := am (below_step (Y7) hb); (try clear hb); (try clear hb2); (try clear hk); (try clear hi); (try clear ho0)))
               (try simp only [Act.put, List.setIfInBounds_toArray, List.set_cons_zero, List.set_cons_succ])
               go_cut [138] (fun v138 wc => ∃ (kq : Nat) (x138_106 : Bool), v138 = .bool x138_106 ∧ Aside0 (laws_FnExactWithExcept.j2 kq t599 t598 x138_106 = some r) ∧ Aside0 (kq ≤ kj72) ∧ Aside0 (Kd.R k50 50 wc w.heap.size (fun _ => True) (.slice Ao108 t574.length co108) t599) ∧ Aside0 (Kd.R k63 63 wc w.heap.size (fun _ => True) (.slice Ao43 t592.length co43) t592) ∧ Aside0 (wc.heap[gb547]? = some (.cells #[(.slice A0_0 l0_0.length c0_0)] 24 (0, 0))) ∧ Aside0 (wc.heap[gb567]? = some (.cells #[(.slice Ao43 t592.length co43)] 33 (0, 0))) ∧ Aside0 (Below w.heap.size w wc))
               case first =>
                have H := HC107.out
                clear HC107
                replace H := Option.bind_eq_some_iff.mp H
                obtain ⟨t614, A1190, H⟩ := H
                replace H : (if t614 = true then (laws_FnExactWithExcept.j2 kj72 t599 t598 (t613 != t563)) else (laws_FnExactWithExcept.j2 kj72 t599 t598 true)) = some r := H
                have A119 := am A1190
                clear A1190
                by_cases c120 : t614 = true
                ·subst c120
                 have H1 : (laws_FnExactWithExcept.j2 kj72 t599 t598 (t613 != t563)) = some r := by rw [if_pos rfl] at H; exact H
                 clear H
                 have H := H1
                 clear H1
                 have H' := am H
                 clear H
                 obtain ⟨Ao121, co121, eo121⟩ := Kd.R_slice HO612.out
                 subst eo121
                 obtain ⟨Ao122, co122, eo122⟩ := Kd.R_slice HO_10.out
                 subst eo122
                 go_wp2_with (first | ((with_reducible refine gate_callee (f := 13) rfl ?_); refine gL (some 132) Try.func13 #[.slice Ao121 t610.length co121, .slice Ao122 t560.length co122] ?_; (with_reducible refine (laws_eqLineS.calls kj72 _ _ t610 _ _ t560 true _ ?side1 ?side2 ?side3 ?side4 A119.out).mono ?_); (case side1 => exact cq (Kd.R_reads' HO612.out).2.2); (case side2 => exact (Kd.R_reads' HO612.out).2.1); (case side3 => exact cq (Kd.R_reads' HO_10.out).2.2); (case side4 => exact (Kd.R_reads' HO_10.out).2.1); rintro e w123 ⟨rfl, hb⟩; refine ⟨_, rfl, ?_⟩; replace HO_10 := am (Kd.R_below (rq HO_10.out) hb); replace HO_15 := am (Kd.R_below (rq HO_15.out) hb); replace HO_568000 := am (Kd.R_below (rq HO_568000.out) hb); replace HO603 := am (Kd.R_below (rq HO603.out) hb); replace HO606 := am (Kd.R_below (rq HO606.out) hb); replace HO609 := am (Kd.R_below (rq HO609.out) hb); replace HO612 := am (Kd.R_below (rq HO612.out) hb); replace BK547 := am (blk_below (g := gb547) (o := .cells #[.slice A0_0 l0_0.length c0_0] 24 (0, 0)) (kq BK547.out) hb); replace BK567 := am (blk_below (g := gb567) (o := .cells #[.slice Ao43 t592.length co43] 33 (0, 0)) (kq BK567.out) hb); replace HB := am (below_step (Y7) hb); (try clear hb); (try clear hb2); (try clear hk); (try clear hi)))
                 go_meet
                 case rel => exact ⟨_, ((t613 != t563)), (sq), H', ⟨by have := HJ27.out; have := HJ72.out; first | omega | exact Nat.le_refl _⟩, ⟨by (try simp only [hl568000_72]); (with_reducible repeat (first | apply Kd.R_alloc | apply Kd.R_drewN | apply Kd.R_drew)); exact Kd.R_mono HO_15.out (fun _ hk => trivial)⟩, ⟨by (try simp only [hl568000_72]); (with_reducible repeat (first | apply Kd.R_alloc | apply Kd.R_drewN | apply Kd.R_drew)); exact Kd.R_mono HO_568000.out (fun _ hk => trivial)⟩, ⟨by (try simp only [hl568000_72]); (with_reducible repeat (first | refine blk_drewN ?_ _ | refine blk_drew ?_ | refine blk_alloc ?_ _)); exact BK547.out⟩, ⟨by (try simp only [hl568000_72]); (with_reducible repeat (first | refine blk_drewN ?_ _ | refine blk_drew ?_ | refine blk_alloc ?_ _)); exact BK567.out⟩, ⟨Y7⟩⟩
                ·replace c120 := Bool.eq_false_iff.mpr c120
                 subst c120
                 have H1 : (laws_FnExactWithExcept.j2 kj72 t599 t598 true) = some r := by rw [if_neg (show ¬ (false = true) by decide)] at H; exact H
                 clear H
                 have H := H1
                 clear H1
                 have H' := am H
                 clear H
                 obtain ⟨Ao124, co124, eo124⟩ := Kd.R_slice HO612.out
                 subst eo124
                 obtain ⟨Ao125, co125, eo125⟩ := Kd.R_slice HO_10.out
                 subst eo125
                 go_wp2_with (first | ((with_reducible refine gate_callee (f := 13) rfl ?_); refine gL (some 132) Try.func13 #[.slice Ao124 t610.length co124, .slice Ao125 t560.length co125] ?_; (with_reducible refine (laws_eqLineS.calls kj72 _ _ t610 _ _ t560 false _ ?side1 ?side2 ?side3 ?side4 A119.out).mono ?_); (case side1 => exact cq (Kd.R_reads' HO612.out).2.2); (case side2 => exact (Kd.R_reads' HO612.out).2.1); (case side3 => exact cq (Kd.R_reads' HO_10.out).2.2); (case side4 => exact (Kd.R_reads' HO_10.out).2.1); rintro e w126 ⟨rfl, hb⟩; refine ⟨_, rfl, ?_⟩; replace HO_10 := am (Kd.R_below (rq HO_10.out) hb); replace HO_15 := am (Kd.R_below (rq HO_15.out) hb); replace HO_568000 := am (Kd.R_below (rq HO_568000.out) hb); replace HO603 := am (Kd.R_below (rq HO603.out) hb); replace HO606 := am (Kd.R_below (rq HO606.out) hb); replace HO609 := am (Kd.R_below (rq HO609.out) hb); replace HO612 := am (Kd.R_below (rq HO612.out) hb); replace BK547 := am (blk_below (g := gb547) (o := .cells #[.slice A0_0 l0_0.length c0_0] 24 (0, 0)) (kq BK547.out) hb); replace BK567 := am (blk_below (g := gb567) (o := .cells #[.slice Ao43 t592.length co43] 33 (0, 0)) (kq BK567.out) hb); replace HB := am (below_step (Y7) hb); (try clear hb); (try clear hb2); (try clear hk); (try clear hi)))
                 go_meet
                 case rel => exact ⟨_, (true), (sq), H', ⟨by have := HJ27.out; have := HJ72.out; first | omega | exact Nat.le_refl _⟩, ⟨by (try simp only [hl568000_72]); (with_reducible repeat (first | apply Kd.R_alloc | apply Kd.R_drewN | apply Kd.R_drew)); exact Kd.R_mono HO_15.out (fun _ hk => trivial)⟩, ⟨by (try simp only [hl568000_72]); (with_reducible repeat (first | apply Kd.R_alloc | apply Kd.R_drewN | apply Kd.R_drew)); exact Kd.R_mono HO_568000.out (fun _ hk => trivial)⟩, ⟨by (try simp only [hl568000_72]); (with_reducible repeat (first | refine blk_drewN ?_ _ | refine blk_drew ?_ | refine blk_alloc ?_ _)); exact BK547.out⟩, ⟨by (try simp only [hl568000_72]); (with_reducible repeat (first | refine blk_drewN ?_ _ | refine blk_drew ?_ | refine blk_alloc ?_ _)); exact BK567.out⟩, ⟨Y7⟩⟩
               case rest =>
                clear HC107
                try clear c1
                try clear c2
                try clear p2
                try clear c3
                try clear c4
                try clear c5
                try clear c6
                try clear c6b0
                try clear c7
                try clear c8
                try clear c9
                try clear c10
                try clear c11
                try clear c11b0
                try clear c12
                try clear c13
                try clear c14
                try clear c15
                try clear c16
                try clear c16b0
                try clear c17
                try clear c20
                try clear c21
                try clear c44
                try clear c53
                try clear c60
                try clear c63
                try clear c66
                try clear c69
                try clear c84
                try clear c89
                try clear c89b0
                try clear c91
                try clear c98
                try clear c101
                try clear c101b0
                try clear c102
                try clear c102b0
                try clear c102b1
                try clear c110
                try clear c120
                try clear hcz111_0
                try clear hcz13_0
                try clear hcz18_0
                try clear hcz30_0
                try clear hcz32_0
                try clear hcz40_0
                try clear hcz45_0
                try clear hcz48_0
                try clear hcz85_0
                try clear hcz8_0
                try clear hfz111_0
                try clear hfz13_0
                try clear hfz18_0
                try clear hfz30_0
                try clear hfz32_0
                try clear hfz40_0
                try clear hfz45_0
                try clear hfz48_0
                try clear hfz85_0
                try clear hfz8_0
                try clear p2
                obtain ⟨kq, x138_106, rfl, HA, HJ106, HO_15, HO_568000, BK547, BK567, HB⟩ := hcut
                have hl15_106 := (Kd.R_reads' HO_15.out).1
                rw [hl15_106] at HO_15
                (try simp only [hl15_106])
                (try simp only [hl15_106] at BK547)
                (try simp only [hl15_106] at BK567)
                (try simp only [hl15_106] at HO_568000)
                cases kq with
                | zero => exact absurd HA.out (by simp [laws_FnExactWithExcept.j2])
                | succ kj106 =>
                 have H := HA.out
                 clear HA
                 simp only [laws_FnExactWithExcept.j2] at H
                 by_cases c127 : x138_106 = true
                 ·subst c127
                  have H1 : (some false) = some r := by rw [if_pos rfl] at H; exact H
                  clear H
                  have H := H1
                  clear H1
                  exact absurd ((Option.some.inj H).trans hT) Bool.false_ne_true
                 ·replace c127 := Bool.eq_false_iff.mpr c127
                  subst c127
                  have H1 : ((laws_heldLineS.f kj106 t599 1).bind fun t615 => (if t615 < 0 then (some false) else (if t615 = t598 then (some true) else (some false)))) = some r := by rw [if_neg (show ¬ (false = true) by decide)] at H; exact H
                  clear H
                  have H := H1
                  clear H1
                  replace H := Option.bind_eq_some_iff.mp H
                  obtain ⟨t615, A1280, H⟩ := H
                  replace H : (if t615 < 0 then (some false) else (if t615 = t598 then (some true) else (some false))) = some r := H
                  have A128 := am A1280
                  clear A1280
                  by_cases c129 : t615 < 0
                  ·rw [if_pos c129] at H
                   have c129b0 : decide (t615 < 0) = true := decide_eq_true c129
                   clear c129
                   exact absurd ((Option.some.inj H).trans hT) Bool.false_ne_true
                  ·rw [if_neg c129] at H
                   have c129b0 : decide (t615 < 0) = false := decide_eq_false c129
                   clear c129
                   by_cases c130 : t615 = t598
                   ·rw [if_pos c130] at H
                    have c130b0 : (t615 == t598) = true := beq_iff_eq.mpr c130
                    have c130b1 : (t615 != t598) = false := bne_eq_false_iff_eq.mpr c130
                    clear c130
                    obtain rfl := Option.some.inj H
                    go_wp2_with (first | ((with_reducible refine gate_callee (f := 17) rfl ?_); refine gL (some 141) Try.func17 #[.slice Ao108 t599.length co108, .int .i64 1] ?_; (with_reducible refine (laws_heldLineS.calls kj106 _ _ t599 1 t615 _ ?side1 ?side2 A128.out).mono ?_); (case side1 => exact cq (Kd.R_reads' HO_15.out).2.2); (case side2 => exact (Kd.R_reads' HO_15.out).2.1); rintro e w' ⟨rfl, ⟨nd, rfl⟩⟩; refine ⟨_, rfl, ?_⟩))
                    go_ret
                    exact ⟨Y1, Y7⟩
                   ·rw [if_neg c130] at H
                    have c130b0 : (t615 == t598) = false := beq_eq_false_iff_ne.mpr c130
                    have c130b1 : (t615 != t598) = true := bne_iff_ne.mpr c130
                    exact absurd ((Option.some.inj H).trans hT) Bool.false_ne_true
              ·rw [if_neg c102] at H
               have c102b0 : (t600 == t598) = false := beq_eq_false_iff_ne.mpr c102
               have c102b1 : (t600 != t598) = true := bne_iff_ne.mpr c102
               exact absurd ((Option.some.inj H).trans hT) Bool.false_ne_true
         ·replace c69 := Bool.eq_false_iff.mpr c69
          subst c69
          have H1 : (some false) = some r := by rw [if_neg (show ¬ (false = true) by decide)] at H; exact H
          clear H
          have H := H1
          clear H1
          exact absurd ((Option.some.inj H).trans hT) Bool.false_ne_true
        ·replace c66 := Bool.eq_false_iff.mpr c66
         subst c66
         have H1 : (some false) = some r := by rw [if_neg (show ¬ (false = true) by decide)] at H; exact H
         clear H
         have H := H1
         clear H1
         exact absurd ((Option.some.inj H).trans hT) Bool.false_ne_true
       ·replace c63 := Bool.eq_false_iff.mpr c63
        subst c63
        have H1 : (some false) = some r := by rw [if_neg (show ¬ (false = true) by decide)] at H; exact H
        clear H
        have H := H1
        clear H1
        exact absurd ((Option.some.inj H).trans hT) Bool.false_ne_true
end Go.Proofs.Ytgbigghiegiejaa.P
end
