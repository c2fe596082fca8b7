/- One part of the proofs on this program: functions of the program as plain functions, that the code comes to them, and facts on them. -/
import Derived.Test.YtkokajljeebgdaaYA1
import Derived.Test.YtkokajljeebgdaaYA2
import Derived.Test.YtkokajljeebgdaaYA3
import Derived.Test.YtkokajljeebgdaaYAll1
import Derived.Test.YtkokajljeebgdaaYWAuto
section
namespace Go.Proofs.Ytkokajljeebgdaa.P
open Go.RowKit Go.Proofs.YtkokajljeebgdaaW.PrintWords Go.Proofs.YtkokajljeebgdaaW.PrintLast Go.Proofs.YtkokajljeebgdaaW.PrintMore
attribute [local go_sem] max2_int min2_int max_two min_two max_three min_three max_four min_four isSome_cell_setCell
set_option linter.unusedVariables false
set_option linter.unusedSimpArgs false
mutual
def laws_FnExactLowerWith.j0 : Nat → List (S64) → List (S52) → Bool → List (S52) → List (S52) → Bool → Bool → List (S84) → List (S87) → Option (Bool)
 | 0, _, _, _, _, _, _, _, _, _ => none
 | k + 1, x1, x6, x7, x9, x10, x11, x53, x603000, x619000 => if x53 = true then (some false) else ((laws_toTree.f k x603000).bind fun t627 => ((laws_eqTree.f k x619000 t627).bind fun t630 => (if t630 = true then ((laws_toLineS.f k x1).bind fun t631 => ((laws_eqLineS.f k x9 t631).bind fun t634 => (if t634 = true then ((laws_markTree.f k x619000 1).bind fun bt635 => ((laws_markLineS.f k x9 bt635.1).bind fun bt637 => (if bt637.1 < 0 then (laws_FnExactLowerWith.j1 k x1 x6 x7 x10 true x603000) else ((laws_eqLineS.f k x10 x6).bind fun t639 => (if t639 = true then (laws_FnExactLowerWith.j1 k x1 x6 x7 x10 (x11 != x7) x603000) else (laws_FnExactLowerWith.j1 k x1 x6 x7 x10 true x603000)))))) else (some false)))) else (some false))))
def laws_FnExactLowerWith.j1 : Nat → List (S64) → List (S52) → Bool → List (S52) → Bool → List (S84) → Option (Bool)
 | 0, _, _, _, _, _, _ => none
 | k + 1, x1, x6, x7, x10, x82, x603000 => if x82 = true then (some false) else ((laws_markLineS.f k x10 1).bind fun bt640 => ((laws_heldLineS.f k bt640.2 1).bind fun t642 => (if t642 < 0 then (some false) else (if t642 = bt640.1 then ((laws_toTree.f k x603000).bind fun t643 => ((laws_toLineS.f k x1).bind fun t646 => ((impl_LowerWith.f k t643 t646).bind fun bt649 => ((laws_eqLineS.f k bt649.1 x6).bind fun t653 => (if t653 = true then (laws_FnExactLowerWith.j2 k bt640.2 bt640.1 (bt649.2 != x7)) else (laws_FnExactLowerWith.j2 k bt640.2 bt640.1 true)))))) else (some false)))))
def laws_FnExactLowerWith.j2 : Nat → List (S52) → Int → Bool → Option (Bool)
 | 0, _, _, _ => none
 | k + 1, x10, x13, x110 => if x110 = true then (some false) else ((laws_heldLineS.f k x10 1).bind fun t654 => (if t654 < 0 then (some false) else (if t654 = x13 then (some true) else (some false))))
end
def laws_FnExactLowerWith.f (k : Nat) (l0_0 : List (S84)) (l1 : List (S64)) : Option (Bool) := (laws_szTree.f k l0_0 1048576).bind fun t603 => (if t603 < 0 then (some true) else ((laws_szLineS.f l1 t603).bind fun t604 => (if t604 < 0 then (some true) else ((laws_toTree.f k l0_0).bind fun t605 => ((laws_toLineS.f k l1).bind fun t608 => ((spec_LowerWith.f k t605 t608).bind fun bt611 => ((laws_toTree.f k l0_0).bind fun t615 => ((laws_toLineS.f k l1).bind fun t619 => ((impl_LowerWith.f k t615 t619).bind fun bt622 => ((laws_eqLineS.f k bt622.1 bt611.1).bind fun t626 => (if t626 = true then (laws_FnExactLowerWith.j0 k l1 bt611.1 bt611.2 t619 bt622.1 bt622.2 (bt622.2 != bt611.2) l0_0 t615) else (laws_FnExactLowerWith.j0 k l1 bt611.1 bt611.2 t619 bt622.1 bt622.2 true l0_0 t615))))))))))))
set_option maxHeartbeats 8000000 in
set_option maxRecDepth 100000 in
theorem laws_FnExactLowerWith.calls (k : Nat) (A0_0 : Option Addr) (c0_0 : Nat) (l0_0 : List (S84)) (A1 : Option Addr) (c1 : Nat) (l1 : List (S64)) (r : Bool) (w : World) (hr0_0 : Kd.C k84 w A0_0 l0_0.length l0_0) (hc0_0 : l0_0.length ≤ c0_0) (hr1 : Kd.C k64 w A1 l1.length l1) (hc1 : l1.length ≤ c1) (hT : r = true) (h : laws_FnExactLowerWith.f k l0_0 l1 = some r) :
  Calls Try.prog 4 #[.agg #[.slice A0_0 l0_0.length c0_0], .slice A1 l1.length c1] w fun e w' => e = .returned (.bool r) ∧ Below w.heap.size w w' := by
 have hu24 := Try.underlying24
 have hu32 := Try.underlying32
 have HR0_0 := am hr0_0
 have HC0_0 := am hc0_0
 clear hr0_0 hc0_0
 have HR1 := am hr1
 have HC1 := am hc1
 clear hr1 hc1
 have HB := am (Below.refl w.heap.size w)
 have H : ((laws_szTree.f k l0_0 1048576).bind fun t603 => (if t603 < 0 then (some true) else ((laws_szLineS.f l1 t603).bind fun t604 => (if t604 < 0 then (some true) else ((laws_toTree.f k l0_0).bind fun t605 => ((laws_toLineS.f k l1).bind fun t608 => ((spec_LowerWith.f k t605 t608).bind fun bt611 => ((laws_toTree.f k l0_0).bind fun t615 => ((laws_toLineS.f k l1).bind fun t619 => ((impl_LowerWith.f k t615 t619).bind fun bt622 => ((laws_eqLineS.f k bt622.1 bt611.1).bind fun t626 => (if t626 = true then (laws_FnExactLowerWith.j0 k l1 bt611.1 bt611.2 t619 bt622.1 bt622.2 (bt622.2 != bt611.2) l0_0 t615) else (laws_FnExactLowerWith.j0 k l1 bt611.1 bt611.2 t619 bt622.1 bt622.2 true l0_0 t615))))))))))))) = some r := h
 clear h
 replace H := Option.bind_eq_some_iff.mp H
 obtain ⟨t603, A30, H⟩ := H
 replace H : (if t603 < 0 then (some true) else ((laws_szLineS.f l1 t603).bind fun t604 => (if t604 < 0 then (some true) else ((laws_toTree.f k l0_0).bind fun t605 => ((laws_toLineS.f k l1).bind fun t608 => ((spec_LowerWith.f k t605 t608).bind fun bt611 => ((laws_toTree.f k l0_0).bind fun t615 => ((laws_toLineS.f k l1).bind fun t619 => ((impl_LowerWith.f k t615 t619).bind fun bt622 => ((laws_eqLineS.f k bt622.1 bt611.1).bind fun t626 => (if t626 = true then (laws_FnExactLowerWith.j0 k l1 bt611.1 bt611.2 t619 bt622.1 bt622.2 (bt622.2 != bt611.2) l0_0 t615) else (laws_FnExactLowerWith.j0 k l1 bt611.1 bt611.2 t619 bt622.1 bt622.2 true l0_0 t615)))))))))))) = some r := H
 have A3 := am A30
 clear A30
 by_cases c4 : t603 < 0
 ·rw [if_pos c4] at H
  have c4b0 : decide (t603 < 0) = true := decide_eq_true c4
  clear c4
  obtain rfl := Option.some.inj H
  go_enter Try.func4, Try.ntmps4
  go_wp2_with (first | ((with_reducible refine gate_dst (N := 2) rfl ?_); refine bE (N := 2) (cs := #[.slice A0_0 l0_0.length c0_0]) (t := 24) ?_; intro gb602 hg w5 hbox hb; have BK602 := am (hbox); have GW602 := am ((Y1 : w.heap.size ≤ gb602)); have GE602 := am ((Y1 : w.heap.size ≤ gb602)); replace HB := am (below_step (bq) hb); clear hb hbox hg; have hcz6_0 := bc0 BK602.out; have hfz6_0 := blk_frozen BK602.out 0) | ((with_reducible refine gate_callee (f := 9) rfl ?_); refine gL (some 19) Try.func9 #[.agg #[.slice A0_0 l0_0.length c0_0], .int .i64 1048576] ?_; (with_reducible refine (laws_szTree.calls k _ _ l0_0 1048576 t603 _ ?side1 ?side2 A3.out).mono ?_); (case side1 => exact cq (Kd.C_below HR0_0.out HB.out)); (case side2 => exact HC0_0.out); rintro e w7 ⟨rfl, hb⟩; refine ⟨_, rfl, ?_⟩; replace BK602 := am (blk_below (g := gb602) (o := .cells #[.slice A0_0 l0_0.length c0_0] 24 (0, 0)) (kq BK602.out) hb); replace HB := am (below_step (Y36) hb); (try clear hb); (try clear hb2); (try clear hk); (try clear hi)))
  go_ret
  exact ⟨Y0, Y36⟩
 ·rw [if_neg c4] at H
  have c4b0 : decide (t603 < 0) = false := decide_eq_false c4
  clear c4
  replace H := Option.bind_eq_some_iff.mp H
  obtain ⟨t604, A80, H⟩ := H
  replace H : (if t604 < 0 then (some true) else ((laws_toTree.f k l0_0).bind fun t605 => ((laws_toLineS.f k l1).bind fun t608 => ((spec_LowerWith.f k t605 t608).bind fun bt611 => ((laws_toTree.f k l0_0).bind fun t615 => ((laws_toLineS.f k l1).bind fun t619 => ((impl_LowerWith.f k t615 t619).bind fun bt622 => ((laws_eqLineS.f k bt622.1 bt611.1).bind fun t626 => (if t626 = true then (laws_FnExactLowerWith.j0 k l1 bt611.1 bt611.2 t619 bt622.1 bt622.2 (bt622.2 != bt611.2) l0_0 t615) else (laws_FnExactLowerWith.j0 k l1 bt611.1 bt611.2 t619 bt622.1 bt622.2 true l0_0 t615)))))))))) = some r := H
  have A8 := am A80
  clear A80
  by_cases c9 : t604 < 0
  ·rw [if_pos c9] at H
   have c9b0 : decide (t604 < 0) = true := decide_eq_true c9
   clear c9
   obtain rfl := Option.some.inj H
   go_enter Try.func4, Try.ntmps4
   go_wp2_with (first | ((with_reducible refine gate_dst (N := 2) rfl ?_); refine bE (N := 2) (cs := #[.slice A0_0 l0_0.length c0_0]) (t := 24) ?_; intro gb602 hg w10 hbox hb; have BK602 := am (hbox); have GW602 := am ((Y1 : w.heap.size ≤ gb602)); have GE602 := am ((Y1 : w.heap.size ≤ gb602)); replace HB := am (below_step (bq) hb); clear hb hbox hg; have hcz11_0 := bc0 BK602.out; have hfz11_0 := blk_frozen BK602.out 0) | ((with_reducible refine gate_callee (f := 9) rfl ?_); refine gL (some 19) Try.func9 #[.agg #[.slice A0_0 l0_0.length c0_0], .int .i64 1048576] ?_; (with_reducible refine (laws_szTree.calls k _ _ l0_0 1048576 t603 _ ?side1 ?side2 A3.out).mono ?_); (case side1 => exact cq (Kd.C_below HR0_0.out HB.out)); (case side2 => exact HC0_0.out); rintro e w12 ⟨rfl, hb⟩; refine ⟨_, rfl, ?_⟩; replace BK602 := am (blk_below (g := gb602) (o := .cells #[.slice A0_0 l0_0.length c0_0] 24 (0, 0)) (kq BK602.out) hb); replace HB := am (below_step (Y36) hb); (try clear hb); (try clear hb2); (try clear hk); (try clear hi)) | ((with_reducible refine gate_callee (f := 10) rfl ?_); refine gL (some 24) Try.func10 #[.slice A1 l1.length c1, .int .i64 t603] ?_; (with_reducible refine (laws_szLineS.calls _ _ l1 t603 t604 _ ?side1 ?side2 A8.out).mono ?_); (case side1 => exact cq (Kd.C_below HR1.out HB.out)); (case side2 => exact HC1.out); rintro e w' ⟨rfl, ⟨nd, rfl⟩⟩; refine ⟨_, rfl, ?_⟩))
   go_ret
   exact ⟨Y0, Y36⟩
  ·rw [if_neg c9] at H
   have c9b0 : decide (t604 < 0) = false := decide_eq_false c9
   clear c9
   replace H := Option.bind_eq_some_iff.mp H
   obtain ⟨t605, A130, H⟩ := H
   replace H : ((laws_toLineS.f k l1).bind fun t608 => ((spec_LowerWith.f k t605 t608).bind fun bt611 => ((laws_toTree.f k l0_0).bind fun t615 => ((laws_toLineS.f k l1).bind fun t619 => ((impl_LowerWith.f k t615 t619).bind fun bt622 => ((laws_eqLineS.f k bt622.1 bt611.1).bind fun t626 => (if t626 = true then (laws_FnExactLowerWith.j0 k l1 bt611.1 bt611.2 t619 bt622.1 bt622.2 (bt622.2 != bt611.2) l0_0 t615) else (laws_FnExactLowerWith.j0 k l1 bt611.1 bt611.2 t619 bt622.1 bt622.2 true l0_0 t615)))))))) = some r := H
   have A13 := am A130
   clear A130
   replace H := Option.bind_eq_some_iff.mp H
   obtain ⟨t608, A140, H⟩ := H
   replace H : ((spec_LowerWith.f k t605 t608).bind fun bt611 => ((laws_toTree.f k l0_0).bind fun t615 => ((laws_toLineS.f k l1).bind fun t619 => ((impl_LowerWith.f k t615 t619).bind fun bt622 => ((laws_eqLineS.f k bt622.1 bt611.1).bind fun t626 => (if t626 = true then (laws_FnExactLowerWith.j0 k l1 bt611.1 bt611.2 t619 bt622.1 bt622.2 (bt622.2 != bt611.2) l0_0 t615) else (laws_FnExactLowerWith.j0 k l1 bt611.1 bt611.2 t619 bt622.1 bt622.2 true l0_0 t615))))))) = some r := H
   have A14 := am A140
   clear A140
   replace H := Option.bind_eq_some_iff.mp H
   obtain ⟨⟨t611, t614⟩, A150, H⟩ := H
   replace H : ((laws_toTree.f k l0_0).bind fun t615 => ((laws_toLineS.f k l1).bind fun t619 => ((impl_LowerWith.f k t615 t619).bind fun bt622 => ((laws_eqLineS.f k bt622.1 t611).bind fun t626 => (if t626 = true then (laws_FnExactLowerWith.j0 k l1 t611 t614 t619 bt622.1 bt622.2 (bt622.2 != t614) l0_0 t615) else (laws_FnExactLowerWith.j0 k l1 t611 t614 t619 bt622.1 bt622.2 true l0_0 t615)))))) = some r := H
   have A15 := am A150
   clear A150
   replace H := Option.bind_eq_some_iff.mp H
   obtain ⟨t615, A160, H⟩ := H
   replace H : ((laws_toLineS.f k l1).bind fun t619 => ((impl_LowerWith.f k t615 t619).bind fun bt622 => ((laws_eqLineS.f k bt622.1 t611).bind fun t626 => (if t626 = true then (laws_FnExactLowerWith.j0 k l1 t611 t614 t619 bt622.1 bt622.2 (bt622.2 != t614) l0_0 t615) else (laws_FnExactLowerWith.j0 k l1 t611 t614 t619 bt622.1 bt622.2 true l0_0 t615))))) = some r := H
   have A16 := am A160
   clear A160
   replace H := Option.bind_eq_some_iff.mp H
   obtain ⟨t619, A170, H⟩ := H
   replace H : ((impl_LowerWith.f k t615 t619).bind fun bt622 => ((laws_eqLineS.f k bt622.1 t611).bind fun t626 => (if t626 = true then (laws_FnExactLowerWith.j0 k l1 t611 t614 t619 bt622.1 bt622.2 (bt622.2 != t614) l0_0 t615) else (laws_FnExactLowerWith.j0 k l1 t611 t614 t619 bt622.1 bt622.2 true l0_0 t615)))) = some r := H
   have A17 := am A170
   clear A170
   replace H := Option.bind_eq_some_iff.mp H
   obtain ⟨⟨t622, t625⟩, A180, H⟩ := H
   replace H : ((laws_eqLineS.f k t622 t611).bind fun t626 => (if t626 = true then (laws_FnExactLowerWith.j0 k l1 t611 t614 t619 t622 t625 (t625 != t614) l0_0 t615) else (laws_FnExactLowerWith.j0 k l1 t611 t614 t619 t622 t625 true l0_0 t615))) = some r := H
   have A18 := am A180
   clear A180
   have HC19 := am H
   clear H
   go_enter Try.func4, Try.ntmps4
   go_upto_region 12 with (first | ((with_reducible refine gate_dst (N := 2) rfl ?_); refine bE (N := 2) (cs := #[.slice A0_0 l0_0.length c0_0]) (t := 24) ?_; intro gb602 hg w20 hbox hb; have BK602 := am (hbox); have GW602 := am ((Y1 : w.heap.size ≤ gb602)); have GE602 := am ((Y1 : w.heap.size ≤ gb602)); replace HB := am (below_step (bq) hb); clear hb hbox hg; have hcz21_0 := bc0 BK602.out; have hfz21_0 := blk_frozen BK602.out 0) | ((with_reducible refine gate_callee (f := 9) rfl ?_); refine gL (some 19) Try.func9 #[.agg #[.slice A0_0 l0_0.length c0_0], .int .i64 1048576] ?_; (with_reducible refine (laws_szTree.calls k _ _ l0_0 1048576 t603 _ ?side1 ?side2 A3.out).mono ?_); (case side1 => exact cq (Kd.C_below HR0_0.out HB.out)); (case side2 => exact HC0_0.out); rintro e w22 ⟨rfl, hb⟩; refine ⟨_, rfl, ?_⟩; replace BK602 := am (blk_below (g := gb602) (o := .cells #[.slice A0_0 l0_0.length c0_0] 24 (0, 0)) (kq BK602.out) hb); replace HB := am (below_step (Y36) hb); (try clear hb); (try clear hb2); (try clear hk); (try clear hi)) | ((with_reducible refine gate_callee (f := 10) rfl ?_); refine gL (some 24) Try.func10 #[.slice A1 l1.length c1, .int .i64 t603] ?_; (with_reducible refine (laws_szLineS.calls _ _ l1 t603 t604 _ ?side1 ?side2 A8.out).mono ?_); (case side1 => exact cq (Kd.C_below HR1.out HB.out)); (case side2 => exact HC1.out); rintro e w' ⟨rfl, ⟨nd, rfl⟩⟩; refine ⟨_, rfl, ?_⟩; (try (rw [drewN_self w22]; generalize hq_ : World.drewN w22 _ = w22; have n0_ : Aside0 (w22.heap[gb602]? = some (.cells #[.slice A0_0 l0_0.length c0_0] 24 (0, 0))) := ⟨by rw [← hq_]; exact (kq BK602.out)⟩; have n1_ : Aside0 (Below w.heap.size w w22) := ⟨by rw [← hq_]; exact (Y36)⟩; clear BK602 HB hq_; have BK602 := n0_; have HB := n1_; clear n0_ n1_)); have hcz23_0 := bc0 BK602.out; have hfz23_0 := blk_frozen BK602.out 0) | ((with_reducible refine gate_callee (f := 12) rfl ?_); refine gL (some 29) Try.func12 #[.agg #[.slice A0_0 l0_0.length c0_0]] ?_; (with_reducible refine (laws_toTree.calls k _ _ l0_0 t605 _ ?side1 ?side2 A13.out).mono ?_); (case side1 => exact cq (Kd.C_below HR0_0.out HB.out)); (case side2 => exact HC0_0.out); rintro e w24 ⟨v606, rfl, ho0, hb⟩; refine ⟨_, rfl, ?_⟩; have HO607 := am (Kd.R_lower ho0 (below_size (Y36))); replace BK602 := am (blk_below (g := gb602) (o := .cells #[.slice A0_0 l0_0.length c0_0] 24 (0, 0)) (kq BK602.out) hb); replace HB := am (below_step (Y36) hb); (try clear hb); (try clear hb2); (try clear hk); (try clear hi); (try clear ho0)) | ((with_reducible refine gate_callee (f := 13) rfl ?_); refine gL (some 31) Try.func13 #[.slice A1 l1.length c1] ?_; (with_reducible refine (laws_toLineS.calls k _ _ l1 t608 _ ?side1 ?side2 A14.out).mono ?_); (case side1 => exact cq (Kd.C_below HR1.out HB.out)); (case side2 => exact HC1.out); rintro e w25 ⟨v609, rfl, ho0, hb⟩; refine ⟨_, rfl, ?_⟩; have HO610 := am (Kd.R_lower ho0 (below_size (Y36))); replace HO607 := am (Kd.R_below (rq HO607.out) hb); replace BK602 := am (blk_below (g := gb602) (o := .cells #[.slice A0_0 l0_0.length c0_0] 24 (0, 0)) (kq BK602.out) hb); replace HB := am (below_step (Y36) hb); (try clear hb); (try clear hb2); (try clear hk); (try clear hi); (try clear ho0); obtain ⟨Ao26, co26, eo26⟩ := Kd.R_slice HO607.out; subst eo26; obtain ⟨Ao27, co27, eo27⟩ := Kd.R_slice HO610.out; subst eo27) | ((with_reducible refine gate_callee (f := 22) rfl ?_); refine gL (some 32) Try.func22 #[.agg #[.slice Ao26 t605.length co26], .slice Ao27 t608.length co27] ?_; (with_reducible refine (spec_LowerWith.calls k _ _ t605 _ _ t608 t611 t614 _ ?side1 ?side2 ?side3 ?side4 A15.out).mono ?_); (case side1 => exact cq (Kd.R_reads' HO607.out).2.2); (case side2 => exact (Kd.R_reads' HO607.out).2.1); (case side3 => exact cq (Kd.R_reads' HO610.out).2.2); (case side4 => exact (Kd.R_reads' HO610.out).2.1); rintro e w28 ⟨v612, rfl, ho0, hb⟩; refine ⟨_, rfl, ?_⟩; have HO613 := am (Kd.R_lower (Kd.R_new' ho0 (Kd.R_lt (rq HO610.out))) (below_size (Y36))); replace HO607 := am (Kd.R_below (rq HO607.out) hb); replace HO610 := am (Kd.R_elder' (rq HO610.out) (Kd.R_base ho0) hb); replace BK602 := am (blk_below (g := gb602) (o := .cells #[.slice A0_0 l0_0.length c0_0] 24 (0, 0)) (kq BK602.out) hb); replace HB := am (below_step (Y36) hb); (try clear hb); (try clear hb2); (try clear hk); (try clear hi); (try clear ho0); have hcz29_0 := bc0 BK602.out; have hfz29_0 := blk_frozen BK602.out 0) | ((with_reducible refine gate_callee (f := 12) rfl ?_); refine gL (some 36) Try.func12 #[.agg #[.slice A0_0 l0_0.length c0_0]] ?_; (with_reducible refine (laws_toTree.calls k _ _ l0_0 t615 _ ?side1 ?side2 A16.out).mono ?_); (case side1 => exact cq (Kd.C_below HR0_0.out HB.out)); (case side2 => exact HC0_0.out); rintro e w30 ⟨v616, rfl, ho0, hb⟩; refine ⟨_, rfl, ?_⟩; have HO617 := am (Kd.R_lower (Kd.R_new' ho0 (Kd.R_lt (rq HO607.out))) (below_size (Y36))); replace HO607 := am (Kd.R_elder' (rq HO607.out) (Kd.R_base ho0) hb); replace HO610 := am (Kd.R_below (rq HO610.out) hb); replace HO613 := am (Kd.R_below (rq HO613.out) hb); replace BK602 := am (blk_below (g := gb602) (o := .cells #[.slice A0_0 l0_0.length c0_0] 24 (0, 0)) (kq BK602.out) hb); replace HB := am (below_step (Y36) hb); (try clear hb); (try clear hb2); (try clear hk); (try clear hi); (try clear ho0)) | ((with_reducible refine gate_dst (N := 8) rfl ?_); refine bE (N := 8) (cs := #[.slice none 0 0]) (t := 32) ?_; intro gb618 hg w31 hbox hb; have BK618 := am (hbox); have GW618 := am ((Y148 : w.heap.size ≤ gb618)); have GE618 := am ((Y148 : w.heap.size ≤ gb618)); have NB602_618 := am ((by rw [hg]; exact Nat.ne_of_lt (blk_lt (g := gb602) (o := .cells #[.slice A0_0 l0_0.length c0_0] 24 (0, 0)) (kq BK602.out)) : gb602 ≠ gb618)); have NB618_602 := am ((by rw [hg]; exact Nat.ne_of_gt (blk_lt (g := gb602) (o := .cells #[.slice A0_0 l0_0.length c0_0] 24 (0, 0)) (kq BK602.out)) : gb618 ≠ gb602)); replace HO607 := am (Kd.R_below (rq HO607.out) hb); replace HO610 := am (Kd.R_below (rq HO610.out) hb); replace HO613 := am (Kd.R_below (rq HO613.out) hb); replace HO617 := am (Kd.R_below (rq HO617.out) hb); replace BK602 := am (blk_below (g := gb602) (o := .cells #[.slice A0_0 l0_0.length c0_0] 24 (0, 0)) (kq BK602.out) hb); replace HB := am (below_step (Y36) hb); clear hb hbox hg; obtain ⟨Ao32, co32, eo32⟩ := Kd.R_slice HO617.out; subst eo32; have hnb33 := NB618_602.out; have hnc33 := NB602_618.out; have hcz34_0 := bc0 BK618.out; have hfz34_0 := blk_frozen BK618.out 0) | ((with_reducible refine gate_callee (f := 13) rfl ?_); refine gL (some 38) Try.func13 #[.slice A1 l1.length c1] ?_; (with_reducible refine (laws_toLineS.calls k _ _ l1 t619 _ ?side1 ?side2 A17.out).mono ?_); (case side1 => exact Kd.C_below HR1.out (Y12)); (case side2 => exact HC1.out); rintro e w35 ⟨v620, rfl, ho0, hb⟩; refine ⟨_, rfl, ?_⟩; have HO621 := am (Kd.R_lower (Kd.R_new' (Kd.R_new' ho0 (Kd.R_lt (Y149))) (Kd.R_lt (Y150))) (below_size (Y12))); replace HO607 := am (Kd.R_below (by (with_reducible repeat (first | apply Kd.R_alloc | apply Kd.R_drewN | apply Kd.R_drew)); exact (Kd.R_mono (Kd.R_far (p := ⟨gb618, 0, none⟩) (Kd.R_types HO607.out BK618.out (by decide)) (fun _ hk => hk.2) (.slice Ao32 t615.length co32)) (fun _ h_ => h_.1))) hb); replace HO610 := am (Kd.R_elder' (Y149) (Kd.R_base ho0) hb); replace HO613 := am (Kd.R_elder' (Y150) (Kd.R_base ho0) hb); replace HO617 := am (Kd.R_below (by (with_reducible repeat (first | apply Kd.R_alloc | apply Kd.R_drewN | apply Kd.R_drew)); exact (Kd.R_mono (Kd.R_far (p := ⟨gb618, 0, none⟩) (Kd.R_types HO617.out BK618.out (by decide)) (fun _ hk => hk.2) (.slice Ao32 t615.length co32)) (fun _ h_ => h_.1))) hb); replace BK602 := am (blk_below (g := gb602) (o := .cells #[.slice A0_0 l0_0.length c0_0] 24 (0, 0)) (by (with_reducible repeat (first | refine blk_drewN ?_ _ | refine blk_drew ?_ | refine blk_alloc ?_ _)); refine blk_far ?_ NB602_618.out _; (with_reducible repeat (first | refine blk_drewN ?_ _ | refine blk_drew ?_ | refine blk_alloc ?_ _)); exact BK602.out) hb); replace BK618 := am (blk_below (g := gb618) (o := .cells #[.slice Ao32 t615.length co32] 32 (0, 0)) (by (with_reducible repeat (first | refine blk_drewN ?_ _ | refine blk_drew ?_ | refine blk_alloc ?_ _)); refine blk_put (cs := #[.slice none 0 0]) ?_ 0 _ rfl; (with_reducible repeat (first | refine blk_drewN ?_ _ | refine blk_drew ?_ | refine blk_alloc ?_ _)); exact BK618.out) hb); replace HB := am (below_step (Y12) hb); (try clear hb); (try clear hb2); (try clear hk); (try clear hi); (try clear ho0); have hcz36_0 := bc0 BK618.out; have hfz36_0 := blk_frozen BK618.out 0; obtain ⟨Ao37, co37, eo37⟩ := Kd.R_slice HO621.out; subst eo37) | ((with_reducible refine gate_callee (f := 23) rfl ?_); refine gL (some 42) Try.func23 #[.agg #[.slice Ao32 t615.length co32], .slice Ao37 t619.length co37] ?_; (with_reducible refine (impl_LowerWith.calls k _ _ t615 _ _ t619 t622 t625 _ ?side1 ?side2 ?side3 ?side4 A18.out).mono ?_); (case side1 => exact cq (Kd.R_reads' HO617.out).2.2); (case side2 => exact (Kd.R_reads' HO617.out).2.1); (case side3 => exact cq (Kd.R_reads' HO621.out).2.2); (case side4 => exact (Kd.R_reads' HO621.out).2.1); rintro e w38 ⟨v623, rfl, ho0, hb⟩; refine ⟨_, rfl, ?_⟩; have HO624 := am (Kd.R_lower (Kd.R_new' (Kd.R_new' (Kd.R_new' ho0 (Kd.R_lt (rq HO610.out))) (Kd.R_lt (rq HO613.out))) (Kd.R_lt (rq HO621.out))) (below_size (Y12))); replace HO607 := am (Kd.R_below (rq HO607.out) hb); replace HO610 := am (Kd.R_elder' (rq HO610.out) (Kd.R_base ho0) hb); replace HO613 := am (Kd.R_elder' (rq HO613.out) (Kd.R_base ho0) hb); replace HO617 := am (Kd.R_below (rq HO617.out) hb); replace HO621 := am (Kd.R_elder' (rq HO621.out) (Kd.R_base ho0) hb); replace BK602 := am (blk_below (g := gb602) (o := .cells #[.slice A0_0 l0_0.length c0_0] 24 (0, 0)) (kq BK602.out) hb); replace BK618 := am (blk_below (g := gb618) (o := .cells #[.slice Ao32 t615.length co32] 32 (0, 0)) (kq BK618.out) hb); replace HB := am (below_step (Y12) hb); (try clear hb); (try clear hb2); (try clear hk); (try clear hi); (try clear ho0)))
   (try simp only [Act.put, List.setIfInBounds_toArray, List.set_cons_zero, List.set_cons_succ])
   go_cut [53] (fun v53 wc => ∃ (kq : Nat) (x53_18 : Bool), v53 = .bool x53_18 ∧ Aside0 (laws_FnExactLowerWith.j0 kq l1 t611 t614 t619 t622 t625 x53_18 l0_0 t615 = some r) ∧ Aside0 (kq ≤ k) ∧ Aside0 (Kd.R k52 52 wc w.heap.size (fun k_ => some k_ ≠ ((.slice Ao37 t619.length co37) : Value).ownBlock ∧ some k_ ≠ (v623 : Value).ownBlock) v612 t611) ∧ Aside0 (Kd.R k52 52 wc w.heap.size (fun k_ => some k_ ≠ (v612 : Value).ownBlock ∧ some k_ ≠ (v623 : Value).ownBlock) (.slice Ao37 t619.length co37) t619) ∧ Aside0 (Kd.R k52 52 wc w.heap.size (fun k_ => some k_ ≠ (v612 : Value).ownBlock ∧ some k_ ≠ ((.slice Ao37 t619.length co37) : Value).ownBlock) v623 t622) ∧ Aside0 (Kd.R k87 87 wc w.heap.size (fun _ => True) (.slice Ao32 t615.length co32) t615) ∧ Aside0 (wc.heap[gb602]? = some (.cells #[(.slice A0_0 l0_0.length c0_0)] 24 (0, 0))) ∧ Aside0 (wc.heap[gb618]? = some (.cells #[(.slice Ao32 t615.length co32)] 32 (0, 0))) ∧ Aside0 (Below w.heap.size w wc))
   case first =>
    have H := HC19.out
    clear HC19
    replace H := Option.bind_eq_some_iff.mp H
    obtain ⟨t626, A390, H⟩ := H
    replace H : (if t626 = true then (laws_FnExactLowerWith.j0 k l1 t611 t614 t619 t622 t625 (t625 != t614) l0_0 t615) else (laws_FnExactLowerWith.j0 k l1 t611 t614 t619 t622 t625 true l0_0 t615)) = some r := H
    have A39 := am A390
    clear A390
    by_cases c40 : t626 = true
    ·subst c40
     have H1 : (laws_FnExactLowerWith.j0 k l1 t611 t614 t619 t622 t625 (t625 != t614) l0_0 t615) = some r := by rw [if_pos rfl] at H; exact H
     clear H
     have H := H1
     clear H1
     have H' := am H
     clear H
     obtain ⟨Ao41, co41, eo41⟩ := Kd.R_slice HO624.out
     subst eo41
     obtain ⟨Ao42, co42, eo42⟩ := Kd.R_slice HO613.out
     subst eo42
     go_wp2_with (first | ((with_reducible refine gate_callee (f := 17) rfl ?_); refine gL (some 47) Try.func17 #[.slice Ao41 t622.length co41, .slice Ao42 t611.length co42] ?_; (with_reducible refine (laws_eqLineS.calls k _ _ t622 _ _ t611 true _ ?side1 ?side2 ?side3 ?side4 A39.out).mono ?_); (case side1 => exact cq (Kd.R_reads' HO624.out).2.2); (case side2 => exact (Kd.R_reads' HO624.out).2.1); (case side3 => exact cq (Kd.R_reads' HO613.out).2.2); (case side4 => exact (Kd.R_reads' HO613.out).2.1); rintro e w43 ⟨rfl, hb⟩; refine ⟨_, rfl, ?_⟩; replace HO607 := am (Kd.R_below (rq HO607.out) hb); replace HO610 := am (Kd.R_below (rq HO610.out) hb); replace HO613 := am (Kd.R_below (rq HO613.out) hb); replace HO617 := am (Kd.R_below (rq HO617.out) hb); replace HO621 := am (Kd.R_below (rq HO621.out) hb); replace HO624 := am (Kd.R_below (rq HO624.out) hb); replace BK602 := am (blk_below (g := gb602) (o := .cells #[.slice A0_0 l0_0.length c0_0] 24 (0, 0)) (kq BK602.out) hb); replace BK618 := am (blk_below (g := gb618) (o := .cells #[.slice Ao32 t615.length co32] 32 (0, 0)) (kq BK618.out) hb); replace HB := am (below_step (Y12) hb); (try clear hb); (try clear hb2); (try clear hk); (try clear hi)))
     go_meet
     case rel => exact ⟨_, ((t625 != t614)), (sq), H', ⟨Y35⟩, ⟨by (with_reducible repeat (first | apply Kd.R_alloc | apply Kd.R_drewN | apply Kd.R_drew)); exact Kd.R_mono HO613.out (fun _ hk => ⟨hk.1.2, hk.2⟩)⟩, ⟨by (with_reducible repeat (first | apply Kd.R_alloc | apply Kd.R_drewN | apply Kd.R_drew)); exact Kd.R_mono HO621.out (fun _ hk => ⟨hk.1.2, hk.2⟩)⟩, ⟨by (with_reducible repeat (first | apply Kd.R_alloc | apply Kd.R_drewN | apply Kd.R_drew)); exact Kd.R_mono HO624.out (fun _ hk => ⟨hk.1.2, hk.2⟩)⟩, ⟨by (with_reducible repeat (first | apply Kd.R_alloc | apply Kd.R_drewN | apply Kd.R_drew)); exact Kd.R_mono HO617.out (fun _ hk => trivial)⟩, ⟨kq BK602.out⟩, ⟨kq BK618.out⟩, ⟨Y12⟩⟩
    ·replace c40 := Bool.eq_false_iff.mpr c40
     subst c40
     have H1 : (laws_FnExactLowerWith.j0 k l1 t611 t614 t619 t622 t625 true l0_0 t615) = some r := by rw [if_neg (show ¬ (false = true) by decide)] at H; exact H
     clear H
     have H := H1
     clear H1
     have H' := am H
     clear H
     obtain ⟨Ao44, co44, eo44⟩ := Kd.R_slice HO624.out
     subst eo44
     obtain ⟨Ao45, co45, eo45⟩ := Kd.R_slice HO613.out
     subst eo45
     go_wp2_with (first | ((with_reducible refine gate_callee (f := 17) rfl ?_); refine gL (some 47) Try.func17 #[.slice Ao44 t622.length co44, .slice Ao45 t611.length co45] ?_; (with_reducible refine (laws_eqLineS.calls k _ _ t622 _ _ t611 false _ ?side1 ?side2 ?side3 ?side4 A39.out).mono ?_); (case side1 => exact cq (Kd.R_reads' HO624.out).2.2); (case side2 => exact (Kd.R_reads' HO624.out).2.1); (case side3 => exact cq (Kd.R_reads' HO613.out).2.2); (case side4 => exact (Kd.R_reads' HO613.out).2.1); rintro e w46 ⟨rfl, hb⟩; refine ⟨_, rfl, ?_⟩; replace HO607 := am (Kd.R_below (rq HO607.out) hb); replace HO610 := am (Kd.R_below (rq HO610.out) hb); replace HO613 := am (Kd.R_below (rq HO613.out) hb); replace HO617 := am (Kd.R_below (rq HO617.out) hb); replace HO621 := am (Kd.R_below (rq HO621.out) hb); replace HO624 := am (Kd.R_below (rq HO624.out) hb); replace BK602 := am (blk_below (g := gb602) (o := .cells #[.slice A0_0 l0_0.length c0_0] 24 (0, 0)) (kq BK602.out) hb); replace BK618 := am (blk_below (g := gb618) (o := .cells #[.slice Ao32 t615.length co32] 32 (0, 0)) (kq BK618.out) hb); replace HB := am (below_step (Y12) hb); (try clear hb); (try clear hb2); (try clear hk); (try clear hi)))
     go_meet
     case rel => exact ⟨_, (true), (sq), H', ⟨Y35⟩, ⟨by (with_reducible repeat (first | apply Kd.R_alloc | apply Kd.R_drewN | apply Kd.R_drew)); exact Kd.R_mono HO613.out (fun _ hk => ⟨hk.1.2, hk.2⟩)⟩, ⟨by (with_reducible repeat (first | apply Kd.R_alloc | apply Kd.R_drewN | apply Kd.R_drew)); exact Kd.R_mono HO621.out (fun _ hk => ⟨hk.1.2, hk.2⟩)⟩, ⟨by (with_reducible repeat (first | apply Kd.R_alloc | apply Kd.R_drewN | apply Kd.R_drew)); exact Kd.R_mono HO624.out (fun _ hk => ⟨hk.1.2, hk.2⟩)⟩, ⟨by (with_reducible repeat (first | apply Kd.R_alloc | apply Kd.R_drewN | apply Kd.R_drew)); exact Kd.R_mono HO617.out (fun _ hk => trivial)⟩, ⟨kq BK602.out⟩, ⟨kq BK618.out⟩, ⟨Y12⟩⟩
   case rest =>
    clear HC19
    try clear c1
    try clear c2
    try clear p2
    try clear c3
    try clear c4
    try clear c4b0
    try clear c9
    try clear c9b0
    try clear c10
    try clear c12
    try clear c13
    try clear c17
    try clear c22
    try clear c23
    try clear c33
    try clear c40
    try clear hcz11_0
    try clear hcz21_0
    try clear hcz23_0
    try clear hcz29_0
    try clear hcz34_0
    try clear hcz36_0
    try clear hcz6_0
    try clear hfz11_0
    try clear hfz21_0
    try clear hfz23_0
    try clear hfz29_0
    try clear hfz34_0
    try clear hfz36_0
    try clear hfz6_0
    obtain ⟨kq, x53_18, rfl, HA, HJ18, HO_6, HO_9, HO_10, HO_619000, BK602, BK618, HB⟩ := hcut
    cases kq with
    | zero => exact absurd HA.out (by simp [laws_FnExactLowerWith.j0])
    | succ kj18 =>
     have H := HA.out
     clear HA
     simp only [laws_FnExactLowerWith.j0] at H
     by_cases c47 : x53_18 = true
     ·subst c47
      have H1 : (some false) = some r := by rw [if_pos rfl] at H; exact H
      clear H
      have H := H1
      clear H1
      exact absurd ((Option.some.inj H).trans hT) Bool.false_ne_true
     ·replace c47 := Bool.eq_false_iff.mpr c47
      subst c47
      have H1 : ((laws_toTree.f kj18 l0_0).bind fun t627 => ((laws_eqTree.f kj18 t615 t627).bind fun t630 => (if t630 = true then ((laws_toLineS.f kj18 l1).bind fun t631 => ((laws_eqLineS.f kj18 t619 t631).bind fun t634 => (if t634 = true then ((laws_markTree.f kj18 t615 1).bind fun bt635 => ((laws_markLineS.f kj18 t619 bt635.1).bind fun bt637 => (if bt637.1 < 0 then (laws_FnExactLowerWith.j1 kj18 l1 t611 t614 t622 true l0_0) else ((laws_eqLineS.f kj18 t622 t611).bind fun t639 => (if t639 = true then (laws_FnExactLowerWith.j1 kj18 l1 t611 t614 t622 (t625 != t614) l0_0) else (laws_FnExactLowerWith.j1 kj18 l1 t611 t614 t622 true l0_0)))))) else (some false)))) else (some false)))) = some r := by rw [if_neg (show ¬ (false = true) by decide)] at H; exact H
      clear H
      have H := H1
      clear H1
      replace H := Option.bind_eq_some_iff.mp H
      obtain ⟨t627, A480, H⟩ := H
      replace H : ((laws_eqTree.f kj18 t615 t627).bind fun t630 => (if t630 = true then ((laws_toLineS.f kj18 l1).bind fun t631 => ((laws_eqLineS.f kj18 t619 t631).bind fun t634 => (if t634 = true then ((laws_markTree.f kj18 t615 1).bind fun bt635 => ((laws_markLineS.f kj18 t619 bt635.1).bind fun bt637 => (if bt637.1 < 0 then (laws_FnExactLowerWith.j1 kj18 l1 t611 t614 t622 true l0_0) else ((laws_eqLineS.f kj18 t622 t611).bind fun t639 => (if t639 = true then (laws_FnExactLowerWith.j1 kj18 l1 t611 t614 t622 (t625 != t614) l0_0) else (laws_FnExactLowerWith.j1 kj18 l1 t611 t614 t622 true l0_0)))))) else (some false)))) else (some false))) = some r := H
      have A48 := am A480
      clear A480
      replace H := Option.bind_eq_some_iff.mp H
      obtain ⟨t630, A490, H⟩ := H
      replace H : (if t630 = true then ((laws_toLineS.f kj18 l1).bind fun t631 => ((laws_eqLineS.f kj18 t619 t631).bind fun t634 => (if t634 = true then ((laws_markTree.f kj18 t615 1).bind fun bt635 => ((laws_markLineS.f kj18 t619 bt635.1).bind fun bt637 => (if bt637.1 < 0 then (laws_FnExactLowerWith.j1 kj18 l1 t611 t614 t622 true l0_0) else ((laws_eqLineS.f kj18 t622 t611).bind fun t639 => (if t639 = true then (laws_FnExactLowerWith.j1 kj18 l1 t611 t614 t622 (t625 != t614) l0_0) else (laws_FnExactLowerWith.j1 kj18 l1 t611 t614 t622 true l0_0)))))) else (some false)))) else (some false)) = some r := H
      have A49 := am A490
      clear A490
      by_cases c50 : t630 = true
      ·subst c50
       have H1 : ((laws_toLineS.f kj18 l1).bind fun t631 => ((laws_eqLineS.f kj18 t619 t631).bind fun t634 => (if t634 = true then ((laws_markTree.f kj18 t615 1).bind fun bt635 => ((laws_markLineS.f kj18 t619 bt635.1).bind fun bt637 => (if bt637.1 < 0 then (laws_FnExactLowerWith.j1 kj18 l1 t611 t614 t622 true l0_0) else ((laws_eqLineS.f kj18 t622 t611).bind fun t639 => (if t639 = true then (laws_FnExactLowerWith.j1 kj18 l1 t611 t614 t622 (t625 != t614) l0_0) else (laws_FnExactLowerWith.j1 kj18 l1 t611 t614 t622 true l0_0)))))) else (some false)))) = some r := by rw [if_pos rfl] at H; exact H
       clear H
       have H := H1
       clear H1
       replace H := Option.bind_eq_some_iff.mp H
       obtain ⟨t631, A510, H⟩ := H
       replace H : ((laws_eqLineS.f kj18 t619 t631).bind fun t634 => (if t634 = true then ((laws_markTree.f kj18 t615 1).bind fun bt635 => ((laws_markLineS.f kj18 t619 bt635.1).bind fun bt637 => (if bt637.1 < 0 then (laws_FnExactLowerWith.j1 kj18 l1 t611 t614 t622 true l0_0) else ((laws_eqLineS.f kj18 t622 t611).bind fun t639 => (if t639 = true then (laws_FnExactLowerWith.j1 kj18 l1 t611 t614 t622 (t625 != t614) l0_0) else (laws_FnExactLowerWith.j1 kj18 l1 t611 t614 t622 true l0_0)))))) else (some false))) = some r := H
       have A51 := am A510
       clear A510
       replace H := Option.bind_eq_some_iff.mp H
       obtain ⟨t634, A520, H⟩ := H
       replace H : (if t634 = true then ((laws_markTree.f kj18 t615 1).bind fun bt635 => ((laws_markLineS.f kj18 t619 bt635.1).bind fun bt637 => (if bt637.1 < 0 then (laws_FnExactLowerWith.j1 kj18 l1 t611 t614 t622 true l0_0) else ((laws_eqLineS.f kj18 t622 t611).bind fun t639 => (if t639 = true then (laws_FnExactLowerWith.j1 kj18 l1 t611 t614 t622 (t625 != t614) l0_0) else (laws_FnExactLowerWith.j1 kj18 l1 t611 t614 t622 true l0_0)))))) else (some false)) = some r := H
       have A52 := am A520
       clear A520
       by_cases c53 : t634 = true
       ·subst c53
        have H1 : ((laws_markTree.f kj18 t615 1).bind fun bt635 => ((laws_markLineS.f kj18 t619 bt635.1).bind fun bt637 => (if bt637.1 < 0 then (laws_FnExactLowerWith.j1 kj18 l1 t611 t614 t622 true l0_0) else ((laws_eqLineS.f kj18 t622 t611).bind fun t639 => (if t639 = true then (laws_FnExactLowerWith.j1 kj18 l1 t611 t614 t622 (t625 != t614) l0_0) else (laws_FnExactLowerWith.j1 kj18 l1 t611 t614 t622 true l0_0)))))) = some r := by rw [if_pos rfl] at H; exact H
        clear H
        have H := H1
        clear H1
        replace H := Option.bind_eq_some_iff.mp H
        obtain ⟨⟨t635, t636⟩, A540, H⟩ := H
        replace H : ((laws_markLineS.f kj18 t619 t635).bind fun bt637 => (if bt637.1 < 0 then (laws_FnExactLowerWith.j1 kj18 l1 t611 t614 t622 true l0_0) else ((laws_eqLineS.f kj18 t622 t611).bind fun t639 => (if t639 = true then (laws_FnExactLowerWith.j1 kj18 l1 t611 t614 t622 (t625 != t614) l0_0) else (laws_FnExactLowerWith.j1 kj18 l1 t611 t614 t622 true l0_0))))) = some r := H
        have A54 := am A540
        clear A540
        replace H := Option.bind_eq_some_iff.mp H
        obtain ⟨⟨t637, t638⟩, A550, H⟩ := H
        replace H : (if t637 < 0 then (laws_FnExactLowerWith.j1 kj18 l1 t611 t614 t622 true l0_0) else ((laws_eqLineS.f kj18 t622 t611).bind fun t639 => (if t639 = true then (laws_FnExactLowerWith.j1 kj18 l1 t611 t614 t622 (t625 != t614) l0_0) else (laws_FnExactLowerWith.j1 kj18 l1 t611 t614 t622 true l0_0)))) = some r := H
        have A55 := am A550
        clear A550
        have HC56 := am H
        clear H
        try go_wp2
        replace HO_6 := am (Kd.R_drew HO_6.out)
        replace HO_9 := am (Kd.R_drew HO_9.out)
        replace HO_10 := am (Kd.R_drew HO_10.out)
        replace HO_619000 := am (Kd.R_drew HO_619000.out)
        replace BK602 := am (blk_drew BK602.out)
        replace BK618 := am (blk_drew BK618.out)
        replace HB := am (below_drew1 HB.out)
        refine start_ (n := 5) (S := fun w' => w'.cell? ⟨gb618, 0, none⟩ = some (.slice Ao32 t615.length co32) ∧ w'.cell? ⟨gb602, 0, none⟩ = some (.slice A0_0 l0_0.length c0_0)) (ds := []) #[false, false, false, false, false] (by kernel_rfl) rfl rfl ⟨(blk_cell BK618.out 0).trans rfl, (blk_cell BK602.out 0).trans rfl⟩ (fun hHeld => ?_)
        generalize wc.drew = w57 at HO_6 HO_9 HO_10 HO_619000 BK602 BK618 HB hHeld ⊢
        refine take_ (i := 0) (N := some 54) (v := ?_) (a' := ?_) #[true, false, false, false, false] rfl rfl (by kernel_rfl) (fun _ _ _ h => h) (Or.inl ⟨by rfl, ?_⟩) hHeld ?_ ?_
        rotate_left
        ·rintro w' ⟨s0, s1⟩
         go_simp
         with_reducible rfl
        rotate_left
        ·exact sa
        refine take_ (i := 1) (N := some 55) (v := ?_) (a' := ?_) #[true, true, false, false, false] rfl rfl (by kernel_rfl) (fun _ _ _ h => h) (Or.inl ⟨by rfl, ?_⟩) hHeld ?_ ?_
        rotate_left
        ·rintro w' ⟨s0, s1⟩
         go_simp
         with_reducible rfl
        rotate_left
        ·exact sa
        refine one_ (i := 2) (N := some 56) #[true, true, true, false, false] rfl rfl (by kernel_rfl) (by decide) (fun K hK => ?_)
        refine goes_ Try.func12 (by kernel_rfl) rfl #[.agg #[.slice A0_0 l0_0.length c0_0]] (by rfl) rfl rfl (aq) ?_
        with_reducible refine (laws_toTree.calls kj18 _ _ l0_0 t627 _ ?side1 ?side2 A48.out).mono ?_
        (case side1 => exact cq (Kd.C_below HR0_0.out HB.out))
        (case side2 => exact HC0_0.out)
        rintro e w58 ⟨v628, rfl, ho0, hb⟩
        refine ⟨_, rfl, ?_⟩
        have HO629 := am (Kd.R_lower (Kd.R_new' ho0 (Kd.R_lt (rq HO_619000.out))) (below_size (Y12)))
        replace HO_6 := am (Kd.R_below (rq HO_6.out) hb)
        replace HO_9 := am (Kd.R_below (rq HO_9.out) hb)
        replace HO_10 := am (Kd.R_below (rq HO_10.out) hb)
        replace HO_619000 := am (Kd.R_elder' (rq HO_619000.out) (Kd.R_base ho0) hb)
        replace BK602 := am (blk_below (g := gb602) (o := .cells #[.slice A0_0 l0_0.length c0_0] 24 (0, 0)) (kq BK602.out) hb)
        replace BK618 := am (blk_below (g := gb618) (o := .cells #[.slice Ao32 t615.length co32] 32 (0, 0)) (kq BK618.out) hb)
        replace HB := am (below_step (Y12) hb)
        (try clear hb)
        (try clear hb2)
        (try clear hk)
        (try clear hi)
        (try clear ho0)
        obtain ⟨Ao59, co59, eo59⟩ := Kd.R_slice HO629.out
        (first | subst eo59 | (injection eo59 with f1_ f2_ f3_; have f4_ := f1_.symm; have f5_ := f3_.symm; clear f1_ f2_ f3_; subst f4_; subst f5_))
        refine hK.out _ _ ⟨(blk_cell BK618.out 0).trans rfl, (blk_cell BK602.out 0).trans rfl⟩ (fun hHeld => ?_)
        clear hK K
        refine norm_ (a' := ?_) ?_ ?_
        rotate_left
        ·show Act.put _ (some 56) _ = _
         simp only [Act.put, List.setIfInBounds_toArray, List.set_cons_zero, List.set_cons_succ, i64_w, i32_w]
         rfl
        refine one_ (i := 3) (N := some 57) #[true, true, true, true, false] rfl rfl (by kernel_rfl) (by decide) (fun K hK => ?_)
        refine goes_ Try.func16 (by kernel_rfl) rfl #[.agg #[.slice Ao32 t615.length co32], .agg #[.slice Ao59 t627.length co59]] (by rfl) rfl rfl (aq) ?_
        with_reducible refine (laws_eqTree.calls kj18 _ _ t615 _ _ t627 true _ ?side1 ?side2 ?side3 ?side4 A49.out).mono ?_
        (case side1 => exact cq (Kd.R_reads' HO_619000.out).2.2)
        (case side2 => exact (Kd.R_reads' HO_619000.out).2.1)
        (case side3 => exact cq (Kd.R_reads' HO629.out).2.2)
        (case side4 => exact (Kd.R_reads' HO629.out).2.1)
        rintro e w60 ⟨rfl, hb⟩
        refine ⟨_, rfl, ?_⟩
        replace HO_6 := am (Kd.R_below (rq HO_6.out) hb)
        replace HO_9 := am (Kd.R_below (rq HO_9.out) hb)
        replace HO_10 := am (Kd.R_below (rq HO_10.out) hb)
        replace HO_619000 := am (Kd.R_below (rq HO_619000.out) hb)
        replace HO629 := am (Kd.R_below (rq HO629.out) hb)
        replace BK602 := am (blk_below (g := gb602) (o := .cells #[.slice A0_0 l0_0.length c0_0] 24 (0, 0)) (kq BK602.out) hb)
        replace BK618 := am (blk_below (g := gb618) (o := .cells #[.slice Ao32 t615.length co32] 32 (0, 0)) (kq BK618.out) hb)
        replace HB := am (below_step (Y12) hb)
        (try clear hb)
        (try clear hb2)
        (try clear hk)
        (try clear hi)
        refine hK.out _ _ ⟨(blk_cell BK618.out 0).trans rfl, (blk_cell BK602.out 0).trans rfl⟩ (fun hHeld => ?_)
        clear hK K
        refine norm_ (a' := ?_) ?_ ?_
        rotate_left
        ·show Act.put _ (some 57) _ = _
         simp only [Act.put, List.setIfInBounds_toArray, List.set_cons_zero, List.set_cons_succ, i64_w, i32_w]
         rfl
        refine pure_ (i := 4) (N := some 58) (v := ?_) (a' := ?_) #[true, true, true, true, true] rfl rfl (by kernel_rfl) (fun _ _ _ h => h) (Or.inl ⟨by rfl, ?_⟩) ?_ ?_
        rotate_left
        ·exact sb
        rotate_left
        ·exact sa
        refine done_ (by kernel_rfl) ?_
        go_upto_region 21 with (first | ((with_reducible refine gate_callee (f := 13) rfl ?_); refine gL (some 61) Try.func13 #[.slice A1 l1.length c1] ?_; (with_reducible refine (laws_toLineS.calls kj18 _ _ l1 t631 _ ?side1 ?side2 A51.out).mono ?_); (case side1 => exact cq (Kd.C_below HR1.out HB.out)); (case side2 => exact HC1.out); rintro e w61 ⟨v632, rfl, ho0, hb⟩; refine ⟨_, rfl, ?_⟩; have HO633 := am (Kd.R_lower (Kd.R_new' (Kd.R_new' (Kd.R_new' ho0 (Kd.R_lt (rq HO_6.out))) (Kd.R_lt (rq HO_9.out))) (Kd.R_lt (rq HO_10.out))) (below_size (Y12))); replace HO_6 := am (Kd.R_elder' (rq HO_6.out) (Kd.R_base ho0) hb); replace HO_9 := am (Kd.R_elder' (rq HO_9.out) (Kd.R_base ho0) hb); replace HO_10 := am (Kd.R_elder' (rq HO_10.out) (Kd.R_base ho0) hb); replace HO_619000 := am (Kd.R_below (rq HO_619000.out) hb); replace HO629 := am (Kd.R_below (rq HO629.out) hb); replace BK602 := am (blk_below (g := gb602) (o := .cells #[.slice A0_0 l0_0.length c0_0] 24 (0, 0)) (kq BK602.out) hb); replace BK618 := am (blk_below (g := gb618) (o := .cells #[.slice Ao32 t615.length co32] 32 (0, 0)) (kq BK618.out) hb); replace HB := am (below_step (Y12) hb); (try clear hb); (try clear hb2); (try clear hk); (try clear hi); (try clear ho0); obtain ⟨Ao62, co62, eo62⟩ := Kd.R_slice HO633.out; subst eo62) | ((with_reducible refine gate_callee (f := 17) rfl ?_); refine gL (some 62) Try.func17 #[.slice Ao37 t619.length co37, .slice Ao62 t631.length co62] ?_; (with_reducible refine (laws_eqLineS.calls kj18 _ _ t619 _ _ t631 true _ ?side1 ?side2 ?side3 ?side4 A52.out).mono ?_); (case side1 => exact cq (Kd.R_reads' HO_9.out).2.2); (case side2 => exact (Kd.R_reads' HO_9.out).2.1); (case side3 => exact cq (Kd.R_reads' HO633.out).2.2); (case side4 => exact (Kd.R_reads' HO633.out).2.1); rintro e w63 ⟨rfl, hb⟩; refine ⟨_, rfl, ?_⟩; replace HO_6 := am (Kd.R_below (rq HO_6.out) hb); replace HO_9 := am (Kd.R_below (rq HO_9.out) hb); replace HO_10 := am (Kd.R_below (rq HO_10.out) hb); replace HO_619000 := am (Kd.R_below (rq HO_619000.out) hb); replace HO629 := am (Kd.R_below (rq HO629.out) hb); replace HO633 := am (Kd.R_below (rq HO633.out) hb); replace BK602 := am (blk_below (g := gb602) (o := .cells #[.slice A0_0 l0_0.length c0_0] 24 (0, 0)) (kq BK602.out) hb); replace BK618 := am (blk_below (g := gb618) (o := .cells #[.slice Ao32 t615.length co32] 32 (0, 0)) (kq BK618.out) hb); replace HB := am (below_step (Y12) hb); (try clear hb); (try clear hb2); (try clear hk); (try clear hi); have hnb64 := NB618_602.out; have hnc64 := NB602_618.out; have hcz65_0 := bc0 BK618.out; have hfz65_0 := blk_frozen BK618.out 0) | ((with_reducible refine gate_callee (f := 18) rfl ?_); refine gL (some 66) Try.func18 #[.agg #[.slice Ao32 t615.length co32], .int .i64 1] ?_; (with_reducible refine (laws_markTree.calls kj18 (fun k_ => some k_ = (.slice Ao32 t615.length co32 : Value).ownBlock) (.slice Ao32 t615.length co32) t615 1 t635 t636 w _ ?side1 ?side2 A54.out).mono ?_); (case side1 => exact Y12); (case side2 => exact Kd.R_tight rfl HO_619000.out); rintro e w66 ⟨rfl, hy0, hb, hkp⟩; refine ⟨_, rfl, ?_⟩; replace HO_6 := am (Kd.R_mono (ok' := fun k_ => some k_ ≠ (.slice Ao37 t619.length co37 : Value).ownBlock ∧ some k_ ≠ (v623 : Value).ownBlock ∧ some k_ ≠ (.slice Ao62 t631.length co62 : Value).ownBlock) (Kd.R_keptB ((Kd.R_apart' HO_6.out (Kd.R_typed HO_619000.out) (by decide))) hkp (fun k_ hk_ hs_ => (hk_.2) hs_)) (fun k_ hk_ => ⟨hk_.1.1.1.1, hk_.1.1.1.2, hk_.1.1.2⟩)); replace HO_9 := am (Kd.R_mono (ok' := fun k_ => some k_ ≠ (v612 : Value).ownBlock ∧ some k_ ≠ (v623 : Value).ownBlock ∧ some k_ ≠ (.slice Ao62 t631.length co62 : Value).ownBlock) (Kd.R_keptB ((Kd.R_apart' HO_9.out (Kd.R_typed HO_619000.out) (by decide))) hkp (fun k_ hk_ hs_ => (hk_.2) hs_)) (fun k_ hk_ => ⟨hk_.1.1.1.1, hk_.1.1.1.2, hk_.1.1.2⟩)); replace HO_10 := am (Kd.R_mono (ok' := fun k_ => some k_ ≠ (v612 : Value).ownBlock ∧ some k_ ≠ (.slice Ao37 t619.length co37 : Value).ownBlock ∧ some k_ ≠ (.slice Ao62 t631.length co62 : Value).ownBlock) (Kd.R_keptB ((Kd.R_apart' HO_10.out (Kd.R_typed HO_619000.out) (by decide))) hkp (fun k_ hk_ hs_ => (hk_.2) hs_)) (fun k_ hk_ => ⟨hk_.1.1.1.1, hk_.1.1.1.2, hk_.1.1.2⟩)); replace BK602 := am (blk_kept (kq BK602.out) hkp (fun hs_ => (fun e_ => (Kd.R_ne HO_619000.out BK602.out (by decide)) e_) hs_)); replace BK618 := am (blk_kept (kq BK618.out) hkp (fun hs_ => (fun e_ => (Kd.R_ne HO_619000.out BK618.out (by decide)) e_) hs_)); replace HO629 := am (Kd.R_mono (ok' := fun k_ => some k_ ≠ (.slice Ao32 t615.length co32 : Value).ownBlock) (Kd.R_keptB (HO629.out) hkp (fun k_ hk_ hs_ => (hk_.2) hs_)) (fun k_ hk_ => hk_.1.2)); replace HO633 := am (Kd.R_mono (ok' := fun k_ => some k_ ≠ (v612 : Value).ownBlock ∧ some k_ ≠ (.slice Ao37 t619.length co37 : Value).ownBlock ∧ some k_ ≠ (v623 : Value).ownBlock) (Kd.R_keptB ((Kd.R_apart' HO633.out (Kd.R_typed HO_619000.out) (by decide))) hkp (fun k_ hk_ hs_ => (hk_.2) hs_)) (fun k_ hk_ => ⟨hk_.1.1.1.1.2, hk_.1.1.1.2, hk_.1.1.2⟩)); replace HO_619000 := am (Kd.R_reok rfl hy0 (fun k_ e_ => HO_619000.out.1 k_ e_)); replace HB := am (hb); (try clear hb); (try clear hkp); (try clear hy0)) | ((with_reducible refine gate_callee (f := 19) rfl ?_); refine gL (some 69) Try.func19 #[.slice Ao37 t619.length co37, .int .i64 t635] ?_; (with_reducible refine (laws_markLineS.calls kj18 (fun k_ => some k_ = (.slice Ao37 t619.length co37 : Value).ownBlock) (.slice Ao37 t619.length co37) t619 t635 t637 t638 w _ ?side1 ?side2 A55.out).mono ?_); (case side1 => exact Y12); (case side2 => exact Kd.R_tight rfl HO_9.out); rintro e w67 ⟨rfl, hy0, hb, hkp⟩; refine ⟨_, rfl, ?_⟩; replace HO_6 := am (Kd.R_mono (ok' := fun k_ => some k_ ≠ (.slice Ao37 t619.length co37 : Value).ownBlock ∧ some k_ ≠ (v623 : Value).ownBlock ∧ some k_ ≠ (.slice Ao62 t631.length co62 : Value).ownBlock) (Kd.R_keptB (HO_6.out) hkp (fun k_ hk_ hs_ => (hk_.1) hs_)) (fun k_ hk_ => ⟨hk_.1.1, hk_.1.2.1, hk_.1.2.2⟩)); replace HO_10 := am (Kd.R_mono (ok' := fun k_ => some k_ ≠ (v612 : Value).ownBlock ∧ some k_ ≠ (.slice Ao37 t619.length co37 : Value).ownBlock ∧ some k_ ≠ (.slice Ao62 t631.length co62 : Value).ownBlock) (Kd.R_keptB (HO_10.out) hkp (fun k_ hk_ hs_ => (hk_.2.1) hs_)) (fun k_ hk_ => ⟨hk_.1.1, hk_.1.2.1, hk_.1.2.2⟩)); replace HO_619000 := am (Kd.R_mono (ok' := fun k_ => some k_ ≠ (.slice Ao59 t627.length co59 : Value).ownBlock) (Kd.R_keptB ((Kd.R_apart' HO_619000.out (Kd.R_typed HO_9.out) (by decide))) hkp (fun k_ hk_ hs_ => (hk_.2) hs_)) (fun k_ hk_ => hk_.1.1.2)); replace BK602 := am (blk_kept (kq BK602.out) hkp (fun hs_ => (fun e_ => (Kd.R_ne HO_9.out BK602.out (by decide)) e_) hs_)); replace BK618 := am (blk_kept (kq BK618.out) hkp (fun hs_ => (fun e_ => (Kd.R_ne HO_9.out BK618.out (by decide)) e_) hs_)); replace HO629 := am (Kd.R_mono (ok' := fun k_ => some k_ ≠ (.slice Ao32 t615.length co32 : Value).ownBlock) (Kd.R_keptB ((Kd.R_apart' HO629.out (Kd.R_typed HO_9.out) (by decide))) hkp (fun k_ hk_ hs_ => (hk_.2) hs_)) (fun k_ hk_ => hk_.1.1)); replace HO_9 := am (Kd.R_reok rfl hy0 (fun k_ e_ => HO_9.out.1 k_ e_)); replace HO633 := am (Kd.R_mono (ok' := fun k_ => some k_ ≠ (v612 : Value).ownBlock ∧ some k_ ≠ (.slice Ao37 t619.length co37 : Value).ownBlock ∧ some k_ ≠ (v623 : Value).ownBlock) (Kd.R_keptB (HO633.out) hkp (fun k_ hk_ hs_ => (hk_.2.1) hs_)) (fun k_ hk_ => ⟨hk_.1.1, hk_.1.2.1, hk_.1.2.2⟩)); replace HB := am (hb); (try clear hb); (try clear hkp); (try clear hy0)))
        (try simp only [Act.put, List.setIfInBounds_toArray, List.set_cons_zero, List.set_cons_succ])
        go_cut [82] (fun v82 wc => ∃ (kq : Nat) (x82_55 : Bool), v82 = .bool x82_55 ∧ Aside0 (laws_FnExactLowerWith.j1 kq l1 t611 t614 t622 x82_55 l0_0 = some r) ∧ Aside0 (kq ≤ kj18) ∧ Aside0 (Kd.R k52 52 wc w.heap.size (fun k_ => some k_ ≠ (v623 : Value).ownBlock) v612 t611) ∧ Aside0 (Kd.R k52 52 wc w.heap.size (fun k_ => some k_ ≠ (v612 : Value).ownBlock) v623 t622) ∧ Aside0 (Kd.R k87 87 wc w.heap.size (fun _ => True) (.slice Ao32 t615.length co32) t636) ∧ Aside0 (wc.heap[gb602]? = some (.cells #[(.slice A0_0 l0_0.length c0_0)] 24 (0, 0))) ∧ Aside0 (wc.heap[gb618]? = some (.cells #[(.slice Ao32 t615.length co32)] 32 (0, 0))) ∧ Aside0 (Below w.heap.size w wc))
        case first =>
         have H := HC56.out
         clear HC56
         by_cases c68 : t637 < 0
         ·rw [if_pos c68] at H
          have c68b0 : decide (t637 < 0) = true := decide_eq_true c68
          clear c68
          (first | rw [c68b0] | (simp only [i64_w, i32_w]; rw [c68b0]) | skip)
          have H' := am H
          clear H
          go_wp2
          go_meet
          case rel => exact ⟨_, (true), (sq), H', ⟨by have := HJ18.out; first | omega | exact Nat.le_refl _⟩, ⟨by (with_reducible repeat (first | apply Kd.R_alloc | apply Kd.R_drewN | apply Kd.R_drew)); exact Kd.R_mono HO_6.out (fun _ hk => hk.2.1)⟩, ⟨by (with_reducible repeat (first | apply Kd.R_alloc | apply Kd.R_drewN | apply Kd.R_drew)); exact Kd.R_mono HO_10.out (fun _ hk => hk.1)⟩, ⟨by (with_reducible repeat (first | apply Kd.R_alloc | apply Kd.R_drewN | apply Kd.R_drew)); exact Kd.R_mono HO_619000.out (fun _ hk => trivial)⟩, ⟨kq BK602.out⟩, ⟨kq BK618.out⟩, ⟨Y12⟩⟩
         ·rw [if_neg c68] at H
          have c68b0 : decide (t637 < 0) = false := decide_eq_false c68
          clear c68
          (first | rw [c68b0] | (simp only [i64_w, i32_w]; rw [c68b0]) | skip)
          replace H := Option.bind_eq_some_iff.mp H
          obtain ⟨t639, A690, H⟩ := H
          replace H : (if t639 = true then (laws_FnExactLowerWith.j1 kj18 l1 t611 t614 t622 (t625 != t614) l0_0) else (laws_FnExactLowerWith.j1 kj18 l1 t611 t614 t622 true l0_0)) = some r := H
          have A69 := am A690
          clear A690
          by_cases c70 : t639 = true
          ·subst c70
           have H1 : (laws_FnExactLowerWith.j1 kj18 l1 t611 t614 t622 (t625 != t614) l0_0) = some r := by rw [if_pos rfl] at H; exact H
           clear H
           have H := H1
           clear H1
           have H' := am H
           clear H
           obtain ⟨Ao71, co71, eo71⟩ := Kd.R_slice HO_10.out
           subst eo71
           obtain ⟨Ao72, co72, eo72⟩ := Kd.R_slice HO_6.out
           subst eo72
           go_wp2_with (first | (go_at_call 17; (with_reducible refine (laws_eqLineS.calls kj18 _ _ t622 _ _ t611 true _ ?side1 ?side2 ?side3 ?side4 A69.out).mono ?_); (case side1 => exact cq (Kd.R_reads' HO_10.out).2.2); (case side2 => exact (Kd.R_reads' HO_10.out).2.1); (case side3 => exact cq (Kd.R_reads' HO_6.out).2.2); (case side4 => exact (Kd.R_reads' HO_6.out).2.1); rintro e w73 ⟨rfl, hb⟩; replace HO_6 := am (Kd.R_below (rq HO_6.out) hb); replace HO_9 := am (Kd.R_below (rq HO_9.out) hb); replace HO_10 := am (Kd.R_below (rq HO_10.out) hb); replace HO_619000 := am (Kd.R_below (rq HO_619000.out) hb); replace HO629 := am (Kd.R_below (rq HO629.out) hb); replace HO633 := am (Kd.R_below (rq HO633.out) hb); replace BK602 := am (blk_below (g := gb602) (o := .cells #[.slice A0_0 l0_0.length c0_0] 24 (0, 0)) (kq BK602.out) hb); replace BK618 := am (blk_below (g := gb618) (o := .cells #[.slice Ao32 t615.length co32] 32 (0, 0)) (kq BK618.out) hb); replace HB := am (below_step (Y12) hb); (try clear hb); (try clear hb2); (try clear hk); (try clear hi)))
           go_meet
           case rel => exact ⟨_, ((t625 != t614)), (sq), H', ⟨by have := HJ18.out; first | omega | exact Nat.le_refl _⟩, ⟨by (with_reducible repeat (first | apply Kd.R_alloc | apply Kd.R_drewN | apply Kd.R_drew)); exact Kd.R_mono HO_6.out (fun _ hk => hk.2.1)⟩, ⟨by (with_reducible repeat (first | apply Kd.R_alloc | apply Kd.R_drewN | apply Kd.R_drew)); exact Kd.R_mono HO_10.out (fun _ hk => hk.1)⟩, ⟨by (with_reducible repeat (first | apply Kd.R_alloc | apply Kd.R_drewN | apply Kd.R_drew)); exact Kd.R_mono HO_619000.out (fun _ hk => trivial)⟩, ⟨kq BK602.out⟩, ⟨kq BK618.out⟩, ⟨Y12⟩⟩
          ·replace c70 := Bool.eq_false_iff.mpr c70
           subst c70
           have H1 : (laws_FnExactLowerWith.j1 kj18 l1 t611 t614 t622 true l0_0) = some r := by rw [if_neg (show ¬ (false = true) by decide)] at H; exact H
           clear H
           have H := H1
           clear H1
           have H' := am H
           clear H
           obtain ⟨Ao74, co74, eo74⟩ := Kd.R_slice HO_10.out
           subst eo74
           obtain ⟨Ao75, co75, eo75⟩ := Kd.R_slice HO_6.out
           subst eo75
           go_wp2_with (first | (go_at_call 17; (with_reducible refine (laws_eqLineS.calls kj18 _ _ t622 _ _ t611 false _ ?side1 ?side2 ?side3 ?side4 A69.out).mono ?_); (case side1 => exact cq (Kd.R_reads' HO_10.out).2.2); (case side2 => exact (Kd.R_reads' HO_10.out).2.1); (case side3 => exact cq (Kd.R_reads' HO_6.out).2.2); (case side4 => exact (Kd.R_reads' HO_6.out).2.1); rintro e w76 ⟨rfl, hb⟩; replace HO_6 := am (Kd.R_below (rq HO_6.out) hb); replace HO_9 := am (Kd.R_below (rq HO_9.out) hb); replace HO_10 := am (Kd.R_below (rq HO_10.out) hb); replace HO_619000 := am (Kd.R_below (rq HO_619000.out) hb); replace HO629 := am (Kd.R_below (rq HO629.out) hb); replace HO633 := am (Kd.R_below (rq HO633.out) hb); replace BK602 := am (blk_below (g := gb602) (o := .cells #[.slice A0_0 l0_0.length c0_0] 24 (0, 0)) (kq BK602.out) hb); replace BK618 := am (blk_below (g := gb618) (o := .cells #[.slice Ao32 t615.length co32] 32 (0, 0)) (kq BK618.out) hb); replace HB := am (below_step (Y12) hb); (try clear hb); (try clear hb2); (try clear hk); (try clear hi)))
           go_meet
           case rel => exact ⟨_, (true), (sq), H', ⟨by have := HJ18.out; first | omega | exact Nat.le_refl _⟩, ⟨by (with_reducible repeat (first | apply Kd.R_alloc | apply Kd.R_drewN | apply Kd.R_drew)); exact Kd.R_mono HO_6.out (fun _ hk => hk.2.1)⟩, ⟨by (with_reducible repeat (first | apply Kd.R_alloc | apply Kd.R_drewN | apply Kd.R_drew)); exact Kd.R_mono HO_10.out (fun _ hk => hk.1)⟩, ⟨by (with_reducible repeat (first | apply Kd.R_alloc | apply Kd.R_drewN | apply Kd.R_drew)); exact Kd.R_mono HO_619000.out (fun _ hk => trivial)⟩, ⟨kq BK602.out⟩, ⟨kq BK618.out⟩, ⟨Y12⟩⟩
        case rest =>
         clear HC56
         try clear c1
         try clear c2
         try clear p2
         try clear c3
         try clear c4
         try clear c4b0
         try clear c5
         try clear c6
         try clear c7
         try clear c9
         try clear c9b0
         try clear c10
         try clear c12
         try clear c13
         try clear c16
         try clear c17
         try clear c18
         try clear c19
         try clear c22
         try clear c23
         try clear c33
         try clear c40
         try clear c47
         try clear c50
         try clear c53
         try clear c64
         try clear c68
         try clear c68b0
         try clear c70
         try clear hcz11_0
         try clear hcz21_0
         try clear hcz23_0
         try clear hcz29_0
         try clear hcz34_0
         try clear hcz36_0
         try clear hcz65_0
         try clear hcz6_0
         try clear hfz11_0
         try clear hfz21_0
         try clear hfz23_0
         try clear hfz29_0
         try clear hfz34_0
         try clear hfz36_0
         try clear hfz65_0
         try clear hfz6_0
         try clear p2
         obtain ⟨kq, x82_55, rfl, HA, HJ55, HO_6, HO_10, HO_619000, BK602, BK618, HB⟩ := hcut
         have hl619000_55 := (Kd.R_reads' HO_619000.out).1
         rw [hl619000_55] at HO_619000
         (try simp only [hl619000_55])
         (try simp only [hl619000_55] at BK602)
         (try simp only [hl619000_55] at BK618)
         (try simp only [hl619000_55] at HO_6)
         (try simp only [hl619000_55] at HO_10)
         cases kq with
         | zero => exact absurd HA.out (by simp [laws_FnExactLowerWith.j1])
         | succ kj55 =>
          have H := HA.out
          clear HA
          simp only [laws_FnExactLowerWith.j1] at H
          by_cases c77 : x82_55 = true
          ·subst c77
           have H1 : (some false) = some r := by rw [if_pos rfl] at H; exact H
           clear H
           have H := H1
           clear H1
           exact absurd ((Option.some.inj H).trans hT) Bool.false_ne_true
          ·replace c77 := Bool.eq_false_iff.mpr c77
           subst c77
           have H1 : ((laws_markLineS.f kj55 t622 1).bind fun bt640 => ((laws_heldLineS.f kj55 bt640.2 1).bind fun t642 => (if t642 < 0 then (some false) else (if t642 = bt640.1 then ((laws_toTree.f kj55 l0_0).bind fun t643 => ((laws_toLineS.f kj55 l1).bind fun t646 => ((impl_LowerWith.f kj55 t643 t646).bind fun bt649 => ((laws_eqLineS.f kj55 bt649.1 t611).bind fun t653 => (if t653 = true then (laws_FnExactLowerWith.j2 kj55 bt640.2 bt640.1 (bt649.2 != t614)) else (laws_FnExactLowerWith.j2 kj55 bt640.2 bt640.1 true)))))) else (some false))))) = some r := by rw [if_neg (show ¬ (false = true) by decide)] at H; exact H
           clear H
           have H := H1
           clear H1
           replace H := Option.bind_eq_some_iff.mp H
           obtain ⟨⟨t640, t641⟩, A780, H⟩ := H
           replace H : ((laws_heldLineS.f kj55 t641 1).bind fun t642 => (if t642 < 0 then (some false) else (if t642 = t640 then ((laws_toTree.f kj55 l0_0).bind fun t643 => ((laws_toLineS.f kj55 l1).bind fun t646 => ((impl_LowerWith.f kj55 t643 t646).bind fun bt649 => ((laws_eqLineS.f kj55 bt649.1 t611).bind fun t653 => (if t653 = true then (laws_FnExactLowerWith.j2 kj55 t641 t640 (bt649.2 != t614)) else (laws_FnExactLowerWith.j2 kj55 t641 t640 true)))))) else (some false)))) = some r := H
           have A78 := am A780
           clear A780
           replace H := Option.bind_eq_some_iff.mp H
           obtain ⟨t642, A790, H⟩ := H
           replace H : (if t642 < 0 then (some false) else (if t642 = t640 then ((laws_toTree.f kj55 l0_0).bind fun t643 => ((laws_toLineS.f kj55 l1).bind fun t646 => ((impl_LowerWith.f kj55 t643 t646).bind fun bt649 => ((laws_eqLineS.f kj55 bt649.1 t611).bind fun t653 => (if t653 = true then (laws_FnExactLowerWith.j2 kj55 t641 t640 (bt649.2 != t614)) else (laws_FnExactLowerWith.j2 kj55 t641 t640 true)))))) else (some false))) = some r := H
           have A79 := am A790
           clear A790
           by_cases c80 : t642 < 0
           ·rw [if_pos c80] at H
            have c80b0 : decide (t642 < 0) = true := decide_eq_true c80
            clear c80
            exact absurd ((Option.some.inj H).trans hT) Bool.false_ne_true
           ·rw [if_neg c80] at H
            have c80b0 : decide (t642 < 0) = false := decide_eq_false c80
            clear c80
            by_cases c81 : t642 = t640
            ·rw [if_pos c81] at H
             have c81b0 : (t642 == t640) = true := beq_iff_eq.mpr c81
             have c81b1 : (t642 != t640) = false := bne_eq_false_iff_eq.mpr c81
             clear c81
             replace H := Option.bind_eq_some_iff.mp H
             obtain ⟨t643, A820, H⟩ := H
             replace H : ((laws_toLineS.f kj55 l1).bind fun t646 => ((impl_LowerWith.f kj55 t643 t646).bind fun bt649 => ((laws_eqLineS.f kj55 bt649.1 t611).bind fun t653 => (if t653 = true then (laws_FnExactLowerWith.j2 kj55 t641 t640 (bt649.2 != t614)) else (laws_FnExactLowerWith.j2 kj55 t641 t640 true))))) = some r := H
             have A82 := am A820
             clear A820
             replace H := Option.bind_eq_some_iff.mp H
             obtain ⟨t646, A830, H⟩ := H
             replace H : ((impl_LowerWith.f kj55 t643 t646).bind fun bt649 => ((laws_eqLineS.f kj55 bt649.1 t611).bind fun t653 => (if t653 = true then (laws_FnExactLowerWith.j2 kj55 t641 t640 (bt649.2 != t614)) else (laws_FnExactLowerWith.j2 kj55 t641 t640 true)))) = some r := H
             have A83 := am A830
             clear A830
             replace H := Option.bind_eq_some_iff.mp H
             obtain ⟨⟨t649, t652⟩, A840, H⟩ := H
             replace H : ((laws_eqLineS.f kj55 t649 t611).bind fun t653 => (if t653 = true then (laws_FnExactLowerWith.j2 kj55 t641 t640 (t652 != t614)) else (laws_FnExactLowerWith.j2 kj55 t641 t640 true))) = some r := H
             have A84 := am A840
             clear A840
             have HC85 := am H
             clear H
             obtain ⟨Ao86, co86, eo86⟩ := Kd.R_slice HO_10.out
             subst eo86
             go_upto_region 32 with (first | ((with_reducible refine gate_callee (f := 19) rfl ?_); refine gL (some 85) Try.func19 #[.slice Ao86 t622.length co86, .int .i64 1] ?_; (with_reducible refine (laws_markLineS.calls kj55 (fun k_ => some k_ = (.slice Ao86 t622.length co86 : Value).ownBlock) (.slice Ao86 t622.length co86) t622 1 t640 t641 w _ ?side1 ?side2 A78.out).mono ?_); (case side1 => exact Y12); (case side2 => exact Kd.R_tight rfl HO_10.out); rintro e w87 ⟨rfl, hy0, hb, hkp⟩; refine ⟨_, rfl, ?_⟩; replace HO_6 := am (Kd.R_mono (ok' := fun k_ => some k_ ≠ (.slice Ao86 t622.length co86 : Value).ownBlock) (Kd.R_keptB (HO_6.out) hkp (fun k_ hk_ hs_ => (hk_) hs_)) (fun k_ hk_ => hk_.1)); replace HO_619000 := am (Kd.R_mono (ok' := fun k_ => True) (Kd.R_keptB ((Kd.R_apart' HO_619000.out (Kd.R_typed HO_10.out) (by decide))) hkp (fun k_ hk_ hs_ => (hk_.2) hs_)) (fun k_ hk_ => trivial)); replace BK602 := am (blk_kept (kq BK602.out) hkp (fun hs_ => (fun e_ => (Kd.R_ne HO_10.out BK602.out (by decide)) e_) hs_)); replace BK618 := am (blk_kept (kq BK618.out) hkp (fun hs_ => (fun e_ => (Kd.R_ne HO_10.out BK618.out (by decide)) e_) hs_)); replace HO_10 := am (Kd.R_reok rfl hy0 (fun k_ e_ => HO_10.out.1 k_ e_)); replace HB := am (hb); (try clear hb); (try clear hkp); (try clear hy0)) | ((with_reducible refine gate_callee (f := 24) rfl ?_); refine goesL_ (some 88) rfl rfl Try.func24 (by kernel_rfl) rfl #[.slice Ao86 t641.length co86, .int .i64 1] rfl (by (try simp only [List.map_toArray, List.map_cons, List.map_nil]); first | done | (rw [show t641.length = t622.length from (Kd.R_reads' HO_10.out).1.symm] <;> rfl) | rfl | (simp only [List.length_drop, List.length_take]; rfl)) ?_; (with_reducible refine (laws_heldLineS.calls kj55 _ _ t641 1 t642 _ ?side1 ?side2 A79.out).mono ?_); (case side1 => exact cq (Kd.R_reads' HO_10.out).2.2); (case side2 => rw [show t641.length = t622.length from (Kd.R_reads' HO_10.out).1.symm]; exact (Kd.R_reads' HO_10.out).2.1); rintro e w' ⟨rfl, ⟨nd, rfl⟩⟩; refine ⟨_, rfl, ?_⟩; have hnb88 := NB602_618.out; have hnc88 := NB618_602.out; have hcz89_0 := bc0 BK602.out; have hfz89_0 := blk_frozen BK602.out 0) | ((with_reducible refine gate_callee (f := 12) rfl ?_); refine gL (some 96) Try.func12 #[.agg #[.slice A0_0 l0_0.length c0_0]] ?_; (with_reducible refine (laws_toTree.calls kj55 _ _ l0_0 t643 _ ?side1 ?side2 A82.out).mono ?_); (case side1 => repeat (first | exact (Kd.C_below HR0_0.out (by repeat (first | (with_reducible first | exact HB.out | apply below_alloc | apply pw_below_drewN | apply below_drew1 | refine below_set ?_ GE602.out | refine below_set ?_ GE618.out) | exact HB.out))) | (with_reducible refine Kd.C_alloc ?_ _) | (with_reducible refine Kd.C_drewN ?_ _) | (with_reducible refine Kd.C_drew ?_))); (case side2 => exact HC0_0.out); rintro e w90 ⟨v644, rfl, ho0, hb⟩; refine ⟨_, rfl, ?_⟩; have HO645 := am (Kd.R_lower (Kd.R_new' ho0 (Kd.R_lt (rq HO_619000.out))) (below_size (Y12))); replace HO_6 := am (Kd.R_below (rq HO_6.out) hb); replace HO_10 := am (Kd.R_below (rq HO_10.out) hb); replace HO_619000 := am (Kd.R_elder' (rq HO_619000.out) (Kd.R_base ho0) hb); replace BK602 := am (blk_below (g := gb602) (o := .cells #[.slice A0_0 l0_0.length c0_0] 24 (0, 0)) (kq BK602.out) hb); replace BK618 := am (blk_below (g := gb618) (o := .cells #[.slice Ao32 t636.length co32] 32 (0, 0)) (kq BK618.out) hb); replace HB := am (below_step (Y12) hb); (try clear hb); (try clear hb2); (try clear hk); (try clear hi); (try clear ho0)) | ((with_reducible refine gate_callee (f := 13) rfl ?_); refine gL (some 98) Try.func13 #[.slice A1 l1.length c1] ?_; (with_reducible refine (laws_toLineS.calls kj55 _ _ l1 t646 _ ?side1 ?side2 A83.out).mono ?_); (case side1 => exact cq (Kd.C_below HR1.out HB.out)); (case side2 => exact HC1.out); rintro e w91 ⟨v647, rfl, ho0, hb⟩; refine ⟨_, rfl, ?_⟩; have HO648 := am (Kd.R_lower (Kd.R_new' (Kd.R_new' ho0 (Kd.R_lt (rq HO_6.out))) (Kd.R_lt (rq HO_10.out))) (below_size (Y12))); replace HO_6 := am (Kd.R_elder' (rq HO_6.out) (Kd.R_base ho0) hb); replace HO_10 := am (Kd.R_elder' (rq HO_10.out) (Kd.R_base ho0) hb); replace HO_619000 := am (Kd.R_below (rq HO_619000.out) hb); replace HO645 := am (Kd.R_below (rq HO645.out) hb); replace BK602 := am (blk_below (g := gb602) (o := .cells #[.slice A0_0 l0_0.length c0_0] 24 (0, 0)) (kq BK602.out) hb); replace BK618 := am (blk_below (g := gb618) (o := .cells #[.slice Ao32 t636.length co32] 32 (0, 0)) (kq BK618.out) hb); replace HB := am (below_step (Y12) hb); (try clear hb); (try clear hb2); (try clear hk); (try clear hi); (try clear ho0); obtain ⟨Ao92, co92, eo92⟩ := Kd.R_slice HO645.out; subst eo92; obtain ⟨Ao93, co93, eo93⟩ := Kd.R_slice HO648.out; subst eo93) | ((with_reducible refine gate_callee (f := 23) rfl ?_); refine gL (some 99) Try.func23 #[.agg #[.slice Ao92 t643.length co92], .slice Ao93 t646.length co93] ?_; (with_reducible refine (impl_LowerWith.calls kj55 _ _ t643 _ _ t646 t649 t652 _ ?side1 ?side2 ?side3 ?side4 A84.out).mono ?_); (case side1 => exact cq (Kd.R_reads' HO645.out).2.2); (case side2 => exact (Kd.R_reads' HO645.out).2.1); (case side3 => exact cq (Kd.R_reads' HO648.out).2.2); (case side4 => exact (Kd.R_reads' HO648.out).2.1); rintro e w94 ⟨v650, rfl, ho0, hb⟩; refine ⟨_, rfl, ?_⟩; have HO651 := am (Kd.R_lower (Kd.R_new' (Kd.R_new' (Kd.R_new' ho0 (Kd.R_lt (rq HO_6.out))) (Kd.R_lt (rq HO_10.out))) (Kd.R_lt (rq HO648.out))) (below_size (Y12))); replace HO_6 := am (Kd.R_elder' (rq HO_6.out) (Kd.R_base ho0) hb); replace HO_10 := am (Kd.R_elder' (rq HO_10.out) (Kd.R_base ho0) hb); replace HO_619000 := am (Kd.R_below (rq HO_619000.out) hb); replace HO645 := am (Kd.R_below (rq HO645.out) hb); replace HO648 := am (Kd.R_elder' (rq HO648.out) (Kd.R_base ho0) hb); replace BK602 := am (blk_below (g := gb602) (o := .cells #[.slice A0_0 l0_0.length c0_0] 24 (0, 0)) (kq BK602.out) hb); replace BK618 := am (blk_below (g := gb618) (o := .cells #[.slice Ao32 t636.length co32] 32 (0, 0)) (kq BK618.out) hb); replace HB := am (below_step (Y12) hb); (try clear hb); (try clear hb2); (try clear hk); (try clear hi); (try clear ho0)))
             (try simp only [Act.put, List.setIfInBounds_toArray, List.set_cons_zero, List.set_cons_succ])
             go_cut [110] (fun v110 wc => ∃ (kq : Nat) (x110_84 : Bool), v110 = .bool x110_84 ∧ Aside0 (laws_FnExactLowerWith.j2 kq t641 t640 x110_84 = some r) ∧ Aside0 (kq ≤ kj55) ∧ Aside0 (Kd.R k52 52 wc w.heap.size (fun _ => True) (.slice Ao86 t622.length co86) t641) ∧ Aside0 (Kd.R k87 87 wc w.heap.size (fun _ => True) (.slice Ao32 t636.length co32) t636) ∧ Aside0 (wc.heap[gb602]? = some (.cells #[(.slice A0_0 l0_0.length c0_0)] 24 (0, 0))) ∧ Aside0 (wc.heap[gb618]? = some (.cells #[(.slice Ao32 t636.length co32)] 32 (0, 0))) ∧ Aside0 (Below w.heap.size w wc))
             case first =>
              have H := HC85.out
              clear HC85
              replace H := Option.bind_eq_some_iff.mp H
              obtain ⟨t653, A950, H⟩ := H
              replace H : (if t653 = true then (laws_FnExactLowerWith.j2 kj55 t641 t640 (t652 != t614)) else (laws_FnExactLowerWith.j2 kj55 t641 t640 true)) = some r := H
              have A95 := am A950
              clear A950
              by_cases c96 : t653 = true
              ·subst c96
               have H1 : (laws_FnExactLowerWith.j2 kj55 t641 t640 (t652 != t614)) = some r := by rw [if_pos rfl] at H; exact H
               clear H
               have H := H1
               clear H1
               have H' := am H
               clear H
               obtain ⟨Ao97, co97, eo97⟩ := Kd.R_slice HO651.out
               subst eo97
               obtain ⟨Ao98, co98, eo98⟩ := Kd.R_slice HO_6.out
               subst eo98
               go_wp2_with (first | ((with_reducible refine gate_callee (f := 17) rfl ?_); refine gL (some 104) Try.func17 #[.slice Ao97 t649.length co97, .slice Ao98 t611.length co98] ?_; (with_reducible refine (laws_eqLineS.calls kj55 _ _ t649 _ _ t611 true _ ?side1 ?side2 ?side3 ?side4 A95.out).mono ?_); (case side1 => exact cq (Kd.R_reads' HO651.out).2.2); (case side2 => exact (Kd.R_reads' HO651.out).2.1); (case side3 => exact cq (Kd.R_reads' HO_6.out).2.2); (case side4 => exact (Kd.R_reads' HO_6.out).2.1); rintro e w99 ⟨rfl, hb⟩; refine ⟨_, rfl, ?_⟩; replace HO_6 := am (Kd.R_below (rq HO_6.out) hb); replace HO_10 := am (Kd.R_below (rq HO_10.out) hb); replace HO_619000 := am (Kd.R_below (rq HO_619000.out) hb); replace HO645 := am (Kd.R_below (rq HO645.out) hb); replace HO648 := am (Kd.R_below (rq HO648.out) hb); replace HO651 := am (Kd.R_below (rq HO651.out) hb); replace BK602 := am (blk_below (g := gb602) (o := .cells #[.slice A0_0 l0_0.length c0_0] 24 (0, 0)) (kq BK602.out) hb); replace BK618 := am (blk_below (g := gb618) (o := .cells #[.slice Ao32 t636.length co32] 32 (0, 0)) (kq BK618.out) hb); replace HB := am (below_step (Y12) hb); (try clear hb); (try clear hb2); (try clear hk); (try clear hi)))
               go_meet
               case rel => exact ⟨_, ((t652 != t614)), (sq), H', ⟨by have := HJ18.out; have := HJ55.out; first | omega | exact Nat.le_refl _⟩, ⟨by (try simp only [hl619000_55]); (with_reducible repeat (first | apply Kd.R_alloc | apply Kd.R_drewN | apply Kd.R_drew)); exact Kd.R_mono HO_10.out (fun _ hk => trivial)⟩, ⟨by (try simp only [hl619000_55]); (with_reducible repeat (first | apply Kd.R_alloc | apply Kd.R_drewN | apply Kd.R_drew)); exact Kd.R_mono HO_619000.out (fun _ hk => trivial)⟩, ⟨by (try simp only [hl619000_55]); (with_reducible repeat (first | refine blk_drewN ?_ _ | refine blk_drew ?_ | refine blk_alloc ?_ _)); exact BK602.out⟩, ⟨by (try simp only [hl619000_55]); (with_reducible repeat (first | refine blk_drewN ?_ _ | refine blk_drew ?_ | refine blk_alloc ?_ _)); exact BK618.out⟩, ⟨Y12⟩⟩
              ·replace c96 := Bool.eq_false_iff.mpr c96
               subst c96
               have H1 : (laws_FnExactLowerWith.j2 kj55 t641 t640 true) = some r := by rw [if_neg (show ¬ (false = true) by decide)] at H; exact H
               clear H
               have H := H1
               clear H1
               have H' := am H
               clear H
               obtain ⟨Ao100, co100, eo100⟩ := Kd.R_slice HO651.out
               subst eo100
               obtain ⟨Ao101, co101, eo101⟩ := Kd.R_slice HO_6.out
               subst eo101
               go_wp2_with (first | ((with_reducible refine gate_callee (f := 17) rfl ?_); refine gL (some 104) Try.func17 #[.slice Ao100 t649.length co100, .slice Ao101 t611.length co101] ?_; (with_reducible refine (laws_eqLineS.calls kj55 _ _ t649 _ _ t611 false _ ?side1 ?side2 ?side3 ?side4 A95.out).mono ?_); (case side1 => exact cq (Kd.R_reads' HO651.out).2.2); (case side2 => exact (Kd.R_reads' HO651.out).2.1); (case side3 => exact cq (Kd.R_reads' HO_6.out).2.2); (case side4 => exact (Kd.R_reads' HO_6.out).2.1); rintro e w102 ⟨rfl, hb⟩; refine ⟨_, rfl, ?_⟩; replace HO_6 := am (Kd.R_below (rq HO_6.out) hb); replace HO_10 := am (Kd.R_below (rq HO_10.out) hb); replace HO_619000 := am (Kd.R_below (rq HO_619000.out) hb); replace HO645 := am (Kd.R_below (rq HO645.out) hb); replace HO648 := am (Kd.R_below (rq HO648.out) hb); replace HO651 := am (Kd.R_below (rq HO651.out) hb); replace BK602 := am (blk_below (g := gb602) (o := .cells #[.slice A0_0 l0_0.length c0_0] 24 (0, 0)) (kq BK602.out) hb); replace BK618 := am (blk_below (g := gb618) (o := .cells #[.slice Ao32 t636.length co32] 32 (0, 0)) (kq BK618.out) hb); replace HB := am (below_step (Y12) hb); (try clear hb); (try clear hb2); (try clear hk); (try clear hi)))
               go_meet
               case rel => exact ⟨_, (true), (sq), H', ⟨by have := HJ18.out; have := HJ55.out; first | omega | exact Nat.le_refl _⟩, ⟨by (try simp only [hl619000_55]); (with_reducible repeat (first | apply Kd.R_alloc | apply Kd.R_drewN | apply Kd.R_drew)); exact Kd.R_mono HO_10.out (fun _ hk => trivial)⟩, ⟨by (try simp only [hl619000_55]); (with_reducible repeat (first | apply Kd.R_alloc | apply Kd.R_drewN | apply Kd.R_drew)); exact Kd.R_mono HO_619000.out (fun _ hk => trivial)⟩, ⟨by (try simp only [hl619000_55]); (with_reducible repeat (first | refine blk_drewN ?_ _ | refine blk_drew ?_ | refine blk_alloc ?_ _)); exact BK602.out⟩, ⟨by (try simp only [hl619000_55]); (with_reducible repeat (first | refine blk_drewN ?_ _ | refine blk_drew ?_ | refine blk_alloc ?_ _)); exact BK618.out⟩, ⟨Y12⟩⟩
             case rest =>
              clear HC85
              try clear c1
              try clear c2
              try clear p2
              try clear c3
              try clear c4
              try clear c4b0
              try clear c5
              try clear c6
              try clear c7
              try clear c8
              try clear c9
              try clear c9b0
              try clear c10
              try clear c12
              try clear c13
              try clear c16
              try clear c17
              try clear c18
              try clear c19
              try clear c22
              try clear c23
              try clear c24
              try clear c33
              try clear c40
              try clear c47
              try clear c50
              try clear c53
              try clear c64
              try clear c68
              try clear c68b0
              try clear c70
              try clear c77
              try clear c80
              try clear c80b0
              try clear c81
              try clear c81b0
              try clear c81b1
              try clear c88
              try clear c96
              try clear hcz11_0
              try clear hcz21_0
              try clear hcz23_0
              try clear hcz29_0
              try clear hcz34_0
              try clear hcz36_0
              try clear hcz65_0
              try clear hcz6_0
              try clear hcz89_0
              try clear hfz11_0
              try clear hfz21_0
              try clear hfz23_0
              try clear hfz29_0
              try clear hfz34_0
              try clear hfz36_0
              try clear hfz65_0
              try clear hfz6_0
              try clear hfz89_0
              try clear p2
              obtain ⟨kq, x110_84, rfl, HA, HJ84, HO_10, HO_619000, BK602, BK618, HB⟩ := hcut
              have hl10_84 := (Kd.R_reads' HO_10.out).1
              rw [hl10_84] at HO_10
              (try simp only [hl10_84])
              (try simp only [hl10_84] at BK602)
              (try simp only [hl10_84] at BK618)
              (try simp only [hl10_84] at HO_619000)
              cases kq with
              | zero => exact absurd HA.out (by simp [laws_FnExactLowerWith.j2])
              | succ kj84 =>
               have H := HA.out
               clear HA
               simp only [laws_FnExactLowerWith.j2] at H
               by_cases c103 : x110_84 = true
               ·subst c103
                have H1 : (some false) = some r := by rw [if_pos rfl] at H; exact H
                clear H
                have H := H1
                clear H1
                exact absurd ((Option.some.inj H).trans hT) Bool.false_ne_true
               ·replace c103 := Bool.eq_false_iff.mpr c103
                subst c103
                have H1 : ((laws_heldLineS.f kj84 t641 1).bind fun t654 => (if t654 < 0 then (some false) else (if t654 = t640 then (some true) else (some false)))) = some r := by rw [if_neg (show ¬ (false = true) by decide)] at H; exact H
                clear H
                have H := H1
                clear H1
                replace H := Option.bind_eq_some_iff.mp H
                obtain ⟨t654, A1040, H⟩ := H
                replace H : (if t654 < 0 then (some false) else (if t654 = t640 then (some true) else (some false))) = some r := H
                have A104 := am A1040
                clear A1040
                by_cases c105 : t654 < 0
                ·rw [if_pos c105] at H
                 have c105b0 : decide (t654 < 0) = true := decide_eq_true c105
                 clear c105
                 exact absurd ((Option.some.inj H).trans hT) Bool.false_ne_true
                ·rw [if_neg c105] at H
                 have c105b0 : decide (t654 < 0) = false := decide_eq_false c105
                 clear c105
                 by_cases c106 : t654 = t640
                 ·rw [if_pos c106] at H
                  have c106b0 : (t654 == t640) = true := beq_iff_eq.mpr c106
                  have c106b1 : (t654 != t640) = false := bne_eq_false_iff_eq.mpr c106
                  clear c106
                  obtain rfl := Option.some.inj H
                  go_wp2_with (first | ((with_reducible refine gate_callee (f := 24) rfl ?_); refine gL (some 113) Try.func24 #[.slice Ao86 t641.length co86, .int .i64 1] ?_; (with_reducible refine (laws_heldLineS.calls kj84 _ _ t641 1 t654 _ ?side1 ?side2 A104.out).mono ?_); (case side1 => exact cq (Kd.R_reads' HO_10.out).2.2); (case side2 => exact (Kd.R_reads' HO_10.out).2.1); rintro e w' ⟨rfl, ⟨nd, rfl⟩⟩; refine ⟨_, rfl, ?_⟩))
                  go_ret
                  exact ⟨Y0, Y12⟩
                 ·rw [if_neg c106] at H
                  have c106b0 : (t654 == t640) = false := beq_eq_false_iff_ne.mpr c106
                  have c106b1 : (t654 != t640) = true := bne_iff_ne.mpr c106
                  exact absurd ((Option.some.inj H).trans hT) Bool.false_ne_true
            ·rw [if_neg c81] at H
             have c81b0 : (t642 == t640) = false := beq_eq_false_iff_ne.mpr c81
             have c81b1 : (t642 != t640) = true := bne_iff_ne.mpr c81
             exact absurd ((Option.some.inj H).trans hT) Bool.false_ne_true
       ·replace c53 := Bool.eq_false_iff.mpr c53
        subst c53
        have H1 : (some false) = some r := by rw [if_neg (show ¬ (false = true) by decide)] at H; exact H
        clear H
        have H := H1
        clear H1
        exact absurd ((Option.some.inj H).trans hT) Bool.false_ne_true
      ·replace c50 := Bool.eq_false_iff.mpr c50
       subst c50
       have H1 : (some false) = some r := by rw [if_neg (show ¬ (false = true) by decide)] at H; exact H
       clear H
       have H := H1
       clear H1
       exact absurd ((Option.some.inj H).trans hT) Bool.false_ne_true
end Go.Proofs.Ytkokajljeebgdaa.P
end
