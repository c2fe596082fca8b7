/- One part of the proofs on this program: functions of the program as plain functions, that the code comes to them, and facts on them. -/
import Derived.Test.YtbcjbcjpoddkoaaYAll1
import Derived.Test.YtbcjbcjpoddkoaaYAll8
import Derived.Test.YtbcjbcjpoddkoaaYWAuto
section
namespace Go.Proofs.Ytbcjbcjpoddkoaa.P
open Go.RowKit Go.Proofs.YtbcjbcjpoddkoaaW.PrintWords Go.Proofs.YtbcjbcjpoddkoaaW.PrintLast Go.Proofs.YtbcjbcjpoddkoaaW.PrintMore
attribute [local go_sem] max2_int min2_int max_two min_two max_three min_three max_four min_four isSome_cell_setCell
set_option linter.unusedVariables false
set_option linter.unusedSimpArgs false
mutual
def laws_FnLookUp.j0 : Nat → List (S48) → Int → Int → Int → Bool → List (S98) → Option (Bool)
 | 0, _, _, _, _, _, _ => none
 | k + 1, x4, x5, x6, x7, x35, x805000 => if x35 = true then ((spec_LookUp.f k x805000 x4 x5 x6).bind fun t807 => (some (x7 == t807))) else (laws_FnLookUp.l0 k x4 x5 x6 x7 0 x805000)
def laws_FnLookUp.l0 : Nat → List (S48) → Int → Int → Int → Int → List (S98) → Option (Bool)
 | 0, _, _, _, _, _, _ => none
 | k + 1, x4, x5, x6, x7, x8, x805000 => if x8 < (x4.length : Int) then (if 0 ≤ x8 then (if ((rd_T48 x4 x8).f0) ≤ x5 then (if x5 < ((rd_T48 x4 x8).f1) then ((impl_IsA.f k x805000 x6 ((rd_T48 x4 x8).f3)).bind fun t810 => (laws_FnLookUp.j2 k x4 x5 x6 x7 x8 t810 x805000 ((rd_T48 x4 x8).f0) ((rd_T48 x4 x8).f1) ((rd_T48 x4 x8).f2) ((rd_T48 x4 x8).f3))) else (laws_FnLookUp.j2 k x4 x5 x6 x7 x8 false x805000 ((rd_T48 x4 x8).f0) ((rd_T48 x4 x8).f1) ((rd_T48 x4 x8).f2) ((rd_T48 x4 x8).f3))) else (laws_FnLookUp.j2 k x4 x5 x6 x7 x8 false x805000 ((rd_T48 x4 x8).f0) ((rd_T48 x4 x8).f1) ((rd_T48 x4 x8).f2) ((rd_T48 x4 x8).f3))) else (none)) else (some false)
def laws_FnLookUp.j2 : Nat → List (S48) → Int → Int → Int → Int → Bool → List (S98) → Int → Int → Int → Int → Option (Bool)
 | 0, _, _, _, _, _, _, _, _, _, _, _ => none
 | k + 1, x4, x5, x6, x7, x8, x69, x805000, x810000, x810001, x810002, x810003 => if x69 = true then (some (x810002 == x7)) else (laws_FnLookUp.l0 k x4 x5 x6 x7 (wrap64 (x8 + 1)) x805000)
end
def laws_FnLookUp.f (k : Nat) (l0 : List Int) : Option (Bool) := if (l0.length : Int) > 1048576 then (some true) else ((spec_DrawLookUp.f k l0).bind fun bt796 => ((impl_LookUp.f k bt796.1 bt796.2.1 bt796.2.2.1 bt796.2.2.2).bind fun t805 => ((spec_LookUp.f k bt796.1 bt796.2.1 bt796.2.2.1 bt796.2.2.2).bind fun t806 => (if t805 = t806 then (laws_FnLookUp.j0 k bt796.2.1 bt796.2.2.1 bt796.2.2.2 t805 (decide (t805 < 0)) bt796.1) else (laws_FnLookUp.j0 k bt796.2.1 bt796.2.2.1 bt796.2.2.2 t805 true bt796.1)))))
set_option maxHeartbeats 8000000 in
set_option maxRecDepth 100000 in
theorem laws_FnLookUp.calls (k : Nat) (A0 : Option Addr) (c0 : Nat) (l0 : List Int) (r : Bool) (w : World) (hr0 : Kd.C (Kd.int .u8) w A0 l0.length l0) (hc0 : l0.length ≤ c0) (hT : r = true) (h : laws_FnLookUp.f k l0 = some r) :
  Calls Try.prog 6 #[.slice A0 l0.length c0] w fun e w' => e = .returned (.bool r) ∧ Below w.heap.size w w' := by
 have hu32 := Try.underlying32
 have hu48 := Try.underlying48
 have HR0 := am hr0
 have HC0 := am hc0
 clear hr0 hc0
 have HB := am (Below.refl w.heap.size w)
 have H : (if (l0.length : Int) > 1048576 then (some true) else ((spec_DrawLookUp.f k l0).bind fun bt796 => ((impl_LookUp.f k bt796.1 bt796.2.1 bt796.2.2.1 bt796.2.2.2).bind fun t805 => ((spec_LookUp.f k bt796.1 bt796.2.1 bt796.2.2.1 bt796.2.2.2).bind fun t806 => (if t805 = t806 then (laws_FnLookUp.j0 k bt796.2.1 bt796.2.2.1 bt796.2.2.2 t805 (decide (t805 < 0)) bt796.1) else (laws_FnLookUp.j0 k bt796.2.1 bt796.2.2.1 bt796.2.2.2 t805 true bt796.1)))))) = some r := h
 clear h
 by_cases c2 : (l0.length : Int) > 1048576
 ·rw [if_pos c2] at H
  have c2b0 : decide (1048576 < (l0.length : Int)) = true := decide_eq_true c2
  have c2b1 : decide (1048576 < l0.length) = true := decide_eq_true (by omega)
  clear c2
  obtain rfl := Option.some.inj H
  go_enter Try.func6, Try.ntmps6
  go_wp2
  go_ret
  exact ⟨Y0, bq⟩
 ·rw [if_neg c2] at H
  have c2b0 : decide (1048576 < (l0.length : Int)) = false := decide_eq_false c2
  have c2b1 : decide (1048576 < l0.length) = false := decide_eq_false (by omega)
  clear c2
  replace H := Option.bind_eq_some_iff.mp H
  obtain ⟨⟨t796, t799, t802, t803⟩, A30, H⟩ := H
  replace H : ((impl_LookUp.f k t796 t799 t802 t803).bind fun t805 => ((spec_LookUp.f k t796 t799 t802 t803).bind fun t806 => (if t805 = t806 then (laws_FnLookUp.j0 k t799 t802 t803 t805 (decide (t805 < 0)) t796) else (laws_FnLookUp.j0 k t799 t802 t803 t805 true t796)))) = some r := H
  have A3 := am A30
  clear A30
  replace H := Option.bind_eq_some_iff.mp H
  obtain ⟨t805, A40, H⟩ := H
  replace H : ((spec_LookUp.f k t796 t799 t802 t803).bind fun t806 => (if t805 = t806 then (laws_FnLookUp.j0 k t799 t802 t803 t805 (decide (t805 < 0)) t796) else (laws_FnLookUp.j0 k t799 t802 t803 t805 true t796))) = some r := H
  have A4 := am A40
  clear A40
  have HC5 := am H
  clear H
  go_enter Try.func6, Try.ntmps6
  go_upto_region 5 with (first | ((with_reducible refine gate_callee (f := 25) rfl ?_); refine gL (some 15) Try.func25 #[.slice A0 l0.length c0] ?_; (with_reducible refine (spec_DrawLookUp.calls k _ _ l0 t796 t799 t802 t803 _ ?side1 ?side2 A3.out).mono ?_); (case side1 => exact Y35); (case side2 => exact HC0.out); rintro e w6 ⟨v797, v800, rfl, ho0, ho1, hb⟩; refine ⟨_, rfl, ?_⟩; have HO798 := am (Kd.R_lower ho0 (below_size (bq))); have HO801 := am (Kd.R_lower ho1 (below_size (bq))); replace HB := am (below_step (bq) hb); (try clear hb); (try clear hb2); (try clear hk); (try clear hi); (try clear ho0); (try clear ho1)) | ((with_reducible refine gate_dst (N := 3) rfl ?_); refine bE (N := 3) (cs := #[.slice none 0 0]) (t := 32) ?_; intro gb804 hg w7 hbox hb; have BK804 := am (hbox); have GW804 := am ((Y11 : w.heap.size ≤ gb804)); have GE804 := am ((Y11 : w.heap.size ≤ gb804)); replace HO798 := am (Kd.R_below (rq HO798.out) hb); replace HO801 := am (Kd.R_below (rq HO801.out) hb); replace HB := am (below_step (bq) hb); clear hb hbox hg; obtain ⟨Ao8, co8, eo8⟩ := Kd.R_slice HO798.out; subst eo8; have hcz9_0 := bc0 BK804.out; have hfz9_0 := blk_frozen BK804.out 0; obtain ⟨Ao10, co10, eo10⟩ := Kd.R_slice HO801.out; subst eo10) | ((with_reducible refine gate_callee (f := 23) rfl ?_); refine gL (some 24) Try.func23 #[.agg #[.slice Ao8 t796.length co8], .slice Ao10 t799.length co10, .int .i64 t802, .int .i64 t803] ?_; (with_reducible refine (impl_LookUp.calls k _ _ t796 _ _ t799 t802 t803 t805 _ ?side1 ?side2 ?side3 ?side4 A4.out).mono ?_); (case side1 => refine (Kd.R_reads' (e := 98) (base := w.heap.size) (ok := fun k_ => True) (n := t796.length) (c := co8) ?_).2.2; exact (Y128)); (case side2 => exact (Kd.R_reads' HO798.out).2.1); (case side3 => refine (Kd.R_reads' (e := 48) (base := w.heap.size) (ok := fun k_ => True) (n := t799.length) (c := co10) ?_).2.2; exact (Y129)); (case side4 => exact (Kd.R_reads' HO801.out).2.1); rintro e w11 ⟨rfl, hb⟩; refine ⟨_, rfl, ?_⟩; replace HO798 := am (Kd.R_below (Y128) hb); replace HO801 := am (Kd.R_below (Y129) hb); replace BK804 := am (blk_below (g := gb804) (o := .cells #[.slice Ao8 t796.length co8] 32 (0, 0)) (by (with_reducible repeat (first | refine blk_drewN ?_ _ | refine blk_drew ?_ | refine blk_alloc ?_ _)); refine blk_put (cs := #[.slice none 0 0]) ?_ 0 _ rfl; (with_reducible repeat (first | refine blk_drewN ?_ _ | refine blk_drew ?_ | refine blk_alloc ?_ _)); exact BK804.out) hb); replace HB := am (below_step (Y47) hb); (try clear hb); (try clear hb2); (try clear hk); (try clear hi)))
  (try simp only [Act.put, List.setIfInBounds_toArray, List.set_cons_zero, List.set_cons_succ])
  go_cut [35] (fun v35 wc => ∃ (kq : Nat) (x35_4 : Bool), v35 = .bool x35_4 ∧ Aside0 (laws_FnLookUp.j0 kq t799 t802 t803 t805 x35_4 t796 = some r) ∧ Aside0 (kq ≤ k) ∧ Aside0 (Kd.R k48 48 wc w.heap.size (fun _ => True) (.slice Ao10 t799.length co10) t799) ∧ Aside0 (Kd.R k98 98 wc w.heap.size (fun _ => True) (.slice Ao8 t796.length co8) t796) ∧ Aside0 (wc.heap[gb804]? = some (.cells #[(.slice Ao8 t796.length co8)] 32 (0, 0))) ∧ Aside0 (Below w.heap.size w wc))
  case first =>
   have H := HC5.out
   clear HC5
   replace H := Option.bind_eq_some_iff.mp H
   obtain ⟨t806, A120, H⟩ := H
   replace H : (if t805 = t806 then (laws_FnLookUp.j0 k t799 t802 t803 t805 (decide (t805 < 0)) t796) else (laws_FnLookUp.j0 k t799 t802 t803 t805 true t796)) = some r := H
   have A12 := am A120
   clear A120
   by_cases c13 : t805 = t806
   ·rw [if_pos c13] at H
    have c13b0 : (t805 == t806) = true := beq_iff_eq.mpr c13
    have c13b1 : (t805 != t806) = false := bne_eq_false_iff_eq.mpr c13
    clear c13
    (first | rw [c13b0] | (simp only [i64_w, i32_w]; rw [c13b0]) | skip)
    have H' := am H
    clear H
    have hcz14_0 := bc0 BK804.out
    have hfz14_0 := blk_frozen BK804.out 0
    go_wp2_with (first | ((with_reducible refine gate_callee (f := 26) rfl ?_); refine gL (some 30) Try.func26 #[.agg #[.slice Ao8 t796.length co8], .slice Ao10 t799.length co10, .int .i64 t802, .int .i64 t803] ?_; (with_reducible refine (spec_LookUp.calls k _ _ t796 _ _ t799 t802 t803 t806 _ ?side1 ?side2 ?side3 ?side4 A12.out).mono ?_); (case side1 => exact cq (Kd.R_reads' HO798.out).2.2); (case side2 => exact (Kd.R_reads' HO798.out).2.1); (case side3 => exact cq (Kd.R_reads' HO801.out).2.2); (case side4 => exact (Kd.R_reads' HO801.out).2.1); rintro e w15 ⟨rfl, hb⟩; refine ⟨_, rfl, ?_⟩; replace HO798 := am (Kd.R_below (rq HO798.out) hb); replace HO801 := am (Kd.R_below (rq HO801.out) hb); replace BK804 := am (blk_below (g := gb804) (o := .cells #[.slice Ao8 t796.length co8] 32 (0, 0)) (kq BK804.out) hb); replace HB := am (below_step (Y47) hb); (try clear hb); (try clear hb2); (try clear hk); (try clear hi)))
    go_meet
    case rel => exact ⟨_, (decide (t805 < 0)), (sq), H', ⟨Y36⟩, ⟨rq HO801.out⟩, ⟨rq HO798.out⟩, ⟨kq BK804.out⟩, ⟨Y47⟩⟩
   ·rw [if_neg c13] at H
    have c13b0 : (t805 == t806) = false := beq_eq_false_iff_ne.mpr c13
    have c13b1 : (t805 != t806) = true := bne_iff_ne.mpr c13
    (first | rw [c13b0] | (simp only [i64_w, i32_w]; rw [c13b0]) | skip)
    have H' := am H
    clear H
    have hcz16_0 := bc0 BK804.out
    have hfz16_0 := blk_frozen BK804.out 0
    go_wp2_with (first | ((with_reducible refine gate_callee (f := 26) rfl ?_); refine gL (some 30) Try.func26 #[.agg #[.slice Ao8 t796.length co8], .slice Ao10 t799.length co10, .int .i64 t802, .int .i64 t803] ?_; (with_reducible refine (spec_LookUp.calls k _ _ t796 _ _ t799 t802 t803 t806 _ ?side1 ?side2 ?side3 ?side4 A12.out).mono ?_); (case side1 => exact cq (Kd.R_reads' HO798.out).2.2); (case side2 => exact (Kd.R_reads' HO798.out).2.1); (case side3 => exact cq (Kd.R_reads' HO801.out).2.2); (case side4 => exact (Kd.R_reads' HO801.out).2.1); rintro e w17 ⟨rfl, hb⟩; refine ⟨_, rfl, ?_⟩; replace HO798 := am (Kd.R_below (rq HO798.out) hb); replace HO801 := am (Kd.R_below (rq HO801.out) hb); replace BK804 := am (blk_below (g := gb804) (o := .cells #[.slice Ao8 t796.length co8] 32 (0, 0)) (kq BK804.out) hb); replace HB := am (below_step (Y47) hb); (try clear hb); (try clear hb2); (try clear hk); (try clear hi)))
    go_meet
    case rel => exact ⟨_, (true), (sq), H', ⟨Y36⟩, ⟨rq HO801.out⟩, ⟨rq HO798.out⟩, ⟨kq BK804.out⟩, ⟨Y47⟩⟩
  case rest =>
   clear HC5
   try clear c1
   try clear c2
   try clear c2b0
   try clear c2b1
   try clear p2
   try clear c6
   try clear c13
   try clear c13b0
   try clear c13b1
   try clear hcz14_0
   try clear hcz16_0
   try clear hcz9_0
   try clear hfz14_0
   try clear hfz16_0
   try clear hfz9_0
   obtain ⟨kq, x35_4, rfl, HA, HJ4, HO_4, HO_805000, BK804, HB⟩ := hcut
   cases kq with
   | zero => exact absurd HA.out (by simp [laws_FnLookUp.j0])
   | succ kj4 =>
    have H := HA.out
    clear HA
    simp only [laws_FnLookUp.j0] at H
    by_cases c18 : x35_4 = true
    ·subst c18
     have H1 : ((spec_LookUp.f kj4 t796 t799 t802 t803).bind fun t807 => (some (t805 == t807))) = some r := by rw [if_pos rfl] at H; exact H
     clear H
     have H := H1
     clear H1
     replace H := Option.bind_eq_some_iff.mp H
     obtain ⟨t807, A190, H⟩ := H
     replace H : (some (t805 == t807)) = some r := H
     have A19 := am A190
     clear A190
     obtain rfl := Option.some.inj H
     have hcz20_0 := bc0 BK804.out
     have hfz20_0 := blk_frozen BK804.out 0
     go_wp2_with (first | ((with_reducible refine gate_callee (f := 26) rfl ?_); refine gL (some 41) Try.func26 #[.agg #[.slice Ao8 t796.length co8], .slice Ao10 t799.length co10, .int .i64 t802, .int .i64 t803] ?_; (with_reducible refine (spec_LookUp.calls kj4 _ _ t796 _ _ t799 t802 t803 t807 _ ?side1 ?side2 ?side3 ?side4 A19.out).mono ?_); (case side1 => exact cq (Kd.R_reads' HO_805000.out).2.2); (case side2 => exact (Kd.R_reads' HO_805000.out).2.1); (case side3 => exact cq (Kd.R_reads' HO_4.out).2.2); (case side4 => exact (Kd.R_reads' HO_4.out).2.1); rintro e w21 ⟨rfl, hb⟩; refine ⟨_, rfl, ?_⟩; replace HO_4 := am (Kd.R_below (rq HO_4.out) hb); replace HO_805000 := am (Kd.R_below (rq HO_805000.out) hb); replace BK804 := am (blk_below (g := gb804) (o := .cells #[.slice Ao8 t796.length co8] 32 (0, 0)) (kq BK804.out) hb); replace HB := am (below_step (Y47) hb); (try clear hb); (try clear hb2); (try clear hk); (try clear hi)))
     go_ret
     exact ⟨Y0, Y47⟩
    ·replace c18 := Bool.eq_false_iff.mpr c18
     subst c18
     have H1 : (laws_FnLookUp.l0 kj4 t799 t802 t803 t805 0 t796) = some r := by rw [if_neg (show ¬ (false = true) by decide)] at H; exact H
     clear H
     have H := H1
     clear H1
     have H' := am H
     clear H
     go_wp2
     go_loopg [8] kj4 (fun kq v8 w' => ∃ (x8_2 : Int), v8 = .int .i64 x8_2 ∧ Aside0 (laws_FnLookUp.l0 kq t799 t802 t803 t805 x8_2 t796 = some r) ∧ Aside0 (kq ≤ kj4) ∧ Aside0 (Kd.R k48 48 w' w.heap.size (fun _ => True) (.slice Ao10 t799.length co10) t799) ∧ Aside0 (Kd.R k98 98 w' w.heap.size (fun _ => True) (.slice Ao8 t796.length co8) t796) ∧ Aside0 (w'.heap[gb804]? = some (.cells #[(.slice Ao8 t796.length co8)] 32 (0, 0))) ∧ Aside0 (Below w.heap.size w w'))
     case atStart => exact ⟨(0), (sq), H', ⟨Nat.le_refl _⟩, ⟨rq HO_4.out⟩, ⟨rq HO_805000.out⟩, ⟨kq BK804.out⟩, ⟨Y47⟩⟩
     case round =>
      clear H'
      try clear c1
      try clear c2
      try clear c2b0
      try clear c2b1
      try clear p2
      try clear c6
      try clear c13
      try clear c13b0
      try clear c13b1
      try clear c18
      try clear hcz14_0
      try clear hcz16_0
      try clear hcz20_0
      try clear hcz9_0
      try clear hfz14_0
      try clear hfz16_0
      try clear hfz20_0
      try clear hfz9_0
      try clear p2
      obtain ⟨x8_2, rfl, HA, HK2, HO_4, HO_805000, BK804, HB⟩ := hrel
      cases gk with
      | zero => exact absurd HA.out (by simp [laws_FnLookUp.l0])
      | succ k2 =>
       have H := HA.out
       clear HA
       simp only [laws_FnLookUp.l0] at H
       by_cases c22 : x8_2 < (t799.length : Int)
       ·rw [if_pos c22] at H
        have c22b0 : decide (x8_2 < (t799.length : Int)) = true := decide_eq_true c22
        clear c22
        by_cases c23 : 0 ≤ x8_2
        ·rw [if_pos c23] at H
         have c23b0 : decide (0 ≤ x8_2) = true := decide_eq_true c23
         clear c23
         have HC24 := am H
         clear H
         have p808 : 0 ≤ (x8_2 : Int) := of_decide_eq_true (uq)
         have q808 : x8_2 < (t799.length : Int) := of_decide_eq_true (uq)
         obtain ⟨ad808, e808, hx808_0, hx808_1, hx808_2, hx808_3⟩ := at_T48 (Kd.R_reads' HO_4.out).2.2 x8_2 p808 q808
         cases e808
         replace p808 := eq_true p808
         replace q808 := eq_true q808
         go_upto_region 11 with (first | ((with_reducible refine gate_dst (N := 9) rfl ?_); refine bE (N := 9) (cs := #[.int .i64 0, .int .i64 0, .int .i64 0, .int .i64 0]) (t := 48) ?_; intro gb809 hg w25 hbox hb; have BK809 := am (hbox); have GW809 := am ((Y130 : w.heap.size ≤ gb809)); have GE809 := am ((Y130 : w.heap.size ≤ gb809)); have NB804_809 := am ((by rw [hg]; exact Nat.ne_of_lt (blk_lt (g := gb804) (o := .cells #[.slice Ao8 t796.length co8] 32 (0, 0)) (kq BK804.out)) : gb804 ≠ gb809)); have NB809_804 := am ((by rw [hg]; exact Nat.ne_of_gt (blk_lt (g := gb804) (o := .cells #[.slice Ao8 t796.length co8] 32 (0, 0)) (kq BK804.out)) : gb809 ≠ gb804)); replace HO_4 := am (Kd.R_below (Kd.R_elderB (rq HO_4.out) gb809 (Nat.le_of_eq hg.symm)) hb); replace HO_805000 := am (Kd.R_below (rq HO_805000.out) hb); replace BK804 := am (blk_below (g := gb804) (o := .cells #[.slice Ao8 t796.length co8] 32 (0, 0)) (kq BK804.out) hb); replace HB := am (below_step (Y47) hb); clear hb hbox hg; have hnb26 := NB809_804.out; have hnc26 := NB804_809.out; have hcz27_0 := bc0 BK809.out; have hcz27_1 := bc1 BK809.out; have hcz27_2 := bc2 BK809.out; have hcz27_3 := bc3 BK809.out; have hfz27_0 := blk_frozen BK809.out 0; have hfz27_1 := blk_frozen BK809.out 1; have hfz27_2 := blk_frozen BK809.out 2; have hfz27_3 := blk_frozen BK809.out 3))
         (try simp only [Act.put, List.setIfInBounds_toArray, List.set_cons_zero, List.set_cons_succ])
         go_cut [69] (fun v69 wc => ∃ (kq : Nat) (x69_23 : Bool), v69 = .bool x69_23 ∧ Aside0 (laws_FnLookUp.j2 kq t799 t802 t803 t805 x8_2 x69_23 t796 ((rd_T48 t799 x8_2).f0) ((rd_T48 t799 x8_2).f1) ((rd_T48 t799 x8_2).f2) ((rd_T48 t799 x8_2).f3) = some r) ∧ Aside0 (kq ≤ k2) ∧ Aside0 (Kd.R k48 48 wc w.heap.size (fun k_ => k_ ≠ gb809) (.slice (some ad808) t799.length co10) t799) ∧ Aside0 (Kd.R k98 98 wc w.heap.size (fun _ => True) (.slice Ao8 t796.length co8) t796) ∧ Aside0 (wc.heap[gb804]? = some (.cells #[(.slice Ao8 t796.length co8)] 32 (0, 0))) ∧ Aside0 (wc.heap[gb809]? = some (.cells #[.int .i64 ((rd_T48 t799 x8_2).f0), .int .i64 ((rd_T48 t799 x8_2).f1), .int .i64 ((rd_T48 t799 x8_2).f2), .int .i64 ((rd_T48 t799 x8_2).f3)] 48 (0, 0))) ∧ Aside0 (Below w.heap.size w wc))
         case first =>
          have H := HC24.out
          clear HC24
          by_cases c28 : ((rd_T48 t799 x8_2).f0) ≤ t802
          ·rw [if_pos c28] at H
           have c28b0 : decide (((rd_T48 t799 x8_2).f0) ≤ t802) = true := decide_eq_true c28
           clear c28
           (first | rw [c28b0] | (simp only [i64_w, i32_w]; rw [c28b0]) | skip)
           by_cases c29 : t802 < ((rd_T48 t799 x8_2).f1)
           ·rw [if_pos c29] at H
            have c29b0 : decide (t802 < ((rd_T48 t799 x8_2).f1)) = true := decide_eq_true c29
            clear c29
            replace H := Option.bind_eq_some_iff.mp H
            obtain ⟨t810, A300, H⟩ := H
            replace H : (laws_FnLookUp.j2 k2 t799 t802 t803 t805 x8_2 t810 t796 ((rd_T48 t799 x8_2).f0) ((rd_T48 t799 x8_2).f1) ((rd_T48 t799 x8_2).f2) ((rd_T48 t799 x8_2).f3)) = some r := H
            have A30 := am A300
            clear A300
            have H' := am H
            clear H
            have hnb31 := NB809_804.out
            have hnc31 := NB804_809.out
            have hcz32_0 := bc0 BK809.out
            have hcz32_1 := bc1 BK809.out
            have hcz32_2 := bc2 BK809.out
            have hcz32_3 := bc3 BK809.out
            have hfz32_0 := blk_frozen BK809.out 0
            have hfz32_1 := blk_frozen BK809.out 1
            have hfz32_2 := blk_frozen BK809.out 2
            have hfz32_3 := blk_frozen BK809.out 3
            have hcz33_0 := bc0 BK804.out
            have hfz33_0 := blk_frozen BK804.out 0
            go_wp2_with (first | (go_at_call 27; (with_reducible refine (impl_IsA.calls k2 _ _ t796 t803 ((rd_T48 t799 x8_2).f3) t810 _ ?side1 ?side2 A30.out).mono ?_); (case side1 => refine (Kd.R_reads' (e := 98) (base := w.heap.size) (ok := fun k_ => True) (n := t796.length) (c := co8) ?_).2.2; exact (Y131)); (case side2 => exact (Kd.R_reads' HO_805000.out).2.1); rintro e w34 ⟨rfl, hb⟩; replace HO_4 := am (Kd.R_below (by (with_reducible repeat (first | apply Kd.R_alloc | apply Kd.R_drewN | apply Kd.R_drew)); exact (Kd.R_mono (Kd.R_far (p := ⟨gb809, 3, none⟩) (Kd.R_far (p := ⟨gb809, 2, none⟩) (Kd.R_far (p := ⟨gb809, 1, none⟩) (Kd.R_far (p := ⟨gb809, 0, none⟩) (Kd.R_mono HO_4.out (fun k_ hk => (⟨hk, hk.2⟩ : _ ∧ k_ ≠ gb809))) (fun _ hk => hk.2) (.int .i64 ((rd_T48 t799 x8_2).f0))) (fun _ hk => hk.2) (.int .i64 ((rd_T48 t799 x8_2).f1))) (fun _ hk => hk.2) (.int .i64 ((rd_T48 t799 x8_2).f2))) (fun _ hk => hk.2) (.int .i64 ((rd_T48 t799 x8_2).f3))) (fun _ h_ => h_.1))) hb); replace HO_805000 := am (Kd.R_below (Y131) hb); replace BK804 := am (blk_below (g := gb804) (o := .cells #[.slice Ao8 t796.length co8] 32 (0, 0)) (by (with_reducible repeat (first | refine blk_drewN ?_ _ | refine blk_drew ?_ | refine blk_alloc ?_ _)); refine blk_far ?_ NB804_809.out _; (with_reducible repeat (first | refine blk_drewN ?_ _ | refine blk_drew ?_ | refine blk_alloc ?_ _)); refine blk_far ?_ NB804_809.out _; (with_reducible repeat (first | refine blk_drewN ?_ _ | refine blk_drew ?_ | refine blk_alloc ?_ _)); refine blk_far ?_ NB804_809.out _; (with_reducible repeat (first | refine blk_drewN ?_ _ | refine blk_drew ?_ | refine blk_alloc ?_ _)); refine blk_far ?_ NB804_809.out _; (with_reducible repeat (first | refine blk_drewN ?_ _ | refine blk_drew ?_ | refine blk_alloc ?_ _)); exact BK804.out) hb); replace BK809 := am (blk_below (g := gb809) (o := .cells #[.int .i64 ((rd_T48 t799 x8_2).f0), .int .i64 ((rd_T48 t799 x8_2).f1), .int .i64 ((rd_T48 t799 x8_2).f2), .int .i64 ((rd_T48 t799 x8_2).f3)] 48 (0, 0)) (by (with_reducible repeat (first | refine blk_drewN ?_ _ | refine blk_drew ?_ | refine blk_alloc ?_ _)); refine blk_put (cs := #[.int .i64 ((rd_T48 t799 x8_2).f0), .int .i64 ((rd_T48 t799 x8_2).f1), .int .i64 ((rd_T48 t799 x8_2).f2), .int .i64 0]) ?_ 3 _ rfl; (with_reducible repeat (first | refine blk_drewN ?_ _ | refine blk_drew ?_ | refine blk_alloc ?_ _)); refine blk_put (cs := #[.int .i64 ((rd_T48 t799 x8_2).f0), .int .i64 ((rd_T48 t799 x8_2).f1), .int .i64 0, .int .i64 0]) ?_ 2 _ rfl; (with_reducible repeat (first | refine blk_drewN ?_ _ | refine blk_drew ?_ | refine blk_alloc ?_ _)); refine blk_put (cs := #[.int .i64 ((rd_T48 t799 x8_2).f0), .int .i64 0, .int .i64 0, .int .i64 0]) ?_ 1 _ rfl; (with_reducible repeat (first | refine blk_drewN ?_ _ | refine blk_drew ?_ | refine blk_alloc ?_ _)); refine blk_put (cs := #[.int .i64 0, .int .i64 0, .int .i64 0, .int .i64 0]) ?_ 0 _ rfl; (with_reducible repeat (first | refine blk_drewN ?_ _ | refine blk_drew ?_ | refine blk_alloc ?_ _)); exact BK809.out) hb); replace HB := am (below_step (Y77) hb); (try clear hb); (try clear hb2); (try clear hk); (try clear hi)))
            go_meet
            case rel => exact ⟨_, (t810), (sq), H', ⟨by have := HJ4.out; have := HK2.out; first | omega | exact Nat.le_refl _⟩, ⟨by (with_reducible repeat (first | apply Kd.R_alloc | apply Kd.R_drewN | apply Kd.R_drew)); exact Kd.R_mono HO_4.out (fun _ hk => hk.2)⟩, ⟨rq HO_805000.out⟩, ⟨kq BK804.out⟩, ⟨kq BK809.out⟩, ⟨Y77⟩⟩
           ·rw [if_neg c29] at H
            have c29b0 : decide (t802 < ((rd_T48 t799 x8_2).f1)) = false := decide_eq_false c29
            clear c29
            have H' := am H
            clear H
            have hnb35 := NB809_804.out
            have hnc35 := NB804_809.out
            have hcz36_0 := bc0 BK809.out
            have hcz36_1 := bc1 BK809.out
            have hcz36_2 := bc2 BK809.out
            have hcz36_3 := bc3 BK809.out
            have hfz36_0 := blk_frozen BK809.out 0
            have hfz36_1 := blk_frozen BK809.out 1
            have hfz36_2 := blk_frozen BK809.out 2
            have hfz36_3 := blk_frozen BK809.out 3
            go_wp2
            go_meet
            case rel => exact ⟨_, (false), (sq), H', ⟨by have := HJ4.out; have := HK2.out; first | omega | exact Nat.le_refl _⟩, ⟨by (with_reducible repeat (first | apply Kd.R_alloc | apply Kd.R_drewN | apply Kd.R_drew)); exact Kd.R_mono (Kd.R_far (p := ⟨gb809, 3, none⟩) (Kd.R_far (p := ⟨gb809, 2, none⟩) (Kd.R_far (p := ⟨gb809, 1, none⟩) (Kd.R_far (p := ⟨gb809, 0, none⟩) (Kd.R_mono HO_4.out (fun k_ hk => (⟨hk, hk.2⟩ : _ ∧ k_ ≠ gb809))) (fun _ hk => hk.2) (.int .i64 ((rd_T48 t799 x8_2).f0))) (fun _ hk => hk.2) (.int .i64 ((rd_T48 t799 x8_2).f1))) (fun _ hk => hk.2) (.int .i64 ((rd_T48 t799 x8_2).f2))) (fun _ hk => hk.2) (.int .i64 ((rd_T48 t799 x8_2).f3))) (fun _ hk => hk.1.2)⟩, ⟨by (with_reducible repeat (first | apply Kd.R_alloc | apply Kd.R_drewN | apply Kd.R_drew)); exact Kd.R_mono (Kd.R_far (p := ⟨gb809, 3, none⟩) (Kd.R_far (p := ⟨gb809, 2, none⟩) (Kd.R_far (p := ⟨gb809, 1, none⟩) (Kd.R_far (p := ⟨gb809, 0, none⟩) (Kd.R_types HO_805000.out BK809.out (by decide)) (fun _ hk => hk.2) (.int .i64 ((rd_T48 t799 x8_2).f0))) (fun _ hk => hk.2) (.int .i64 ((rd_T48 t799 x8_2).f1))) (fun _ hk => hk.2) (.int .i64 ((rd_T48 t799 x8_2).f2))) (fun _ hk => hk.2) (.int .i64 ((rd_T48 t799 x8_2).f3))) (fun _ hk => trivial)⟩, ⟨by (with_reducible repeat (first | refine blk_drewN ?_ _ | refine blk_drew ?_ | refine blk_alloc ?_ _)); refine blk_far ?_ NB804_809.out _; (with_reducible repeat (first | refine blk_drewN ?_ _ | refine blk_drew ?_ | refine blk_alloc ?_ _)); refine blk_far ?_ NB804_809.out _; (with_reducible repeat (first | refine blk_drewN ?_ _ | refine blk_drew ?_ | refine blk_alloc ?_ _)); refine blk_far ?_ NB804_809.out _; (with_reducible repeat (first | refine blk_drewN ?_ _ | refine blk_drew ?_ | refine blk_alloc ?_ _)); refine blk_far ?_ NB804_809.out _; (with_reducible repeat (first | refine blk_drewN ?_ _ | refine blk_drew ?_ | refine blk_alloc ?_ _)); exact BK804.out⟩, ⟨by (with_reducible repeat (first | refine blk_drewN ?_ _ | refine blk_drew ?_ | refine blk_alloc ?_ _)); refine blk_put (cs := #[.int .i64 ((rd_T48 t799 x8_2).f0), .int .i64 ((rd_T48 t799 x8_2).f1), .int .i64 ((rd_T48 t799 x8_2).f2), .int .i64 0]) ?_ 3 _ rfl; (with_reducible repeat (first | refine blk_drewN ?_ _ | refine blk_drew ?_ | refine blk_alloc ?_ _)); refine blk_put (cs := #[.int .i64 ((rd_T48 t799 x8_2).f0), .int .i64 ((rd_T48 t799 x8_2).f1), .int .i64 0, .int .i64 0]) ?_ 2 _ rfl; (with_reducible repeat (first | refine blk_drewN ?_ _ | refine blk_drew ?_ | refine blk_alloc ?_ _)); refine blk_put (cs := #[.int .i64 ((rd_T48 t799 x8_2).f0), .int .i64 0, .int .i64 0, .int .i64 0]) ?_ 1 _ rfl; (with_reducible repeat (first | refine blk_drewN ?_ _ | refine blk_drew ?_ | refine blk_alloc ?_ _)); refine blk_put (cs := #[.int .i64 0, .int .i64 0, .int .i64 0, .int .i64 0]) ?_ 0 _ rfl; (with_reducible repeat (first | refine blk_drewN ?_ _ | refine blk_drew ?_ | refine blk_alloc ?_ _)); exact BK809.out⟩, ⟨Y77⟩⟩
          ·rw [if_neg c28] at H
           have c28b0 : decide (((rd_T48 t799 x8_2).f0) ≤ t802) = false := decide_eq_false c28
           clear c28
           (first | rw [c28b0] | (simp only [i64_w, i32_w]; rw [c28b0]) | skip)
           have H' := am H
           clear H
           have hnb37 := NB809_804.out
           have hnc37 := NB804_809.out
           have hcz38_0 := bc0 BK809.out
           have hcz38_1 := bc1 BK809.out
           have hcz38_2 := bc2 BK809.out
           have hcz38_3 := bc3 BK809.out
           have hfz38_0 := blk_frozen BK809.out 0
           have hfz38_1 := blk_frozen BK809.out 1
           have hfz38_2 := blk_frozen BK809.out 2
           have hfz38_3 := blk_frozen BK809.out 3
           go_wp2
           go_meet
           case rel => exact ⟨_, (false), (sq), H', ⟨by have := HJ4.out; have := HK2.out; first | omega | exact Nat.le_refl _⟩, ⟨by (with_reducible repeat (first | apply Kd.R_alloc | apply Kd.R_drewN | apply Kd.R_drew)); exact Kd.R_mono (Kd.R_far (p := ⟨gb809, 3, none⟩) (Kd.R_far (p := ⟨gb809, 2, none⟩) (Kd.R_far (p := ⟨gb809, 1, none⟩) (Kd.R_far (p := ⟨gb809, 0, none⟩) (Kd.R_mono HO_4.out (fun k_ hk => (⟨hk, hk.2⟩ : _ ∧ k_ ≠ gb809))) (fun _ hk => hk.2) (.int .i64 ((rd_T48 t799 x8_2).f0))) (fun _ hk => hk.2) (.int .i64 ((rd_T48 t799 x8_2).f1))) (fun _ hk => hk.2) (.int .i64 ((rd_T48 t799 x8_2).f2))) (fun _ hk => hk.2) (.int .i64 ((rd_T48 t799 x8_2).f3))) (fun _ hk => hk.1.2)⟩, ⟨by (with_reducible repeat (first | apply Kd.R_alloc | apply Kd.R_drewN | apply Kd.R_drew)); exact Kd.R_mono (Kd.R_far (p := ⟨gb809, 3, none⟩) (Kd.R_far (p := ⟨gb809, 2, none⟩) (Kd.R_far (p := ⟨gb809, 1, none⟩) (Kd.R_far (p := ⟨gb809, 0, none⟩) (Kd.R_types HO_805000.out BK809.out (by decide)) (fun _ hk => hk.2) (.int .i64 ((rd_T48 t799 x8_2).f0))) (fun _ hk => hk.2) (.int .i64 ((rd_T48 t799 x8_2).f1))) (fun _ hk => hk.2) (.int .i64 ((rd_T48 t799 x8_2).f2))) (fun _ hk => hk.2) (.int .i64 ((rd_T48 t799 x8_2).f3))) (fun _ hk => trivial)⟩, ⟨by (with_reducible repeat (first | refine blk_drewN ?_ _ | refine blk_drew ?_ | refine blk_alloc ?_ _)); refine blk_far ?_ NB804_809.out _; (with_reducible repeat (first | refine blk_drewN ?_ _ | refine blk_drew ?_ | refine blk_alloc ?_ _)); refine blk_far ?_ NB804_809.out _; (with_reducible repeat (first | refine blk_drewN ?_ _ | refine blk_drew ?_ | refine blk_alloc ?_ _)); refine blk_far ?_ NB804_809.out _; (with_reducible repeat (first | refine blk_drewN ?_ _ | refine blk_drew ?_ | refine blk_alloc ?_ _)); refine blk_far ?_ NB804_809.out _; (with_reducible repeat (first | refine blk_drewN ?_ _ | refine blk_drew ?_ | refine blk_alloc ?_ _)); exact BK804.out⟩, ⟨by (with_reducible repeat (first | refine blk_drewN ?_ _ | refine blk_drew ?_ | refine blk_alloc ?_ _)); refine blk_put (cs := #[.int .i64 ((rd_T48 t799 x8_2).f0), .int .i64 ((rd_T48 t799 x8_2).f1), .int .i64 ((rd_T48 t799 x8_2).f2), .int .i64 0]) ?_ 3 _ rfl; (with_reducible repeat (first | refine blk_drewN ?_ _ | refine blk_drew ?_ | refine blk_alloc ?_ _)); refine blk_put (cs := #[.int .i64 ((rd_T48 t799 x8_2).f0), .int .i64 ((rd_T48 t799 x8_2).f1), .int .i64 0, .int .i64 0]) ?_ 2 _ rfl; (with_reducible repeat (first | refine blk_drewN ?_ _ | refine blk_drew ?_ | refine blk_alloc ?_ _)); refine blk_put (cs := #[.int .i64 ((rd_T48 t799 x8_2).f0), .int .i64 0, .int .i64 0, .int .i64 0]) ?_ 1 _ rfl; (with_reducible repeat (first | refine blk_drewN ?_ _ | refine blk_drew ?_ | refine blk_alloc ?_ _)); refine blk_put (cs := #[.int .i64 0, .int .i64 0, .int .i64 0, .int .i64 0]) ?_ 0 _ rfl; (with_reducible repeat (first | refine blk_drewN ?_ _ | refine blk_drew ?_ | refine blk_alloc ?_ _)); exact BK809.out⟩, ⟨Y77⟩⟩
         case rest =>
          clear HC24
          try clear c1
          try clear c2
          try clear c2b0
          try clear c2b1
          try clear p2
          try clear c3
          try clear c6
          try clear p8
          try clear q8
          try clear hx8
          try clear c13
          try clear c13b0
          try clear c13b1
          try clear c18
          try clear c22
          try clear c22b0
          try clear c23
          try clear c23b0
          try clear c25
          try clear c26
          try clear c28
          try clear c28b0
          try clear c29
          try clear c29b0
          try clear c31
          try clear c35
          try clear c37
          try clear hcz14_0
          try clear hcz16_0
          try clear hcz20_0
          try clear hcz27_0
          try clear hcz27_1
          try clear hcz27_2
          try clear hcz27_3
          try clear hcz32_0
          try clear hcz32_1
          try clear hcz32_2
          try clear hcz32_3
          try clear hcz33_0
          try clear hcz36_0
          try clear hcz36_1
          try clear hcz36_2
          try clear hcz36_3
          try clear hcz38_0
          try clear hcz38_1
          try clear hcz38_2
          try clear hcz38_3
          try clear hcz9_0
          try clear hfz14_0
          try clear hfz16_0
          try clear hfz20_0
          try clear hfz27_0
          try clear hfz27_1
          try clear hfz27_2
          try clear hfz27_3
          try clear hfz32_0
          try clear hfz32_1
          try clear hfz32_2
          try clear hfz32_3
          try clear hfz33_0
          try clear hfz36_0
          try clear hfz36_1
          try clear hfz36_2
          try clear hfz36_3
          try clear hfz38_0
          try clear hfz38_1
          try clear hfz38_2
          try clear hfz38_3
          try clear hfz9_0
          try clear hx808_0
          try clear hx808_1
          try clear hx808_2
          try clear hx808_3
          try clear p2
          try clear p808
          try clear q808
          obtain ⟨kq, x69_23, rfl, HA, HJ23, HO_4, HO_805000, BK804, BK809, HB⟩ := hcut
          cases kq with
          | zero => exact absurd HA.out (by simp [laws_FnLookUp.j2])
          | succ kj23 =>
           have H := HA.out
           clear HA
           simp only [laws_FnLookUp.j2] at H
           by_cases c39 : x69_23 = true
           ·subst c39
            have H1 : (some (((rd_T48 t799 x8_2).f2) == t805)) = some r := by rw [if_pos rfl] at H; exact H
            clear H
            have H := H1
            clear H1
            obtain rfl := Option.some.inj H
            have hnb40 := NB809_804.out
            have hnc40 := NB804_809.out
            have hcz41_0 := bc0 BK809.out
            have hcz41_1 := bc1 BK809.out
            have hcz41_2 := bc2 BK809.out
            have hcz41_3 := bc3 BK809.out
            have hfz41_0 := blk_frozen BK809.out 0
            have hfz41_1 := blk_frozen BK809.out 1
            have hfz41_2 := blk_frozen BK809.out 2
            have hfz41_3 := blk_frozen BK809.out 3
            go_wp2
            go_ret
            exact ⟨Y0, Y77⟩
           ·replace c39 := Bool.eq_false_iff.mpr c39
            subst c39
            have H1 : (laws_FnLookUp.l0 kj23 t799 t802 t803 t805 (wrap64 (x8_2 + 1)) t796) = some r := by rw [if_neg (show ¬ (false = true) by decide)] at H; exact H
            clear H
            have H := H1
            clear H1
            have H' := am H
            clear H
            go_wp2
            go_roundg kj23
            case measure => have := HJ4.out; have := HK2.out; have := HJ23.out; omega
            case rel => exact ⟨(wrap64 (x8_2 + 1)), (sq), H', ⟨by have := HJ4.out; have := HK2.out; have := HJ23.out; omega⟩, ⟨by (with_reducible repeat (first | apply Kd.R_alloc | apply Kd.R_drewN | apply Kd.R_drew)); exact Kd.R_mono HO_4.out (fun _ hk => trivial)⟩, ⟨rq HO_805000.out⟩, ⟨kq BK804.out⟩, ⟨Y77⟩⟩
        ·rw [if_neg c23] at H
         exact absurd H (by simp)
       ·rw [if_neg c22] at H
        have c22b0 : decide (x8_2 < (t799.length : Int)) = false := decide_eq_false c22
        clear c22
        exact absurd ((Option.some.inj H).trans hT) Bool.false_ne_true
def laws_FnLookUp.Pure : Prop := ∀ (l0 : List Int), l0.length ≤ maxLen → l0.length * 1 ≤ 140737488351232 → (∀ x ∈ l0, (Lit.int .u8 x).wf = true) → ∃ k, laws_FnLookUp.f k l0 = some true
theorem laws_FnLookUp.walk (P : laws_FnLookUp.Pure) (a0 : Option Addr) (len0 cap0 : Nat) (z0 : List Int) (w : World) (w0 : (a0 = none ∧ len0 = 0 ∧ cap0 = 0 ∧ z0 = []) ∨ ∃ x, a0 = some x ∧ len0 ≤ cap0 ∧ cap0 ≤ maxLen ∧ z0.length = cap0 ∧ (∀ i, i < z0.length → w.cell? (x.add i) = some (.int .u8 (z0.getD i 0))) ∧ ∀ n ∈ z0, (Lit.int .u8 n).wf = true) (y0 : len0 * 1 ≤ 140737488351232) :
  Calls Try.prog 6 #[.slice a0 len0 cap0] w fun e w' => e = .returned (.bool true) ∧ Below w.heap.size w w' := by
 obtain ⟨l0, rfl, hr0, hm0, hw0, hc0⟩ := ReadsInt.ofRowC w0
 obtain ⟨k, h⟩ := P l0 hm0 y0 hw0
 refine (laws_FnLookUp.calls k _ _ l0 true w (Kd.C_of_reads (d := (0 : Int)) (h1 := fun _ => rfl) hr0) hc0 rfl h).mono ?_
 rintro e w' ⟨rfl, hd⟩
 exact ⟨rfl, hd⟩
def inB (a lo hi : Int) : Bool := decide (lo ≤ a) && decide (a ≤ hi)
def VF (W : World) (B1 BL BT : Nat) (a x : S59) (tv : Value) : Prop :=
 W.heap[B1]? = some (.cells #[.int .i64 a.f0, .int .i64 a.f1, .int .i64 a.f2, .int .i64 a.f3] 59 (0, 0)) ∧ W.heap[BL]? = some (.cells #[.int .i64 x.f0, .int .i64 x.f1, .int .i64 x.f2, .int .i64 x.f3] 59 (0, 0)) ∧ W.cell? ⟨BT, 0, none⟩ = some tv
theorem VF.below {W W' : World} {B1 BL BT : Nat} {a x : S59} {tv : Value} (h : VF W B1 BL BT a x tv) (hb : Below W.heap.size W W') : VF W' B1 BL BT a x tv :=
 ⟨(hb.block _ (blk_lt h.1)).trans h.1, (hb.block _ (blk_lt h.2.1)).trans h.2.1, pw_cell_below hb h.2.2⟩
theorem VF.cells {W : World} {B1 BL BT : Nat} {a x : S59} {tv : Value} (h : VF W B1 BL BT a x tv) :
  W.cell? ⟨B1, 0, none⟩ = some (.int .i64 a.f0) ∧ W.cell? ⟨B1, 1, none⟩ = some (.int .i64 a.f1) ∧ W.cell? ⟨B1, 2, none⟩ = some (.int .i64 a.f2) ∧ W.cell? ⟨B1, 3, none⟩ = some (.int .i64 a.f3) ∧
  W.cell? ⟨BL, 0, none⟩ = some (.int .i64 x.f0) ∧ W.cell? ⟨BL, 1, none⟩ = some (.int .i64 x.f1) ∧ W.cell? ⟨BL, 2, none⟩ = some (.int .i64 x.f2) ∧ W.cell? ⟨BL, 3, none⟩ = some (.int .i64 x.f3) ∧ W.cell? ⟨BT, 0, none⟩ = some tv :=
 ⟨(blk_cell h.1 0).trans rfl, (blk_cell h.1 1).trans rfl, (blk_cell h.1 2).trans rfl, (blk_cell h.1 3).trans rfl, (blk_cell h.2.1 0).trans rfl, (blk_cell h.2.1 1).trans rfl, (blk_cell h.2.1 2).trans rfl, (blk_cell h.2.1 3).trans rfl, h.2.2⟩
theorem VF.frozen {W : World} {B1 BL BT : Nat} {a x : S59} {tv : Value} (h : VF W B1 BL BT a x tv) : W.frozen? ⟨B1, 0, none⟩ = false ∧ W.frozen? ⟨B1, 1, none⟩ = false ∧ W.frozen? ⟨B1, 2, none⟩ = false ∧ W.frozen? ⟨B1, 3, none⟩ = false :=
 ⟨blk_frozen h.1 0, blk_frozen h.1 1, blk_frozen h.1 2, blk_frozen h.1 3⟩
end Go.Proofs.Ytbcjbcjpoddkoaa.P
end
