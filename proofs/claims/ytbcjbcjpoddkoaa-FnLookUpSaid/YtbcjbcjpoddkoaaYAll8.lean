/- One part of the proofs on this program: functions of the program as plain functions, that the code comes to them, and facts on them. -/
import Derived.Test.YtbcjbcjpoddkoaaYAll1
import Derived.Test.YtbcjbcjpoddkoaaYAll2
import Derived.Test.YtbcjbcjpoddkoaaYAll3
import Derived.Test.YtbcjbcjpoddkoaaYAll7
import Derived.Test.YtbcjbcjpoddkoaaYWAuto
section
namespace Go.Proofs.Ytbcjbcjpoddkoaa.P
open Go.RowKit Go.Proofs.YtbcjbcjpoddkoaaW.PrintWords Go.Proofs.YtbcjbcjpoddkoaaW.PrintLast Go.Proofs.YtbcjbcjpoddkoaaW.PrintMore
attribute [local go_sem] max2_int min2_int max_two min_two max_three min_three max_four min_four isSome_cell_setCell
set_option linter.unusedVariables false
set_option linter.unusedSimpArgs false
mutual
def spec_DrawLookUp.j0 : Nat → Int → List (S48) → List Int → Int → List (S98) → Option ((List (S98)) × (List (S48)) × Int × Int)
 | 0, _, _, _, _, _ => none
 | k + 1, x9, x10, x729000, x729001, x738000 => if (x10.length : Int) > 0 then ((spec_reader_pick.f k x729000 x729001 12).bind fun bt745 => (spec_DrawLookUp.j1 k x9 x10 (bt745.1 == 0) x729000 bt745.2 x738000)) else (spec_DrawLookUp.j1 k x9 x10 false x729000 x729001 x738000)
def spec_DrawLookUp.j1 : Nat → Int → List (S48) → Bool → List Int → Int → List (S98) → Option ((List (S98)) × (List (S48)) × Int × Int)
 | 0, _, _, _, _, _, _ => none
 | k + 1, x9, x10, x33, x729000, x729001, x738000 => if x33 = true then ((spec_reader_pick.f k x729000 x729001 (x10.length : Int)).bind fun bt747 => ((spec_reader_one.f k x729000 bt747.2 (([0, 24, 25, (-1)] : List Int))).bind fun bt752 => (if 0 ≤ bt747.1 then (if bt747.1 < (x10.length : Int) then ((spec_aClass.f k x729000 bt752.2 x738000).bind fun bt755 => (some (x738000, (x10.set (bt747.1 : Int).toNat (⟨(rd_T48 x10 bt747.1).f0, bt752.1, (rd_T48 x10 bt747.1).f2, (rd_T48 x10 bt747.1).f3⟩ : S48)), x9, bt755.1))) else (none)) else (none)))) else ((spec_aClass.f k x729000 x729001 x738000).bind fun bt757 => (some (x738000, x10, x9, bt757.1)))
end
def spec_DrawLookUp.f (k : Nat) (l0 : List Int) : Option ((List (S98)) × (List (S48)) × Int × Int) := (spec_newReader.f l0).bind fun bt726 => ((spec_lineIn.f k bt726.1 bt726.2).bind fun bt729 => ((spec_validProgram.f k bt729.1 bt729.2.1).bind fun t741 => (if t741 = true then ((spec_tableOf.f k bt729.2.1).bind fun t742 => (spec_DrawLookUp.j0 k bt729.2.2.1 t742 bt726.1 bt729.2.2.2 bt729.1)) else (spec_DrawLookUp.j0 k bt729.2.2.1 (([] : List (S48))) bt726.1 bt729.2.2.2 bt729.1))))
def spec_DrawLookUp.T9 : Bool × List (List Nat × List Nat) := (true, [([], []), ([], []), ([], []), ([], []), ([], []), ([3, 4], [3, 4]), ([0, 5, 0], [0]), ([1, 6, 0, 1, 6], [1]), ([2, 7, 0, 1, 2, 6, 7], [2]), ([5, 8, 0, 1, 2, 3, 4, 5, 6, 7, 8], [5])])
def spec_DrawLookUp.B9 : List Nat := [0, 0, 0, 0, 0, 24, 57, 123, 255, 511]
theorem spec_DrawLookUp.tab9 : rtab .any (opsOf Try.f25 9) = spec_DrawLookUp.T9 := by kernel_rfl
theorem spec_DrawLookUp.bits9 : waitsOk spec_DrawLookUp.T9.2 spec_DrawLookUp.B9 = true := by kernel_rfl
set_option maxHeartbeats 8000000 in
set_option maxRecDepth 100000 in
theorem spec_DrawLookUp.calls (k : Nat) (A0 : Option Addr) (c0 : Nat) (l0 : List Int) (r1 : List (S98)) (r2 : List (S48)) (r3 : Int) (r4 : Int) (w : World) (hr0 : Kd.C (Kd.int .u8) w A0 l0.length l0) (hc0 : l0.length ≤ c0) (h : spec_DrawLookUp.f k l0 = some (r1, r2, r3, r4)) :
  Calls Try.prog 25 #[.slice A0 l0.length c0] w fun e w' => ∃ v0_ v1_ : Value, e = .returned (.tuple #[.agg #[v0_], v1_, .int .i64 r3, .int .i64 r4]) ∧ Kd.R k98 98 w' w.heap.size (fun _ => True) v0_ r1 ∧ Kd.R k48 48 w' w.heap.size (fun _ => True) v1_ r2 ∧ Below w.heap.size w w' := by
 have hu32 := Try.underlying32
 have HR0 := am hr0
 have HC0 := am hc0
 clear hr0 hc0
 have HB := am (Below.refl w.heap.size w)
 have H : ((spec_newReader.f l0).bind fun bt726 => ((spec_lineIn.f k bt726.1 bt726.2).bind fun bt729 => ((spec_validProgram.f k bt729.1 bt729.2.1).bind fun t741 => (if t741 = true then ((spec_tableOf.f k bt729.2.1).bind fun t742 => (spec_DrawLookUp.j0 k bt729.2.2.1 t742 bt726.1 bt729.2.2.2 bt729.1)) else (spec_DrawLookUp.j0 k bt729.2.2.1 (([] : List (S48))) bt726.1 bt729.2.2.2 bt729.1))))) = some (r1, r2, r3, r4) := h
 clear h
 replace H := Option.bind_eq_some_iff.mp H
 obtain ⟨⟨t726, t727⟩, A20, H⟩ := H
 replace H : ((spec_lineIn.f k t726 t727).bind fun bt729 => ((spec_validProgram.f k bt729.1 bt729.2.1).bind fun t741 => (if t741 = true then ((spec_tableOf.f k bt729.2.1).bind fun t742 => (spec_DrawLookUp.j0 k bt729.2.2.1 t742 t726 bt729.2.2.2 bt729.1)) else (spec_DrawLookUp.j0 k bt729.2.2.1 (([] : List (S48))) t726 bt729.2.2.2 bt729.1)))) = some (r1, r2, r3, r4) := H
 have A2 := am A20
 clear A20
 replace H := Option.bind_eq_some_iff.mp H
 obtain ⟨⟨t729, t732, t735, t736⟩, A30, H⟩ := H
 replace H : ((spec_validProgram.f k t729 t732).bind fun t741 => (if t741 = true then ((spec_tableOf.f k t732).bind fun t742 => (spec_DrawLookUp.j0 k t735 t742 t726 t736 t729)) else (spec_DrawLookUp.j0 k t735 (([] : List (S48))) t726 t736 t729))) = some (r1, r2, r3, r4) := H
 have A3 := am A30
 clear A30
 obtain ⟨y738, hy738⟩ : ∃ y_ : List (S48), y_ = (([] : List (S48))) := ⟨_, rfl⟩
 replace H : ((spec_validProgram.f k t729 t732).bind fun t741 => (if t741 = true then ((spec_tableOf.f k t732).bind fun t742 => (spec_DrawLookUp.j0 k t735 t742 t726 t736 t729)) else (spec_DrawLookUp.j0 k t735 y738 t726 t736 t729))) = some (r1, r2, r3, r4) := by first | (rw [hy738]; with_reducible exact H) | (have H2_ := (Option.bind_some _ _).symm.trans H; rw [hy738]; with_reducible exact H2_) | (have H2_ := (Option.bind_some _ _).symm.trans H; with_reducible exact H2_) | with_reducible exact H | (rw [hy738]; exact H) | exact H
 have Ny738 := am hy738
 clear hy738
 replace H := Option.bind_eq_some_iff.mp H
 obtain ⟨t741, A40, H⟩ := H
 replace H : (if t741 = true then ((spec_tableOf.f k t732).bind fun t742 => (spec_DrawLookUp.j0 k t735 t742 t726 t736 t729)) else (spec_DrawLookUp.j0 k t735 y738 t726 t736 t729)) = some (r1, r2, r3, r4) := H
 have A4 := am A40
 clear A40
 have HC5 := am H
 clear H
 go_enter Try.func25, Try.ntmps25
 go_upto_if 23 with (first | ((with_reducible refine gate_dst (N := 2) rfl ?_); refine bE (N := 2) (cs := #[.slice none 0 0]) (t := 32) ?_; intro gb725 hg w6 hbox hb; have BK725 := am (hbox); have GW725 := am ((Y11 : w.heap.size ≤ gb725)); have GE725 := am ((Y11 : w.heap.size ≤ gb725)); replace HB := am (below_step (bq) hb); clear hb hbox hg) | ((with_reducible refine gate_callee (f := 42) rfl ?_); refine gL (some 13) Try.func42 #[.slice A0 l0.length c0] ?_; (with_reducible refine (spec_newReader.calls _ _ l0 t726 t727 w _ ?side1 ?side2 ?side3 A2.out).mono ?_); (case side1 => repeat (first | (with_reducible first | exact HB.out | apply below_alloc | apply pw_below_drewN | apply below_drew1 | refine below_set ?_ GE725.out) | exact HB.out)); (case side2 => exact HR0.out); (case side3 => exact HC0.out); rintro e w7 ⟨g728, rfl, hi, hb, hb2⟩; refine ⟨_, rfl, ?_⟩; have HI728 := am (hi); have NB728_725 := am (IsS106.ne_blk hi (blk_below (g := gb725) (o := .cells #[.slice none 0 0] 32 (0, 0)) (kq BK725.out) hb2) (by decide)); have NB725_728 := am (Ne.symm (IsS106.ne_blk hi (blk_below (g := gb725) (o := .cells #[.slice none 0 0] 32 (0, 0)) (kq BK725.out) hb2) (by decide))); replace BK725 := am (blk_below (g := gb725) (o := .cells #[.slice none 0 0] 32 (0, 0)) (kq BK725.out) hb2); replace HB := am (hb); (try clear hb); (try clear hb2); (try clear hk); (try clear hi)) | ((with_reducible refine gate_callee (f := 54) rfl ?_); refine gL (some 16) Try.func54 #[.pointer (some ⟨g728, 0, none⟩)] ?_; (with_reducible refine (spec_lineIn.calls k g728 t726 t727 t729 t732 t735 t736 w _ ?side1 ?side2 A3.out).mono ?_); (case side1 => exact Y123); (case side2 => exact Y96); rintro e w8 ⟨v730, v733, rfl, ho0, ho1, hi, hb, hk⟩; refine ⟨_, rfl, ?_⟩; have HO731 := am (Kd.R_lower ho0 (below_size (Y96))); have HO734 := am (Kd.Q_lower ho1 (below_size (Y96))); replace BK725 := am (KeepBut.blk hk (g' := gb725) (o := .cells #[.slice none 0 0] 32 (0, 0)) (kq BK725.out) NB725_728.out (by simp)); replace HB := am (hb); replace HI728 := am (hi); (try clear hb); (try clear hb2); (try clear hk); (try clear hi); (try clear ho0); (try clear ho1)) | ((with_reducible refine gate_dst (N := 7) rfl ?_); refine bE (N := 7) (cs := #[.slice none 0 0]) (t := 32) ?_; intro gb737 hg w9 hbox hb; have BK737 := am (hbox); have GW737 := am ((Y124 : w.heap.size ≤ gb737)); have GE737 := am ((Y124 : w.heap.size ≤ gb737)); have NB725_737 := am ((by rw [hg]; exact Nat.ne_of_lt (blk_lt (g := gb725) (o := .cells #[.slice none 0 0] 32 (0, 0)) (kq BK725.out)) : gb725 ≠ gb737)); have NB737_725 := am ((by rw [hg]; exact Nat.ne_of_gt (blk_lt (g := gb725) (o := .cells #[.slice none 0 0] 32 (0, 0)) (kq BK725.out)) : gb737 ≠ gb725)); have NB728_737 := am ((by rw [hg]; exact Nat.ne_of_lt (IsS106.lt (show IsS106 w _ g728 t726 t736 from by repeat (first | (with_reducible first | exact HI728.out | apply IsS106.alloc | apply IsS106.drewN | apply IsS106.drew | apply IsS106.set_1 | refine IsS106.far ?_ NB728_725.out _) | exact HI728.out))) : g728 ≠ gb737)); have NB737_728 := am ((by rw [hg]; exact Nat.ne_of_gt (IsS106.lt (show IsS106 w _ g728 t726 t736 from by repeat (first | (with_reducible first | exact HI728.out | apply IsS106.alloc | apply IsS106.drewN | apply IsS106.drew | apply IsS106.set_1 | refine IsS106.far ?_ NB728_725.out _) | exact HI728.out))) : gb737 ≠ g728)); replace HO731 := am (Kd.R_below (rq HO731.out) hb); replace HO734 := am (Kd.Q_below (Y103) hb); replace BK725 := am (blk_below (g := gb725) (o := .cells #[.slice none 0 0] 32 (0, 0)) (kq BK725.out) hb); replace HB := am (below_step (Y96) hb); replace HI728 := am (IsS106.below (Y123) hb); clear hb hbox hg; obtain ⟨Ao10, co10, eo10⟩ := Kd.R_slice HO731.out; subst eo10; have hnb11 := NB737_725.out; have hnc11 := NB725_737.out; have hnb12 := NB737_728.out; have hnc12 := NB728_737.out; have hcz13_0 := bc0 BK737.out; have hfz13_0 := blk_frozen BK737.out 0) | ((with_reducible refine gate_dst (N := 20) rfl ?_); refine Kd.R_lit k48 _ 48 ?hg (N := 20) ?hd (xs := ([] : List (S48))) (inner := []) (ok := fun _ => True) (okp := fun _ => True) ?hr ?hp (fun _ hk => hk) trivial (Below.refl _ _) (Nat.le_refl _) (by simp) ?_; (case hd => rfl); (case hg => rfl); (case hr => exact Y5); (case hp => exact (Reps.none _ _)); intro v739 w14 ho15 hb hg_ hnew_; clear hg_ hnew_; (first | rw [← Ny738.out] at ho15 | (simp only [Int.reduceToNat] at ho15; rw [← Ny738.out] at ho15)); have HO740 := am (Kd.R_lower ho15 (below_size (Y28))); replace HO731 := am (Kd.R_below (by (with_reducible repeat (first | apply Kd.R_alloc | apply Kd.R_drewN | apply Kd.R_drew)); exact (Kd.R_mono (Kd.R_far (p := ⟨gb737, 0, none⟩) (Kd.R_types HO731.out BK737.out (by decide)) (fun _ hk => hk.2) (.slice Ao10 t729.length co10)) (fun _ h_ => h_.1))) hb); replace HO734 := am (Kd.Q_below (by (with_reducible repeat (first | apply Kd.Q_alloc | apply Kd.Q_drewN | apply Kd.Q_drew)); exact (Kd.Q_mono (Kd.Q_far (p := ⟨gb737, 0, none⟩) (Kd.Q_types HO734.out BK737.out (by decide)) (fun _ hk => hk.2) (.slice Ao10 t729.length co10)) (fun _ h_ => h_.1))) hb); replace BK725 := am (blk_below (g := gb725) (o := .cells #[.slice none 0 0] 32 (0, 0)) (by (with_reducible repeat (first | refine blk_drewN ?_ _ | refine blk_drew ?_ | refine blk_alloc ?_ _)); refine blk_far ?_ NB725_737.out _; (with_reducible repeat (first | refine blk_drewN ?_ _ | refine blk_drew ?_ | refine blk_alloc ?_ _)); exact BK725.out) hb); replace BK737 := am (blk_below (g := gb737) (o := .cells #[.slice Ao10 t729.length co10] 32 (0, 0)) (by (with_reducible repeat (first | refine blk_drewN ?_ _ | refine blk_drew ?_ | refine blk_alloc ?_ _)); refine blk_put (cs := #[.slice none 0 0]) ?_ 0 _ rfl; (with_reducible repeat (first | refine blk_drewN ?_ _ | refine blk_drew ?_ | refine blk_alloc ?_ _)); exact BK737.out) hb); replace HB := am (below_step (Y28) hb); replace HI728 := am (IsS106.below (show IsS106 w (w9.setCell ⟨gb737, 0, none⟩ (.slice Ao10 t729.length co10)) g728 t726 t736 from Y18) hb); clear hb ho15; have hcz16_0 := bc0 BK737.out; have hfz16_0 := blk_frozen BK737.out 0; obtain ⟨Ao17, co17, eo17, _⟩ := Kd.Q_slice HO734.out; subst eo17) | ((with_reducible refine gate_callee (f := 29) rfl ?_); refine gL (some 23) Try.func29 #[.agg #[.slice Ao10 t729.length co10], .slice Ao17 t732.length co17] ?_; (with_reducible refine (spec_validProgram.calls k _ _ t729 _ _ t732 t741 _ ?side1 ?side2 ?side3 ?side4 A4.out).mono ?_); (case side1 => exact cq (Kd.R_reads' HO731.out).2.2); (case side2 => exact (Kd.R_reads' HO731.out).2.1); (case side3 => exact cq (Kd.Q_reads' HO734.out).2.2); (case side4 => exact (Kd.Q_reads' HO734.out).2.1); rintro e w18 ⟨rfl, hb⟩; refine ⟨_, rfl, ?_⟩; replace HO731 := am (Kd.R_below (rq HO731.out) hb); replace HO734 := am (Kd.Q_below (Y103) hb); replace HO740 := am (Kd.R_below (rq HO740.out) hb); replace BK725 := am (blk_below (g := gb725) (o := .cells #[.slice none 0 0] 32 (0, 0)) (kq BK725.out) hb); replace BK737 := am (blk_below (g := gb737) (o := .cells #[.slice Ao10 t729.length co10] 32 (0, 0)) (kq BK737.out) hb); replace HB := am (below_step (Y28) hb); replace HI728 := am (IsS106.below (Y18) hb); (try clear hb); (try clear hb2); (try clear hk); (try clear hi)))
 (try simp only [Act.put, List.setIfInBounds_toArray, List.set_cons_zero, List.set_cons_succ])
 go_cut [10] (fun v10 wc => ∃ (kq : Nat) (x10_4 : List (S48)), Aside0 (spec_DrawLookUp.j0 kq t735 x10_4 t726 t736 t729 = some (r1, r2, r3, r4)) ∧ Aside0 (kq ≤ k) ∧ Aside0 (Kd.R k48 48 wc w.heap.size (fun _ => True) v10 x10_4) ∧ Aside0 (Kd.R k98 98 wc w.heap.size (fun _ => True) (.slice Ao10 t729.length co10) t729) ∧ Aside0 (wc.heap[gb725]? = some (.cells #[(.slice none 0 0)] 32 (0, 0))) ∧ Aside0 (wc.heap[gb737]? = some (.cells #[(.slice Ao10 t729.length co10)] 32 (0, 0))) ∧ Aside0 (IsS106 w wc g728 t726 t736) ∧ Aside0 (Below w.heap.size w wc))
 case first =>
  have H := HC5.out
  clear HC5
  by_cases c19 : t741 = true
  ·subst c19
   have H1 : ((spec_tableOf.f k t732).bind fun t742 => (spec_DrawLookUp.j0 k t735 t742 t726 t736 t729)) = some (r1, r2, r3, r4) := by rw [if_pos rfl] at H; exact H
   clear H
   have H := H1
   clear H1
   replace H := Option.bind_eq_some_iff.mp H
   obtain ⟨t742, A200, H⟩ := H
   replace H : (spec_DrawLookUp.j0 k t735 t742 t726 t736 t729) = some (r1, r2, r3, r4) := H
   have A20 := am A200
   clear A200
   have H' := am H
   clear H
   go_wp2_with (first | ((with_reducible refine gate_callee (f := 30) rfl ?_); refine gL (some 25) Try.func30 #[.slice Ao17 t732.length co17] ?_; (with_reducible refine (spec_tableOf.calls k _ _ t732 t742 _ ?side1 ?side2 A20.out).mono ?_); (case side1 => exact cq (Kd.Q_reads' HO734.out).2.2); (case side2 => exact (Kd.Q_reads' HO734.out).2.1); rintro e w21 ⟨v743, rfl, ho0, hb⟩; refine ⟨_, rfl, ?_⟩; have HO744 := am (Kd.R_lower (Kd.R_new' ho0 (Kd.R_lt (rq HO740.out))) (below_size (Y28))); replace HO731 := am (Kd.R_below (rq HO731.out) hb); replace HO734 := am (Kd.Q_below (Y103) hb); replace HO740 := am (Kd.R_elder' (rq HO740.out) (Kd.R_base ho0) hb); replace BK725 := am (blk_below (g := gb725) (o := .cells #[.slice none 0 0] 32 (0, 0)) (kq BK725.out) hb); replace BK737 := am (blk_below (g := gb737) (o := .cells #[.slice Ao10 t729.length co10] 32 (0, 0)) (kq BK737.out) hb); replace HB := am (below_step (Y28) hb); replace HI728 := am (IsS106.below (Y18) hb); (try clear hb); (try clear hb2); (try clear hk); (try clear hi); (try clear ho0)))
   go_meet
   case rel => exact ⟨_, (t742), H', ⟨Y36⟩, ⟨by (with_reducible repeat (first | apply Kd.R_alloc | apply Kd.R_drewN | apply Kd.R_drew)); exact Kd.R_mono HO744.out (fun _ hk => trivial)⟩, ⟨rq HO731.out⟩, ⟨kq BK725.out⟩, ⟨kq BK737.out⟩, ⟨Y18⟩, ⟨Y28⟩⟩
  ·replace c19 := Bool.eq_false_iff.mpr c19
   subst c19
   have H1 : (spec_DrawLookUp.j0 k t735 y738 t726 t736 t729) = some (r1, r2, r3, r4) := by rw [if_neg (show ¬ (false = true) by decide)] at H; exact H
   clear H
   have H := H1
   clear H1
   have H' := am H
   clear H
   go_wp2
   go_meet
   case rel => exact ⟨_, (y738), H', ⟨Y36⟩, ⟨rq HO740.out⟩, ⟨rq HO731.out⟩, ⟨kq BK725.out⟩, ⟨kq BK737.out⟩, ⟨Y18⟩, ⟨Y28⟩⟩
 case rest =>
  clear HC5
  try clear c1
  try clear c2
  try clear p2
  try clear c3
  try clear c4
  try clear c5
  try clear c11
  try clear c12
  try clear c19
  try clear hcz13_0
  try clear hcz16_0
  try clear hfz13_0
  try clear hfz16_0
  obtain ⟨kq, x10_4, HA, HJ4, HO_10, HO_738000, BK725, BK737, HI728, HB⟩ := hcut
  cases kq with
  | zero => exact absurd HA.out (by simp [spec_DrawLookUp.j0])
  | succ kj4 =>
   have H := HA.out
   clear HA
   simp only [spec_DrawLookUp.j0] at H
   have HC22 := am H
   clear H
   go_upto_region 6 with (fail)
   go_cut [33] (fun v33 wc => ∃ (kq : Nat) (x33_21 : Bool) (x729001_21 : Int), v33 = .bool x33_21 ∧ Aside0 (spec_DrawLookUp.j1 kq t735 x10_4 x33_21 t726 x729001_21 t729 = some (r1, r2, r3, r4)) ∧ Aside0 (kq ≤ kj4) ∧ Aside0 (Kd.R k48 48 wc w.heap.size (fun _ => True) u10 x10_4) ∧ Aside0 (Kd.R k98 98 wc w.heap.size (fun _ => True) (.slice Ao10 t729.length co10) t729) ∧ Aside0 (wc.heap[gb725]? = some (.cells #[(.slice none 0 0)] 32 (0, 0))) ∧ Aside0 (wc.heap[gb737]? = some (.cells #[(.slice Ao10 t729.length co10)] 32 (0, 0))) ∧ Aside0 (IsS106 w wc g728 t726 x729001_21) ∧ Aside0 (Below w.heap.size w wc))
   case first =>
    have H := HC22.out
    clear HC22
    by_cases c23 : (x10_4.length : Int) > 0
    ·rw [if_pos c23] at H
     have c23b0 : decide (0 < (x10_4.length : Int)) = true := decide_eq_true c23
     have c23b1 : decide (0 < x10_4.length) = true := decide_eq_true (by omega)
     clear c23
     (first | rw [c23b0] | (simp only [i64_w, i32_w]; rw [c23b0]) | skip)
     replace H := Option.bind_eq_some_iff.mp H
     obtain ⟨⟨t745, t746⟩, A240, H⟩ := H
     replace H : (spec_DrawLookUp.j1 kj4 t735 x10_4 (t745 == 0) t726 t746 t729) = some (r1, r2, r3, r4) := H
     have A24 := am A240
     clear A240
     have H' := am H
     clear H
     obtain ⟨Ao25, co25, eo25⟩ := Kd.R_slice HO_10.out
     subst eo25
     go_wp2_with (first | (go_at_call 55; (with_reducible refine (spec_reader_pick.calls kj4 g728 t726 t736 12 t745 t746 w _ ?side1 ?side2 A24.out).mono ?_); (case side1 => exact Y18); (case side2 => exact Y28); rintro e w26 ⟨rfl, hi, hb, hk⟩; replace HO_10 := am (Kd.R_mono (Kd.R_keep (IsS106.apart (show IsS106 w _ g728 t726 t736 from Y18) (rq HO_10.out) (by decide)) hk (fun _ h => h.2)) (fun _ h => h.1)); replace HO_738000 := am (Kd.R_mono (Kd.R_keep (IsS106.apart (show IsS106 w _ g728 t726 t736 from Y18) (rq HO_738000.out) (by decide)) hk (fun _ h => h.2)) (fun _ h => h.1)); replace BK725 := am (KeepBut.blk hk (g' := gb725) (o := .cells #[.slice none 0 0] 32 (0, 0)) (kq BK725.out) NB725_728.out (by simp)); replace BK737 := am (KeepBut.blk hk (g' := gb737) (o := .cells #[.slice Ao10 t729.length co10] 32 (0, 0)) (kq BK737.out) NB737_728.out (by simp)); replace HB := am (hb); replace HI728 := am (hi); (try clear hb); (try clear hb2); (try clear hk); (try clear hi)))
     go_meet
     case rel => exact ⟨_, ((t745 == 0)), (t746), (sq), H', ⟨by have := HJ4.out; first | omega | exact Nat.le_refl _⟩, ⟨rq HO_10.out⟩, ⟨rq HO_738000.out⟩, ⟨kq BK725.out⟩, ⟨kq BK737.out⟩, ⟨Y18⟩, ⟨Y28⟩⟩
    ·rw [if_neg c23] at H
     have c23b0 : decide (0 < (x10_4.length : Int)) = false := decide_eq_false c23
     have c23b1 : decide (0 < x10_4.length) = false := decide_eq_false (by omega)
     clear c23
     (first | rw [c23b0] | (simp only [i64_w, i32_w]; rw [c23b0]) | skip)
     have H' := am H
     clear H
     obtain ⟨Ao27, co27, eo27⟩ := Kd.R_slice HO_10.out
     subst eo27
     go_wp2
     go_meet
     case rel => exact ⟨_, (false), (t736), (sq), H', ⟨by have := HJ4.out; first | omega | exact Nat.le_refl _⟩, ⟨rq HO_10.out⟩, ⟨rq HO_738000.out⟩, ⟨kq BK725.out⟩, ⟨kq BK737.out⟩, ⟨Y18⟩, ⟨Y28⟩⟩
   case rest =>
    clear HC22
    try clear c1
    try clear c2
    try clear p2
    try clear c3
    try clear c4
    try clear c5
    try clear c11
    try clear c12
    try clear c19
    try clear c23
    try clear c23b0
    try clear c23b1
    try clear c25
    try clear hcz13_0
    try clear hcz16_0
    try clear hfz13_0
    try clear hfz16_0
    try clear p2
    obtain ⟨kq, x33_21, x729001_21, rfl, HA, HJ21, HO_10, HO_738000, BK725, BK737, HI728, HB⟩ := hcut
    cases kq with
    | zero => exact absurd HA.out (by simp [spec_DrawLookUp.j1])
    | succ kj21 =>
     have H := HA.out
     clear HA
     simp only [spec_DrawLookUp.j1] at H
     by_cases c28 : x33_21 = true
     ·subst c28
      have H1 : ((spec_reader_pick.f kj21 t726 x729001_21 (x10_4.length : Int)).bind fun bt747 => ((spec_reader_one.f kj21 t726 bt747.2 (([0, 24, 25, (-1)] : List Int))).bind fun bt752 => (if 0 ≤ bt747.1 then (if bt747.1 < (x10_4.length : Int) then ((spec_aClass.f kj21 t726 bt752.2 t729).bind fun bt755 => (some (t729, (x10_4.set (bt747.1 : Int).toNat (⟨(rd_T48 x10_4 bt747.1).f0, bt752.1, (rd_T48 x10_4 bt747.1).f2, (rd_T48 x10_4 bt747.1).f3⟩ : S48)), t735, bt755.1))) else (none)) else (none)))) = some (r1, r2, r3, r4) := by rw [if_pos rfl] at H; exact H
      clear H
      have H := H1
      clear H1
      replace H := Option.bind_eq_some_iff.mp H
      obtain ⟨⟨t747, t748⟩, A290, H⟩ := H
      replace H : ((spec_reader_one.f kj21 t726 t748 (([0, 24, 25, (-1)] : List Int))).bind fun bt752 => (if 0 ≤ t747 then (if t747 < (x10_4.length : Int) then ((spec_aClass.f kj21 t726 bt752.2 t729).bind fun bt755 => (some (t729, (x10_4.set (t747 : Int).toNat (⟨(rd_T48 x10_4 t747).f0, bt752.1, (rd_T48 x10_4 t747).f2, (rd_T48 x10_4 t747).f3⟩ : S48)), t735, bt755.1))) else (none)) else (none))) = some (r1, r2, r3, r4) := H
      have A29 := am A290
      clear A290
      obtain ⟨y749, hy749⟩ : ∃ y_ : List Int, y_ = (([0, 24, 25, (-1)] : List Int)) := ⟨_, rfl⟩
      replace H : ((spec_reader_one.f kj21 t726 t748 y749).bind fun bt752 => (if 0 ≤ t747 then (if t747 < (x10_4.length : Int) then ((spec_aClass.f kj21 t726 bt752.2 t729).bind fun bt755 => (some (t729, (x10_4.set (t747 : Int).toNat (⟨(rd_T48 x10_4 t747).f0, bt752.1, (rd_T48 x10_4 t747).f2, (rd_T48 x10_4 t747).f3⟩ : S48)), t735, bt755.1))) else (none)) else (none))) = some (r1, r2, r3, r4) := by first | (rw [hy749]; with_reducible exact H) | (have H2_ := (Option.bind_some _ _).symm.trans H; rw [hy749]; with_reducible exact H2_) | (have H2_ := (Option.bind_some _ _).symm.trans H; with_reducible exact H2_) | with_reducible exact H | (rw [hy749]; exact H) | exact H
      have Ny749 := am hy749
      clear hy749
      replace H := Option.bind_eq_some_iff.mp H
      obtain ⟨⟨t752, t753⟩, A300, H⟩ := H
      replace H : (if 0 ≤ t747 then (if t747 < (x10_4.length : Int) then ((spec_aClass.f kj21 t726 t753 t729).bind fun bt755 => (some (t729, (x10_4.set (t747 : Int).toNat (⟨(rd_T48 x10_4 t747).f0, t752, (rd_T48 x10_4 t747).f2, (rd_T48 x10_4 t747).f3⟩ : S48)), t735, bt755.1))) else (none)) else (none)) = some (r1, r2, r3, r4) := H
      have A30 := am A300
      clear A300
      by_cases c31 : 0 ≤ t747
      ·rw [if_pos c31] at H
       have c31b0 : decide (0 ≤ t747) = true := decide_eq_true c31
       clear c31
       by_cases c32 : t747 < (x10_4.length : Int)
       ·rw [if_pos c32] at H
        have c32b0 : decide (t747 < (x10_4.length : Int)) = true := decide_eq_true c32
        clear c32
        obtain ⟨y754, hy754⟩ : ∃ y_ : List (S48), y_ = (x10_4.set (t747 : Int).toNat (⟨(rd_T48 x10_4 t747).f0, t752, (rd_T48 x10_4 t747).f2, (rd_T48 x10_4 t747).f3⟩ : S48)) := ⟨_, rfl⟩
        replace H : ((spec_aClass.f kj21 t726 t753 t729).bind fun bt755 => (some (t729, y754, t735, bt755.1))) = some (r1, r2, r3, r4) := by first | (rw [hy754]; with_reducible exact H) | (have H2_ := (Option.bind_some _ _).symm.trans H; rw [hy754]; with_reducible exact H2_) | (have H2_ := (Option.bind_some _ _).symm.trans H; with_reducible exact H2_) | with_reducible exact H | (rw [hy754]; exact H) | exact H
        have Ny754 := am hy754
        clear hy754
        replace H := Option.bind_eq_some_iff.mp H
        obtain ⟨⟨t755, t756⟩, A340, H⟩ := H
        replace H : (some (t729, y754, t735, t755)) = some (r1, r2, r3, r4) := H
        have A34 := am A340
        clear A340
        simp only [Option.some.injEq, Prod.mk.injEq] at H
        obtain ⟨rfl, rfl, rfl, rfl⟩ := H
        obtain ⟨Ao35, co35, eo35⟩ := Kd.R_slice HO_10.out
        subst eo35
        try go_wp2_with (first | ((with_reducible refine gate_callee (f := 55) rfl ?_); refine gL (some 37) Try.func55 #[.pointer (some ⟨g728, 0, none⟩), .int .i64 (x10_4.length : Int)] ?_; (with_reducible refine (spec_reader_pick.calls kj21 g728 t726 x729001_21 (x10_4.length : Int) t747 t748 w _ ?side1 ?side2 A29.out).mono ?_); (case side1 => exact Y18); (case side2 => exact Y28); rintro e w36 ⟨rfl, hi, hb, hk⟩; refine ⟨_, rfl, ?_⟩; replace HO_10 := am (Kd.R_mono (Kd.R_keep (IsS106.apart (show IsS106 w _ g728 t726 x729001_21 from Y18) (rq HO_10.out) (by decide)) hk (fun _ h => h.2)) (fun _ h => h.1)); replace HO_738000 := am (Kd.R_mono (Kd.R_keep (IsS106.apart (show IsS106 w _ g728 t726 x729001_21 from Y18) (rq HO_738000.out) (by decide)) hk (fun _ h => h.2)) (fun _ h => h.1)); replace BK725 := am (KeepBut.blk hk (g' := gb725) (o := .cells #[.slice none 0 0] 32 (0, 0)) (kq BK725.out) NB725_728.out (by simp)); replace BK737 := am (KeepBut.blk hk (g' := gb737) (o := .cells #[.slice Ao10 t729.length co10] 32 (0, 0)) (kq BK737.out) NB737_728.out (by simp)); replace HB := am (hb); replace HI728 := am (hi); (try clear hb); (try clear hb2); (try clear hk); (try clear hi)) | ((with_reducible refine gate_dst (N := 41) rfl ?_); refine Kd.R_lit (Kd.int .i64) _ 3 ?hg (N := 41) ?hd (xs := ([0, 24, 25, (-1)] : List Int)) (inner := [.int .i64 0, .int .i64 24, .int .i64 25, .int .i64 (-1)]) (ok := fun _ => True) (okp := fun _ => True) ?hr ?hp (fun _ hk => hk) trivial (Below.refl _ _) (Nat.le_refl _) (by simp) ?_; (case hd => rfl); (case hg => rfl); (case hr => exact Y5); (case hp => exact (Reps.one (show Kd.M (Kd.int .i64) _ _ _ 0 [.int .i64 0] from rfl) (Reps.one (show Kd.M (Kd.int .i64) _ _ _ 24 [.int .i64 24] from rfl) (Reps.one (show Kd.M (Kd.int .i64) _ _ _ 25 [.int .i64 25] from rfl) (Reps.one (show Kd.M (Kd.int .i64) _ _ _ (-1) [.int .i64 (-1)] from rfl) (Reps.none _ _)))))); intro v750 w37 ho38 hb hg_ hnew_; clear hg_ hnew_; (first | rw [← Ny749.out] at ho38 | (simp only [Int.reduceToNat] at ho38; rw [← Ny749.out] at ho38)); have HO751 := am (Kd.R_lower ho38 (below_size (Y28))); replace HO_10 := am (Kd.R_below (rq HO_10.out) hb); replace HO_738000 := am (Kd.R_below (rq HO_738000.out) hb); replace BK725 := am (blk_below (g := gb725) (o := .cells #[.slice none 0 0] 32 (0, 0)) (kq BK725.out) hb); replace BK737 := am (blk_below (g := gb737) (o := .cells #[.slice Ao10 t729.length co10] 32 (0, 0)) (kq BK737.out) hb); replace HB := am (below_step (Y28) hb); replace HI728 := am (IsS106.below (Y18) hb); clear hb ho38; obtain ⟨Ao39, co39, eo39⟩ := Kd.R_slice HO751.out; subst eo39) | ((with_reducible refine gate_callee (f := 56) rfl ?_); refine gL (some 42) Try.func56 #[.pointer (some ⟨g728, 0, none⟩), .slice Ao39 y749.length co39] ?_; (with_reducible refine (spec_reader_one.calls kj21 g728 t726 t748 _ _ y749 t752 t753 w _ ?side1 ?side2 ?side3 ?side4 ?side5 A30.out).mono ?_); (case side1 => exact Y18); (case side2 => exact Y28); (case side3 => exact cq (Kd.R_reads' HO751.out).2.2); (case side4 => exact (Kd.R_reads' HO751.out).2.1); (case side5 => exact far_slice (IsS106.own_ne HI728.out HO751.out (by decide))); rintro e w40 ⟨rfl, hi, hb, hk⟩; refine ⟨_, rfl, ?_⟩; replace HO_10 := am (Kd.R_mono (Kd.R_keep (IsS106.apart (show IsS106 w _ g728 t726 t748 from Y18) (rq HO_10.out) (by decide)) hk (fun _ h => h.2)) (fun _ h => h.1)); replace HO_738000 := am (Kd.R_mono (Kd.R_keep (IsS106.apart (show IsS106 w _ g728 t726 t748 from Y18) (rq HO_738000.out) (by decide)) hk (fun _ h => h.2)) (fun _ h => h.1)); replace BK725 := am (KeepBut.blk hk (g' := gb725) (o := .cells #[.slice none 0 0] 32 (0, 0)) (kq BK725.out) NB725_728.out (by simp)); replace BK737 := am (KeepBut.blk hk (g' := gb737) (o := .cells #[.slice Ao10 t729.length co10] 32 (0, 0)) (kq BK737.out) NB737_728.out (by simp)); replace HO751 := am (Kd.R_mono (Kd.R_keep (IsS106.apart (show IsS106 w _ g728 t726 t748 from Y18) (rq HO751.out) (by decide)) hk (fun _ h => h.2)) (fun _ h => h.1)); replace HB := am (hb); replace HI728 := am (hi); (try clear hb); (try clear hb2); (try clear hk); (try clear hi); have p33 : 0 ≤ (t747 : Int) := of_decide_eq_true (uq); have q33 : (t747 : Int) < ((x10_4.length : Int) : Int) := of_decide_eq_true (uq); obtain ⟨go33, co33, eo33, gb33, gl33, cl33, HG33⟩ := Kd.R_form HO_10.out (by omega); (first | cases eo33 | (injection eo33 with ea_ en_ ec_; (first | subst ea_ | (injection ea_ with ea_; subst ea_)); subst ec_; clear en_)); have GB33 := am gb33; have GG33 := am HG33; clear gb33 gl33 HG33; obtain ⟨ce33, hcl33, hM33, hcc33, hfr33⟩ := Kd.R_elem HO_10.out z48 (t747 : Int) p33 q33; obtain rfl := k48_openM hM33; have hx33_0 : w40.cell? ⟨go33, (t747 : Int).toNat * 4, none⟩ = some (.int .i64 ((rd_T48 x10_4 t747).f0)) := hcc33 0 _ rfl; have hx33_1 : w40.cell? ⟨go33, (t747 : Int).toNat * 4 + 1, none⟩ = some (.int .i64 ((rd_T48 x10_4 t747).f1)) := hcc33 1 _ rfl; have hx33_2 : w40.cell? ⟨go33, (t747 : Int).toNat * 4 + 2, none⟩ = some (.int .i64 ((rd_T48 x10_4 t747).f2)) := hcc33 2 _ rfl; have hx33_3 : w40.cell? ⟨go33, (t747 : Int).toNat * 4 + 3, none⟩ = some (.int .i64 ((rd_T48 x10_4 t747).f3)) := hcc33 3 _ rfl; have hf33_0 : w40.frozen? ⟨go33, (t747 : Int).toNat * 4, none⟩ = false := hfr33 0; have hf33_1 : w40.frozen? ⟨go33, (t747 : Int).toNat * 4 + 1, none⟩ = false := hfr33 1; have hf33_2 : w40.frozen? ⟨go33, (t747 : Int).toNat * 4 + 2, none⟩ = false := hfr33 2; have hf33_3 : w40.frozen? ⟨go33, (t747 : Int).toNat * 4 + 3, none⟩ = false := hfr33 3; clear hcl33 hcc33 hfr33 hM33; replace p33 := eq_true p33; replace q33 := eq_true q33; have HX41 := am (show Kd.R k48 48 w40 w.heap.size (fun _ => True) (.slice (some ⟨go33, 0, none⟩) x10_4.length co35) x10_4 from (rq HO_10.out)); obtain ⟨ce41, hcl41, hM41, hcc41, hfr41⟩ := Kd.R_elem HX41.out z48 (t747 : Int) (of_decide_eq_true (uq)) (by have h_ : (t747 : Int) < ((x10_4.length : Int) : Int) := of_decide_eq_true (uq); first | exact h_ | (have e_ := (Kd.R_reads' HO_10.out).1; omega) | simpa using h_); obtain rfl := k48_openM hM41; have HP41 := Kd.R_seg HX41.out (t747 : Int) (of_decide_eq_true (uq)) (by have h_ : (t747 : Int) < ((x10_4.length : Int) : Int) := of_decide_eq_true (uq); first | exact h_ | (have e_ := (Kd.R_reads' HO_10.out).1; omega) | simpa using h_) (seg := [.int .i64 t752]) (j := 1) hcl41 hcc41 (show 2 ≤ 4 from by decide) (x' := (⟨(rd_T48 x10_4 t747).f0, t752, (rd_T48 x10_4 t747).f2, (rd_T48 x10_4 t747).f3⟩ : S48)) (k48_mkM _ _ _ (⟨(rd_T48 x10_4 t747).f0, t752, (rd_T48 x10_4 t747).f2, (rd_T48 x10_4 t747).f3⟩ : S48) ) (fun _ hk => hk); have hx41_1 := hcc41 1 _ rfl; (try simp only [show (k48).sz = 4 from rfl, Nat.mul_one, Nat.add_zero] at hx41_1); have hf41_1 := hfr41 1; (try simp only [show (k48).sz = 4 from rfl, Nat.mul_one, Nat.add_zero] at hf41_1); clear hcl41 hcc41 hfr41 hM41) | ((with_reducible refine gate_store (t := 3) (p := 44) rfl ?_); refine store_event (t := 3) (p := 44) (v := ?vo_w42) (w1 := (w40.setCell ⟨go33, (t747 : Int).toNat * 4 + 1, none⟩ (.int .i64 t752))) ?hg ?ho ?hn ?hr ?_; (case ho => rfl); (case hg => rfl); (case hn => rfl); (case hr => exact Y5); intro w42 hw; have hg : w40.grownBy w42 (some go33) := (by rw [hw]; exact HP41.2); have hp_ : Kd.R k48 48 w42 w.heap.size (fun _ => True) (.slice (some ⟨go33, 0, none⟩) x10_4.length co35) y754 := (by rw [hw, Ny754.out]; exact HP41.1); clear HP41; replace HO_738000 := am (Kd.R_over' (v := (.slice (some ⟨go33, 0, none⟩) x10_4.length co35)) (rq HO_738000.out) (Kd.R_typed HO_10.out) (by decide) hg); replace BK725 := am (blk_grown (g := gb725) (o := .cells #[.slice none 0 0] 32 (0, 0)) (kq BK725.out) hg (Kd.R_ne HO_10.out BK725.out (by decide))); replace BK737 := am (blk_grown (g := gb737) (o := .cells #[.slice Ao10 t729.length co10] 32 (0, 0)) (kq BK737.out) hg (Kd.R_ne HO_10.out BK737.out (by decide))); replace HI728 := am (IsS106.grown (Y18) hg (IsS106.own_ne HI728.out HO_10.out (by decide))); replace HO751 := am (Kd.R_over' (v := (.slice (some ⟨go33, 0, none⟩) x10_4.length co35)) (rq HO751.out) (Kd.R_typed HO_10.out) (by decide) hg); replace HO_10 := am (hp_); replace HB := am ((by rw [hw]; exact below_set (HB.out) GB33.out : Below w.heap.size w w42)); clear hg hw hp_))
        replace HO_10 := am (Kd.R_drew HO_10.out)
        replace HO_738000 := am (Kd.R_drew HO_738000.out)
        replace HO751 := am (Kd.R_drew HO751.out)
        replace BK725 := am (blk_drew BK725.out)
        replace BK737 := am (blk_drew BK737.out)
        replace HI728 := am (IsS106.drew HI728.out)
        replace HB := am (below_drew1 HB.out)
        refine start_ (n := 10) (S := fun w' => w'.cell? ⟨gb737, 0, none⟩ = some (.slice Ao10 t729.length co10)) (ds := []) #[false, false, false, false, false, false, false, false, false, false] (by kernel_rfl) rfl rfl ((blk_cell BK737.out 0).trans rfl) (fun hHeld => ?_); refine with_tabW spec_DrawLookUp.tab9 spec_DrawLookUp.bits9 (fun HT_ HW_ => ?_)
        generalize w42.drew = w43 at HO_10 HO_738000 HO751 BK725 BK737 HI728 HB hHeld ⊢
        refine pq (i := 1) (N := some 46) #[false, true, false, false, false, false, false, false, false, false] ?_
        refine pq (i := 2) (N := some 47) #[false, true, true, false, false, false, false, false, false, false] ?_
        refine pq (i := 3) (N := some 48) #[false, true, true, true, false, false, false, false, false, false] ?_
        refine take_ (i := 0) (N := some 45) (v := ?_) (a' := ?_) #[true, true, true, true, false, false, false, false, false, false] rfl rfl (take_ofW HT_.out HW_.out (by kernel_rfl)) (fun _ _ _ h => h) (Or.inl ⟨by rfl, ?_⟩) hHeld ?_ ?_
        rotate_left
        ·intro w' s0
         go_simp
         with_reducible rfl
        rotate_left
        ·exact sa
        refine take_ (i := 4) (N := some 49) (v := ?_) (a' := ?_) #[true, true, true, true, true, false, false, false, false, false] rfl rfl (take_ofW HT_.out HW_.out (by kernel_rfl)) (fun _ _ _ h => h) (Or.inl ⟨by rfl, ?_⟩) hHeld ?_ ?_
        rotate_left
        ·intro w' s0
         go_simp
         with_reducible rfl
        rotate_left
        ·exact sa
        refine one_ (i := 5) (N := some 50) #[true, true, true, true, true, true, false, false, false, false] rfl rfl (one_of HT_.out (by kernel_rfl)) (by decide) (fun K hK => ?_)
        refine goes_ Try.func57 (by kernel_rfl) rfl #[.pointer (some ⟨g728, 0, none⟩), .agg #[.slice Ao10 t729.length co10]] (by rfl) rfl rfl (aq) ?_
        with_reducible refine (spec_aClass.calls kj21 g728 t726 t753 _ _ t729 t755 t756 w _ ?side1 ?side2 ?side3 ?side4 A34.out).mono ?_
        (case side1 => exact Y18)
        (case side2 => exact Y28)
        (case side3 => exact Kd.C_foot_own (IsS106.apart (show IsS106 w _ g728 t726 t753 from Y18) (rq HO_738000.out) (by decide)) (fun _ h_ => h_.2))
        (case side4 => exact (Kd.R_reads' HO_738000.out).2.1)
        rintro e w44 ⟨rfl, hi, hb, hk⟩
        refine ⟨_, rfl, ?_⟩
        replace HO_10 := am (Kd.R_mono (Kd.R_keep (IsS106.apart (show IsS106 w _ g728 t726 t753 from Y18) (rq HO_10.out) (by decide)) hk (fun _ h => h.2)) (fun _ h => h.1))
        replace HO_738000 := am (Kd.R_mono (Kd.R_keep (IsS106.apart (show IsS106 w _ g728 t726 t753 from Y18) (rq HO_738000.out) (by decide)) hk (fun _ h => h.2)) (fun _ h => h.1))
        replace BK725 := am (KeepBut.blk hk (g' := gb725) (o := .cells #[.slice none 0 0] 32 (0, 0)) (kq BK725.out) NB725_728.out (by simp))
        replace BK737 := am (KeepBut.blk hk (g' := gb737) (o := .cells #[.slice Ao10 t729.length co10] 32 (0, 0)) (kq BK737.out) NB737_728.out (by simp))
        replace HO751 := am (Kd.R_mono (Kd.R_keep (IsS106.apart (show IsS106 w _ g728 t726 t753 from Y18) (rq HO751.out) (by decide)) hk (fun _ h => h.2)) (fun _ h => h.1))
        replace HB := am (hb)
        replace HI728 := am (hi)
        (try clear hb)
        (try clear hb2)
        (try clear hk)
        (try clear hi)
        refine hK.out _ _ ((blk_cell BK737.out 0).trans rfl) (fun hHeld => ?_)
        clear hK K
        refine norm_ (a' := ?_) ?_ ?_
        rotate_left
        ·show Act.put _ (some 50) _ = _
         simp only [Act.put, List.setIfInBounds_toArray, List.set_cons_zero, List.set_cons_succ, i64_w, i32_w]
         rfl
        refine one_ (i := 6) (N := none) #[true, true, true, true, true, true, true, false, false, false] rfl rfl (one_of HT_.out (by kernel_rfl)) (by decide) (fun K hK => ?_)
        have hs45 : w44.cell? ⟨gb725, 0, none⟩ = some (.slice none 0 0) := (blk_cell BK725.out 0).trans rfl
        have hfs45 := blk_frozen BK725.out 0
        have hns45_1 := NB737_725.out
        have hms45_1 := NB725_737.out
        refine skip_ (w1 := ?_) (by rfl) rfl ?_ ?_
        rotate_left
        ·go_simp
         rfl
        refine hK.out _ _ (((cell_far (p := ⟨gb725, _, none⟩) NB737_725.out _).trans (hHeld))) (fun hHeld => ?_)
        clear hK K
        refine pq (i := 7) (N := some 3) #[true, true, true, true, true, true, true, true, false, false] ?_
        refine pq (i := 8) (N := some 4) #[true, true, true, true, true, true, true, true, true, false] ?_
        refine pq (i := 9) (N := some 5) #[true, true, true, true, true, true, true, true, true, true] ?_
        refine done_ (done_of HT_.out (by kernel_rfl)) ?_
        try go_wp2
        refine bodyPost_ret (results_list (rs := [.cell 2 32, .tmp 3, .tmp 4, .tmp 5]) rfl (by simp) (.cell gb725 32 #[.slice Ao10 t729.length co10] (0, 0) _ rfl (Y125) Try.underlying32 rfl (by kernel_rfl) (.tmp (.tmp (.tmp .nil))))) rfl ?_
        exact ⟨_, _, Y0, by (with_reducible repeat (first | apply Kd.R_alloc | apply Kd.R_drewN | apply Kd.R_drew)); exact Kd.R_mono (Kd.R_far (p := ⟨gb725, 0, none⟩) (Kd.R_types HO_738000.out BK725.out (by decide)) (fun _ hk => hk.2) (.slice Ao10 t729.length co10)) (fun _ hk => trivial), by (with_reducible repeat (first | apply Kd.R_alloc | apply Kd.R_drewN | apply Kd.R_drew)); exact Kd.R_mono (Kd.R_far (p := ⟨gb725, 0, none⟩) (Kd.R_types HO_10.out BK725.out (by decide)) (fun _ hk => hk.2) (.slice Ao10 t729.length co10)) (fun _ hk => trivial), Y28⟩
       ·rw [if_neg c32] at H
        exact absurd H (by simp)
      ·rw [if_neg c31] at H
       exact absurd H (by simp)
     ·replace c28 := Bool.eq_false_iff.mpr c28
      subst c28
      have H1 : ((spec_aClass.f kj21 t726 x729001_21 t729).bind fun bt757 => (some (t729, x10_4, t735, bt757.1))) = some (r1, r2, r3, r4) := by rw [if_neg (show ¬ (false = true) by decide)] at H; exact H
      clear H
      have H := H1
      clear H1
      replace H := Option.bind_eq_some_iff.mp H
      obtain ⟨⟨t757, t758⟩, A460, H⟩ := H
      replace H : (some (t729, x10_4, t735, t757)) = some (r1, r2, r3, r4) := H
      have A46 := am A460
      clear A460
      simp only [Option.some.injEq, Prod.mk.injEq] at H
      obtain ⟨rfl, rfl, rfl, rfl⟩ := H
      try go_wp2
      replace HO_10 := am (Kd.R_drew HO_10.out)
      replace HO_738000 := am (Kd.R_drew HO_738000.out)
      replace BK725 := am (blk_drew BK725.out)
      replace BK737 := am (blk_drew BK737.out)
      replace HI728 := am (IsS106.drew HI728.out)
      replace HB := am (below_drew1 HB.out)
      refine start_ (n := 10) (S := fun w' => w'.cell? ⟨gb737, 0, none⟩ = some (.slice Ao10 t729.length co10)) (ds := []) #[false, false, false, false, false, false, false, false, false, false] (by kernel_rfl) rfl rfl ((blk_cell BK737.out 0).trans rfl) (fun hHeld => ?_); refine with_tabW spec_DrawLookUp.tab9 spec_DrawLookUp.bits9 (fun HT_ HW_ => ?_)
      generalize wc.drew = w47 at HO_10 HO_738000 BK725 BK737 HI728 HB hHeld ⊢
      refine pq (i := 1) (N := some 46) #[false, true, false, false, false, false, false, false, false, false] ?_
      refine pq (i := 2) (N := some 47) #[false, true, true, false, false, false, false, false, false, false] ?_
      refine pq (i := 3) (N := some 48) #[false, true, true, true, false, false, false, false, false, false] ?_
      refine take_ (i := 0) (N := some 45) (v := ?_) (a' := ?_) #[true, true, true, true, false, false, false, false, false, false] rfl rfl (take_ofW HT_.out HW_.out (by kernel_rfl)) (fun _ _ _ h => h) (Or.inl ⟨by rfl, ?_⟩) hHeld ?_ ?_
      rotate_left
      ·intro w' s0
       go_simp
       with_reducible rfl
      rotate_left
      ·exact sa
      refine take_ (i := 4) (N := some 49) (v := ?_) (a' := ?_) #[true, true, true, true, true, false, false, false, false, false] rfl rfl (take_ofW HT_.out HW_.out (by kernel_rfl)) (fun _ _ _ h => h) (Or.inl ⟨by rfl, ?_⟩) hHeld ?_ ?_
      rotate_left
      ·intro w' s0
       go_simp
       with_reducible rfl
      rotate_left
      ·exact sa
      refine one_ (i := 5) (N := some 50) #[true, true, true, true, true, true, false, false, false, false] rfl rfl (one_of HT_.out (by kernel_rfl)) (by decide) (fun K hK => ?_)
      refine goes_ Try.func57 (by kernel_rfl) rfl #[.pointer (some ⟨g728, 0, none⟩), .agg #[.slice Ao10 t729.length co10]] (by rfl) rfl rfl (aq) ?_
      with_reducible refine (spec_aClass.calls kj21 g728 t726 x729001_21 _ _ t729 t757 t758 w _ ?side1 ?side2 ?side3 ?side4 A46.out).mono ?_
      (case side1 => exact Y18)
      (case side2 => exact Y28)
      (case side3 => exact Kd.C_foot_own (IsS106.apart (show IsS106 w _ g728 t726 x729001_21 from Y18) (rq HO_738000.out) (by decide)) (fun _ h_ => h_.2))
      (case side4 => exact (Kd.R_reads' HO_738000.out).2.1)
      rintro e w48 ⟨rfl, hi, hb, hk⟩
      refine ⟨_, rfl, ?_⟩
      replace HO_10 := am (Kd.R_mono (Kd.R_keep (IsS106.apart (show IsS106 w _ g728 t726 x729001_21 from Y18) (rq HO_10.out) (by decide)) hk (fun _ h => h.2)) (fun _ h => h.1))
      replace HO_738000 := am (Kd.R_mono (Kd.R_keep (IsS106.apart (show IsS106 w _ g728 t726 x729001_21 from Y18) (rq HO_738000.out) (by decide)) hk (fun _ h => h.2)) (fun _ h => h.1))
      replace BK725 := am (KeepBut.blk hk (g' := gb725) (o := .cells #[.slice none 0 0] 32 (0, 0)) (kq BK725.out) NB725_728.out (by simp))
      replace BK737 := am (KeepBut.blk hk (g' := gb737) (o := .cells #[.slice Ao10 t729.length co10] 32 (0, 0)) (kq BK737.out) NB737_728.out (by simp))
      replace HB := am (hb)
      replace HI728 := am (hi)
      (try clear hb)
      (try clear hb2)
      (try clear hk)
      (try clear hi)
      refine hK.out _ _ ((blk_cell BK737.out 0).trans rfl) (fun hHeld => ?_)
      clear hK K
      refine norm_ (a' := ?_) ?_ ?_
      rotate_left
      ·show Act.put _ (some 50) _ = _
       simp only [Act.put, List.setIfInBounds_toArray, List.set_cons_zero, List.set_cons_succ, i64_w, i32_w]
       rfl
      refine one_ (i := 6) (N := none) #[true, true, true, true, true, true, true, false, false, false] rfl rfl (one_of HT_.out (by kernel_rfl)) (by decide) (fun K hK => ?_)
      have hs49 : w48.cell? ⟨gb725, 0, none⟩ = some (.slice none 0 0) := (blk_cell BK725.out 0).trans rfl
      have hfs49 := blk_frozen BK725.out 0
      have hns49_1 := NB737_725.out
      have hms49_1 := NB725_737.out
      refine skip_ (w1 := ?_) (by rfl) rfl ?_ ?_
      rotate_left
      ·go_simp
       rfl
      refine hK.out _ _ (((cell_far (p := ⟨gb725, _, none⟩) NB737_725.out _).trans (hHeld))) (fun hHeld => ?_)
      clear hK K
      refine pq (i := 7) (N := some 3) #[true, true, true, true, true, true, true, true, false, false] ?_
      refine pq (i := 8) (N := some 4) #[true, true, true, true, true, true, true, true, true, false] ?_
      refine pq (i := 9) (N := some 5) #[true, true, true, true, true, true, true, true, true, true] ?_
      refine done_ (done_of HT_.out (by kernel_rfl)) ?_
      try go_wp2
      refine bodyPost_ret (results_list (rs := [.cell 2 32, .tmp 3, .tmp 4, .tmp 5]) rfl (by simp) (.cell gb725 32 #[.slice Ao10 t729.length co10] (0, 0) _ rfl (Y125) Try.underlying32 rfl (by kernel_rfl) (.tmp (.tmp (.tmp .nil))))) rfl ?_
      exact ⟨_, _, Y0, by (with_reducible repeat (first | apply Kd.R_alloc | apply Kd.R_drewN | apply Kd.R_drew)); exact Kd.R_mono (Kd.R_far (p := ⟨gb725, 0, none⟩) (Kd.R_types HO_738000.out BK725.out (by decide)) (fun _ hk => hk.2) (.slice Ao10 t729.length co10)) (fun _ hk => trivial), by (with_reducible repeat (first | apply Kd.R_alloc | apply Kd.R_drewN | apply Kd.R_drew)); exact Kd.R_mono (Kd.R_far (p := ⟨gb725, 0, none⟩) (Kd.R_types HO_10.out BK725.out (by decide)) (fun _ hk => hk.2) (.slice Ao10 t729.length co10)) (fun _ hk => trivial), Y28⟩
mutual
def spec_validRanges.l0 : Nat → List (S48) → Int → List (S98) → Option (Bool)
 | 0, _, _, _ => none
 | k + 1, x1, x5, x760000 => if x5 < (x1.length : Int) then (if 0 ≤ x5 then ((spec_inRange.f ((rd_T48 x1 x5).f0) 0 24).bind fun t763 => (if t763 = true then ((spec_inRange.f ((rd_T48 x1 x5).f1) ((rd_T48 x1 x5).f0) 24).bind fun t764 => (if t764 = true then ((spec_inRange.f ((rd_T48 x1 x5).f2) 0 23).bind fun t765 => (if t765 = true then ((spec_hasClass.f x760000 ((rd_T48 x1 x5).f3)).bind fun t766 => (spec_validRanges.j1 k x1 x5 (!t766) x760000)) else (spec_validRanges.j1 k x1 x5 true x760000))) else (spec_validRanges.j1 k x1 x5 true x760000))) else (spec_validRanges.j1 k x1 x5 true x760000))) else (none)) else ((spec_validTree.f k x760000).bind fun t760 => (if t760 = true then (some (decide ((x1.length : Int) ≤ 24))) else (some false)))
def spec_validRanges.j1 : Nat → List (S48) → Int → Bool → List (S98) → Option (Bool)
 | 0, _, _, _, _ => none
 | k + 1, x1, x5, x41, x760000 => if x41 = true then (some false) else (spec_validRanges.l0 k x1 (wrap64 (x5 + 1)) x760000)
end
def spec_validRanges.f (k : Nat) (l0_0 : List (S98)) (l1 : List (S48)) : Option (Bool) := spec_validRanges.l0 k l1 0 l0_0
set_option maxHeartbeats 8000000 in
set_option maxRecDepth 100000 in
theorem spec_validRanges.calls (k : Nat) (A0_0 : Option Addr) (c0_0 : Nat) (l0_0 : List (S98)) (A1 : Option Addr) (c1 : Nat) (l1 : List (S48)) (r : Bool) (w : World) (hr0_0 : Kd.C k98 w A0_0 l0_0.length l0_0) (hc0_0 : l0_0.length ≤ c0_0) (hr1 : Kd.C k48 w A1 l1.length l1) (hc1 : l1.length ≤ c1) (h : spec_validRanges.f k l0_0 l1 = some r) :
  Calls Try.prog 58 #[.agg #[.slice A0_0 l0_0.length c0_0], .slice A1 l1.length c1] w fun e w' => e = .returned (.bool r) ∧ Below w.heap.size w w' := by
 have hu32 := Try.underlying32
 have hu48 := Try.underlying48
 have HR0_0 := am hr0_0
 have HC0_0 := am hc0_0
 clear hr0_0 hc0_0
 have HR1 := am hr1
 have HC1 := am hc1
 clear hr1 hc1
 have HB := am (Below.refl w.heap.size w)
 have H : (spec_validRanges.l0 k l1 0 l0_0) = some r := h
 clear h
 have H' := am H
 clear H
 go_enter Try.func58, Try.ntmps58
 go_wp2_with (first | ((with_reducible refine gate_dst (N := 2) rfl ?_); (try (refine gate_guard (by rfl) ?_; dsimp only)); refine box_event ?hg (N := 2) ?hd (cs := #[.slice A0_0 l0_0.length c0_0]) (t := 32) ?hr ?_; (case hd => rfl); (case hg => rfl); (case hr => exact Y5); intro gb759 hg w3 hbox hb; have BK759 := am (hbox); have GW759 := am ((Y11 : w.heap.size ≤ gb759)); have GE759 := am ((Y11 : w.heap.size ≤ gb759)); replace HB := am (below_step (bq) hb); clear hb hbox hg))
 go_loopg [5] k (fun kq v5 w' => ∃ (x5_1 : Int), v5 = .int .i64 x5_1 ∧ Aside0 (spec_validRanges.l0 kq l1 x5_1 l0_0 = some r) ∧ Aside0 (kq ≤ k) ∧ Aside0 (w'.heap[gb759]? = some (.cells #[(.slice A0_0 l0_0.length c0_0)] 32 (0, 0))) ∧ Aside0 (Below w.heap.size w w'))
 case atStart => exact ⟨(0), (sq), H', ⟨Nat.le_refl _⟩, ⟨kq BK759.out⟩, ⟨Y76⟩⟩
 case round =>
  clear H'
  try clear c1
  try clear p2
  obtain ⟨x5_1, rfl, HA, HK1, BK759, HB⟩ := hrel
  cases gk with
  | zero => exact absurd HA.out (by simp [spec_validRanges.l0])
  | succ k1 =>
   have H := HA.out
   clear HA
   simp only [spec_validRanges.l0] at H
   by_cases c4 : x5_1 < (l1.length : Int)
   ·rw [if_pos c4] at H
    have c4b0 : decide (x5_1 < (l1.length : Int)) = true := decide_eq_true c4
    clear c4
    by_cases c5 : 0 ≤ x5_1
    ·rw [if_pos c5] at H
     have c5b0 : decide (0 ≤ x5_1) = true := decide_eq_true c5
     clear c5
     have HC6 := am H
     clear H
     have p761 : 0 ≤ (x5_1 : Int) := of_decide_eq_true (uq)
     have q761 : x5_1 < (l1.length : Int) := of_decide_eq_true (uq)
     obtain ⟨ad761, e761, hx761_0, hx761_1, hx761_2, hx761_3⟩ := at_T48 HR1.out x5_1 p761 q761
     cases e761
     replace hx761_0 := cb HB.out hx761_0
     replace hx761_1 := cb HB.out hx761_1
     replace hx761_2 := cb HB.out hx761_2
     replace hx761_3 := cb HB.out hx761_3
     replace p761 := eq_true p761
     replace q761 := eq_true q761
     go_upto_region 5 with (first | ((with_reducible refine gate_dst (N := 6) rfl ?_); (try (refine gate_guard (by rfl) ?_; dsimp only)); refine box_event ?hg (N := 6) ?hd (cs := #[.int .i64 0, .int .i64 0, .int .i64 0, .int .i64 0]) (t := 48) ?hr ?_; (case hd => rfl); (case hg => rfl); (case hr => exact Y5); intro gb762 hg w7 hbox hb; have BK762 := am (hbox); have GW762 := am ((Y126 : w.heap.size ≤ gb762)); have GE762 := am ((Y126 : w.heap.size ≤ gb762)); have NB759_762 := am ((by rw [hg]; exact Nat.ne_of_lt (blk_lt (g := gb759) (o := .cells #[.slice A0_0 l0_0.length c0_0] 32 (0, 0)) (kq BK759.out)) : gb759 ≠ gb762)); have NB762_759 := am ((by rw [hg]; exact Nat.ne_of_gt (blk_lt (g := gb759) (o := .cells #[.slice A0_0 l0_0.length c0_0] 32 (0, 0)) (kq BK759.out)) : gb762 ≠ gb759)); replace BK759 := am (blk_below (g := gb759) (o := .cells #[.slice A0_0 l0_0.length c0_0] 32 (0, 0)) (kq BK759.out) hb); replace HB := am (below_step (Y76) hb); clear hb hbox hg; have hnb8 := NB762_759.out; have hnc8 := NB759_762.out; have hcz9_0 := bc0 BK762.out; have hcz9_1 := bc1 BK762.out; have hcz9_2 := bc2 BK762.out; have hcz9_3 := bc3 BK762.out; have hfz9_0 := blk_frozen BK762.out 0; have hfz9_1 := blk_frozen BK762.out 1; have hfz9_2 := blk_frozen BK762.out 2; have hfz9_3 := blk_frozen BK762.out 3))
     (try simp only [Act.put, List.setIfInBounds_toArray, List.set_cons_zero, List.set_cons_succ])
     go_cut [41] (fun v41 wc => ∃ (kq : Nat) (x41_5 : Bool), v41 = .bool x41_5 ∧ Aside0 (spec_validRanges.j1 kq l1 x5_1 x41_5 l0_0 = some r) ∧ Aside0 (kq ≤ k1) ∧ Aside0 (wc.heap[gb759]? = some (.cells #[(.slice A0_0 l0_0.length c0_0)] 32 (0, 0))) ∧ Aside0 (wc.heap[gb762]? = some (.cells #[.int .i64 ((rd_T48 l1 x5_1).f0), .int .i64 ((rd_T48 l1 x5_1).f1), .int .i64 ((rd_T48 l1 x5_1).f2), .int .i64 ((rd_T48 l1 x5_1).f3)] 48 (0, 0))) ∧ Aside0 (Below w.heap.size w wc))
     case first =>
      have H := HC6.out
      clear HC6
      replace H := Option.bind_eq_some_iff.mp H
      obtain ⟨t763, A100, H⟩ := H
      replace H : (if t763 = true then ((spec_inRange.f ((rd_T48 l1 x5_1).f1) ((rd_T48 l1 x5_1).f0) 24).bind fun t764 => (if t764 = true then ((spec_inRange.f ((rd_T48 l1 x5_1).f2) 0 23).bind fun t765 => (if t765 = true then ((spec_hasClass.f l0_0 ((rd_T48 l1 x5_1).f3)).bind fun t766 => (spec_validRanges.j1 k1 l1 x5_1 (!t766) l0_0)) else (spec_validRanges.j1 k1 l1 x5_1 true l0_0))) else (spec_validRanges.j1 k1 l1 x5_1 true l0_0))) else (spec_validRanges.j1 k1 l1 x5_1 true l0_0)) = some r := H
      have A10 := am A100
      clear A100
      by_cases c11 : t763 = true
      ·subst c11
       have H1 : ((spec_inRange.f ((rd_T48 l1 x5_1).f1) ((rd_T48 l1 x5_1).f0) 24).bind fun t764 => (if t764 = true then ((spec_inRange.f ((rd_T48 l1 x5_1).f2) 0 23).bind fun t765 => (if t765 = true then ((spec_hasClass.f l0_0 ((rd_T48 l1 x5_1).f3)).bind fun t766 => (spec_validRanges.j1 k1 l1 x5_1 (!t766) l0_0)) else (spec_validRanges.j1 k1 l1 x5_1 true l0_0))) else (spec_validRanges.j1 k1 l1 x5_1 true l0_0))) = some r := by rw [if_pos rfl] at H; exact H
       clear H
       have H := H1
       clear H1
       replace H := Option.bind_eq_some_iff.mp H
       obtain ⟨t764, A120, H⟩ := H
       replace H : (if t764 = true then ((spec_inRange.f ((rd_T48 l1 x5_1).f2) 0 23).bind fun t765 => (if t765 = true then ((spec_hasClass.f l0_0 ((rd_T48 l1 x5_1).f3)).bind fun t766 => (spec_validRanges.j1 k1 l1 x5_1 (!t766) l0_0)) else (spec_validRanges.j1 k1 l1 x5_1 true l0_0))) else (spec_validRanges.j1 k1 l1 x5_1 true l0_0)) = some r := H
       have A12 := am A120
       clear A120
       by_cases c13 : t764 = true
       ·subst c13
        have H1 : ((spec_inRange.f ((rd_T48 l1 x5_1).f2) 0 23).bind fun t765 => (if t765 = true then ((spec_hasClass.f l0_0 ((rd_T48 l1 x5_1).f3)).bind fun t766 => (spec_validRanges.j1 k1 l1 x5_1 (!t766) l0_0)) else (spec_validRanges.j1 k1 l1 x5_1 true l0_0))) = some r := by rw [if_pos rfl] at H; exact H
        clear H
        have H := H1
        clear H1
        replace H := Option.bind_eq_some_iff.mp H
        obtain ⟨t765, A140, H⟩ := H
        replace H : (if t765 = true then ((spec_hasClass.f l0_0 ((rd_T48 l1 x5_1).f3)).bind fun t766 => (spec_validRanges.j1 k1 l1 x5_1 (!t766) l0_0)) else (spec_validRanges.j1 k1 l1 x5_1 true l0_0)) = some r := H
        have A14 := am A140
        clear A140
        by_cases c15 : t765 = true
        ·subst c15
         have H1 : ((spec_hasClass.f l0_0 ((rd_T48 l1 x5_1).f3)).bind fun t766 => (spec_validRanges.j1 k1 l1 x5_1 (!t766) l0_0)) = some r := by rw [if_pos rfl] at H; exact H
         clear H
         have H := H1
         clear H1
         replace H := Option.bind_eq_some_iff.mp H
         obtain ⟨t766, A160, H⟩ := H
         replace H : (spec_validRanges.j1 k1 l1 x5_1 (!t766) l0_0) = some r := H
         have A16 := am A160
         clear A160
         have H' := am H
         clear H
         have hnb17 := NB762_759.out
         have hnc17 := NB759_762.out
         have hcz18_0 := bc0 BK762.out
         have hcz18_1 := bc1 BK762.out
         have hcz18_2 := bc2 BK762.out
         have hcz18_3 := bc3 BK762.out
         have hfz18_0 := blk_frozen BK762.out 0
         have hfz18_1 := blk_frozen BK762.out 1
         have hfz18_2 := blk_frozen BK762.out 2
         have hfz18_3 := blk_frozen BK762.out 3
         go_wp2_with (first | ((with_reducible refine gate_callee (f := 60) rfl ?_); refine gL (some 19) Try.func60 #[.int .i64 ((rd_T48 l1 x5_1).f0), .int .i64 0, .int .i64 24] ?_; (with_reducible refine (spec_inRange.calls ((rd_T48 l1 x5_1).f0) 0 24 true _ A10.out).mono ?_); rintro e w' ⟨rfl, ⟨nd, rfl⟩⟩; refine ⟨_, rfl, ?_⟩) | (go_at_call 60; (with_reducible refine (spec_inRange.calls ((rd_T48 l1 x5_1).f1) ((rd_T48 l1 x5_1).f0) 24 true _ A12.out).mono ?_); rintro e w' ⟨rfl, ⟨nd, rfl⟩⟩) | (go_at_call 60; (with_reducible refine (spec_inRange.calls ((rd_T48 l1 x5_1).f2) 0 23 true _ A14.out).mono ?_); rintro e w' ⟨rfl, ⟨nd, rfl⟩⟩; have hcz19_0 := bc0 BK759.out; have hfz19_0 := blk_frozen BK759.out 0) | (go_at_call 59; (with_reducible refine (spec_hasClass.calls _ _ l0_0 ((rd_T48 l1 x5_1).f3) t766 _ ?side1 ?side2 A16.out).mono ?_); (case side1 => exact Kd.C_below HR0_0.out (Y60)); (case side2 => exact HC0_0.out); rintro e w20 ⟨rfl, hb⟩; replace BK759 := am (blk_below (g := gb759) (o := .cells #[.slice A0_0 l0_0.length c0_0] 32 (0, 0)) (by (with_reducible repeat (first | refine blk_drewN ?_ _ | refine blk_drew ?_ | refine blk_alloc ?_ _)); refine blk_far ?_ NB759_762.out _; (with_reducible repeat (first | refine blk_drewN ?_ _ | refine blk_drew ?_ | refine blk_alloc ?_ _)); refine blk_far ?_ NB759_762.out _; (with_reducible repeat (first | refine blk_drewN ?_ _ | refine blk_drew ?_ | refine blk_alloc ?_ _)); refine blk_far ?_ NB759_762.out _; (with_reducible repeat (first | refine blk_drewN ?_ _ | refine blk_drew ?_ | refine blk_alloc ?_ _)); refine blk_far ?_ NB759_762.out _; (with_reducible repeat (first | refine blk_drewN ?_ _ | refine blk_drew ?_ | refine blk_alloc ?_ _)); exact BK759.out) hb); replace BK762 := am (blk_below (g := gb762) (o := .cells #[.int .i64 ((rd_T48 l1 x5_1).f0), .int .i64 ((rd_T48 l1 x5_1).f1), .int .i64 ((rd_T48 l1 x5_1).f2), .int .i64 ((rd_T48 l1 x5_1).f3)] 48 (0, 0)) (by (with_reducible repeat (first | refine blk_drewN ?_ _ | refine blk_drew ?_ | refine blk_alloc ?_ _)); refine blk_put (cs := #[.int .i64 ((rd_T48 l1 x5_1).f0), .int .i64 ((rd_T48 l1 x5_1).f1), .int .i64 ((rd_T48 l1 x5_1).f2), .int .i64 0]) ?_ 3 _ rfl; (with_reducible repeat (first | refine blk_drewN ?_ _ | refine blk_drew ?_ | refine blk_alloc ?_ _)); refine blk_put (cs := #[.int .i64 ((rd_T48 l1 x5_1).f0), .int .i64 ((rd_T48 l1 x5_1).f1), .int .i64 0, .int .i64 0]) ?_ 2 _ rfl; (with_reducible repeat (first | refine blk_drewN ?_ _ | refine blk_drew ?_ | refine blk_alloc ?_ _)); refine blk_put (cs := #[.int .i64 ((rd_T48 l1 x5_1).f0), .int .i64 0, .int .i64 0, .int .i64 0]) ?_ 1 _ rfl; (with_reducible repeat (first | refine blk_drewN ?_ _ | refine blk_drew ?_ | refine blk_alloc ?_ _)); refine blk_put (cs := #[.int .i64 0, .int .i64 0, .int .i64 0, .int .i64 0]) ?_ 0 _ rfl; (with_reducible repeat (first | refine blk_drewN ?_ _ | refine blk_drew ?_ | refine blk_alloc ?_ _)); exact BK762.out) hb); replace HB := am (below_step (Y60) hb); (try clear hb); (try clear hb2); (try clear hk); (try clear hi)))
         go_meet
         case rel => exact ⟨_, (!t766), (sq), H', ⟨by have := HK1.out; first | omega | exact Nat.le_refl _⟩, ⟨kq BK759.out⟩, ⟨kq BK762.out⟩, ⟨Y60⟩⟩
        ·replace c15 := Bool.eq_false_iff.mpr c15
         subst c15
         have H1 : (spec_validRanges.j1 k1 l1 x5_1 true l0_0) = some r := by rw [if_neg (show ¬ (false = true) by decide)] at H; exact H
         clear H
         have H := H1
         clear H1
         have H' := am H
         clear H
         have hnb21 := NB762_759.out
         have hnc21 := NB759_762.out
         have hcz22_0 := bc0 BK762.out
         have hcz22_1 := bc1 BK762.out
         have hcz22_2 := bc2 BK762.out
         have hcz22_3 := bc3 BK762.out
         have hfz22_0 := blk_frozen BK762.out 0
         have hfz22_1 := blk_frozen BK762.out 1
         have hfz22_2 := blk_frozen BK762.out 2
         have hfz22_3 := blk_frozen BK762.out 3
         go_wp2_with (first | ((with_reducible refine gate_callee (f := 60) rfl ?_); refine gL (some 19) Try.func60 #[.int .i64 ((rd_T48 l1 x5_1).f0), .int .i64 0, .int .i64 24] ?_; (with_reducible refine (spec_inRange.calls ((rd_T48 l1 x5_1).f0) 0 24 true _ A10.out).mono ?_); rintro e w' ⟨rfl, ⟨nd, rfl⟩⟩; refine ⟨_, rfl, ?_⟩) | (go_at_call 60; (with_reducible refine (spec_inRange.calls ((rd_T48 l1 x5_1).f1) ((rd_T48 l1 x5_1).f0) 24 true _ A12.out).mono ?_); rintro e w' ⟨rfl, ⟨nd, rfl⟩⟩) | (go_at_call 60; (with_reducible refine (spec_inRange.calls ((rd_T48 l1 x5_1).f2) 0 23 false _ A14.out).mono ?_); rintro e w' ⟨rfl, ⟨nd, rfl⟩⟩))
         go_meet
         case rel => exact ⟨_, (true), (sq), H', ⟨by have := HK1.out; first | omega | exact Nat.le_refl _⟩, ⟨by (with_reducible repeat (first | refine blk_drewN ?_ _ | refine blk_drew ?_ | refine blk_alloc ?_ _)); refine blk_far ?_ NB759_762.out _; (with_reducible repeat (first | refine blk_drewN ?_ _ | refine blk_drew ?_ | refine blk_alloc ?_ _)); refine blk_far ?_ NB759_762.out _; (with_reducible repeat (first | refine blk_drewN ?_ _ | refine blk_drew ?_ | refine blk_alloc ?_ _)); refine blk_far ?_ NB759_762.out _; (with_reducible repeat (first | refine blk_drewN ?_ _ | refine blk_drew ?_ | refine blk_alloc ?_ _)); refine blk_far ?_ NB759_762.out _; (with_reducible repeat (first | refine blk_drewN ?_ _ | refine blk_drew ?_ | refine blk_alloc ?_ _)); exact BK759.out⟩, ⟨by (with_reducible repeat (first | refine blk_drewN ?_ _ | refine blk_drew ?_ | refine blk_alloc ?_ _)); refine blk_put (cs := #[.int .i64 ((rd_T48 l1 x5_1).f0), .int .i64 ((rd_T48 l1 x5_1).f1), .int .i64 ((rd_T48 l1 x5_1).f2), .int .i64 0]) ?_ 3 _ rfl; (with_reducible repeat (first | refine blk_drewN ?_ _ | refine blk_drew ?_ | refine blk_alloc ?_ _)); refine blk_put (cs := #[.int .i64 ((rd_T48 l1 x5_1).f0), .int .i64 ((rd_T48 l1 x5_1).f1), .int .i64 0, .int .i64 0]) ?_ 2 _ rfl; (with_reducible repeat (first | refine blk_drewN ?_ _ | refine blk_drew ?_ | refine blk_alloc ?_ _)); refine blk_put (cs := #[.int .i64 ((rd_T48 l1 x5_1).f0), .int .i64 0, .int .i64 0, .int .i64 0]) ?_ 1 _ rfl; (with_reducible repeat (first | refine blk_drewN ?_ _ | refine blk_drew ?_ | refine blk_alloc ?_ _)); refine blk_put (cs := #[.int .i64 0, .int .i64 0, .int .i64 0, .int .i64 0]) ?_ 0 _ rfl; (with_reducible repeat (first | refine blk_drewN ?_ _ | refine blk_drew ?_ | refine blk_alloc ?_ _)); exact BK762.out⟩, ⟨Y60⟩⟩
       ·replace c13 := Bool.eq_false_iff.mpr c13
        subst c13
        have H1 : (spec_validRanges.j1 k1 l1 x5_1 true l0_0) = some r := by rw [if_neg (show ¬ (false = true) by decide)] at H; exact H
        clear H
        have H := H1
        clear H1
        have H' := am H
        clear H
        have hnb23 := NB762_759.out
        have hnc23 := NB759_762.out
        have hcz24_0 := bc0 BK762.out
        have hcz24_1 := bc1 BK762.out
        have hcz24_2 := bc2 BK762.out
        have hcz24_3 := bc3 BK762.out
        have hfz24_0 := blk_frozen BK762.out 0
        have hfz24_1 := blk_frozen BK762.out 1
        have hfz24_2 := blk_frozen BK762.out 2
        have hfz24_3 := blk_frozen BK762.out 3
        go_wp2_with (first | ((with_reducible refine gate_callee (f := 60) rfl ?_); refine gL (some 19) Try.func60 #[.int .i64 ((rd_T48 l1 x5_1).f0), .int .i64 0, .int .i64 24] ?_; (with_reducible refine (spec_inRange.calls ((rd_T48 l1 x5_1).f0) 0 24 true _ A10.out).mono ?_); rintro e w' ⟨rfl, ⟨nd, rfl⟩⟩; refine ⟨_, rfl, ?_⟩) | (go_at_call 60; (with_reducible refine (spec_inRange.calls ((rd_T48 l1 x5_1).f1) ((rd_T48 l1 x5_1).f0) 24 false _ A12.out).mono ?_); rintro e w' ⟨rfl, ⟨nd, rfl⟩⟩))
        go_meet
        case rel => exact ⟨_, (true), (sq), H', ⟨by have := HK1.out; first | omega | exact Nat.le_refl _⟩, ⟨by (with_reducible repeat (first | refine blk_drewN ?_ _ | refine blk_drew ?_ | refine blk_alloc ?_ _)); refine blk_far ?_ NB759_762.out _; (with_reducible repeat (first | refine blk_drewN ?_ _ | refine blk_drew ?_ | refine blk_alloc ?_ _)); refine blk_far ?_ NB759_762.out _; (with_reducible repeat (first | refine blk_drewN ?_ _ | refine blk_drew ?_ | refine blk_alloc ?_ _)); refine blk_far ?_ NB759_762.out _; (with_reducible repeat (first | refine blk_drewN ?_ _ | refine blk_drew ?_ | refine blk_alloc ?_ _)); refine blk_far ?_ NB759_762.out _; (with_reducible repeat (first | refine blk_drewN ?_ _ | refine blk_drew ?_ | refine blk_alloc ?_ _)); exact BK759.out⟩, ⟨by (with_reducible repeat (first | refine blk_drewN ?_ _ | refine blk_drew ?_ | refine blk_alloc ?_ _)); refine blk_put (cs := #[.int .i64 ((rd_T48 l1 x5_1).f0), .int .i64 ((rd_T48 l1 x5_1).f1), .int .i64 ((rd_T48 l1 x5_1).f2), .int .i64 0]) ?_ 3 _ rfl; (with_reducible repeat (first | refine blk_drewN ?_ _ | refine blk_drew ?_ | refine blk_alloc ?_ _)); refine blk_put (cs := #[.int .i64 ((rd_T48 l1 x5_1).f0), .int .i64 ((rd_T48 l1 x5_1).f1), .int .i64 0, .int .i64 0]) ?_ 2 _ rfl; (with_reducible repeat (first | refine blk_drewN ?_ _ | refine blk_drew ?_ | refine blk_alloc ?_ _)); refine blk_put (cs := #[.int .i64 ((rd_T48 l1 x5_1).f0), .int .i64 0, .int .i64 0, .int .i64 0]) ?_ 1 _ rfl; (with_reducible repeat (first | refine blk_drewN ?_ _ | refine blk_drew ?_ | refine blk_alloc ?_ _)); refine blk_put (cs := #[.int .i64 0, .int .i64 0, .int .i64 0, .int .i64 0]) ?_ 0 _ rfl; (with_reducible repeat (first | refine blk_drewN ?_ _ | refine blk_drew ?_ | refine blk_alloc ?_ _)); exact BK762.out⟩, ⟨Y60⟩⟩
      ·replace c11 := Bool.eq_false_iff.mpr c11
       subst c11
       have H1 : (spec_validRanges.j1 k1 l1 x5_1 true l0_0) = some r := by rw [if_neg (show ¬ (false = true) by decide)] at H; exact H
       clear H
       have H := H1
       clear H1
       have H' := am H
       clear H
       have hnb25 := NB762_759.out
       have hnc25 := NB759_762.out
       have hcz26_0 := bc0 BK762.out
       have hcz26_1 := bc1 BK762.out
       have hcz26_2 := bc2 BK762.out
       have hcz26_3 := bc3 BK762.out
       have hfz26_0 := blk_frozen BK762.out 0
       have hfz26_1 := blk_frozen BK762.out 1
       have hfz26_2 := blk_frozen BK762.out 2
       have hfz26_3 := blk_frozen BK762.out 3
       go_wp2_with (first | ((with_reducible refine gate_callee (f := 60) rfl ?_); refine gL (some 19) Try.func60 #[.int .i64 ((rd_T48 l1 x5_1).f0), .int .i64 0, .int .i64 24] ?_; (with_reducible refine (spec_inRange.calls ((rd_T48 l1 x5_1).f0) 0 24 false _ A10.out).mono ?_); rintro e w' ⟨rfl, ⟨nd, rfl⟩⟩; refine ⟨_, rfl, ?_⟩))
       go_meet
       case rel => exact ⟨_, (true), (sq), H', ⟨by have := HK1.out; first | omega | exact Nat.le_refl _⟩, ⟨by (with_reducible repeat (first | refine blk_drewN ?_ _ | refine blk_drew ?_ | refine blk_alloc ?_ _)); refine blk_far ?_ NB759_762.out _; (with_reducible repeat (first | refine blk_drewN ?_ _ | refine blk_drew ?_ | refine blk_alloc ?_ _)); refine blk_far ?_ NB759_762.out _; (with_reducible repeat (first | refine blk_drewN ?_ _ | refine blk_drew ?_ | refine blk_alloc ?_ _)); refine blk_far ?_ NB759_762.out _; (with_reducible repeat (first | refine blk_drewN ?_ _ | refine blk_drew ?_ | refine blk_alloc ?_ _)); refine blk_far ?_ NB759_762.out _; (with_reducible repeat (first | refine blk_drewN ?_ _ | refine blk_drew ?_ | refine blk_alloc ?_ _)); exact BK759.out⟩, ⟨by (with_reducible repeat (first | refine blk_drewN ?_ _ | refine blk_drew ?_ | refine blk_alloc ?_ _)); refine blk_put (cs := #[.int .i64 ((rd_T48 l1 x5_1).f0), .int .i64 ((rd_T48 l1 x5_1).f1), .int .i64 ((rd_T48 l1 x5_1).f2), .int .i64 0]) ?_ 3 _ rfl; (with_reducible repeat (first | refine blk_drewN ?_ _ | refine blk_drew ?_ | refine blk_alloc ?_ _)); refine blk_put (cs := #[.int .i64 ((rd_T48 l1 x5_1).f0), .int .i64 ((rd_T48 l1 x5_1).f1), .int .i64 0, .int .i64 0]) ?_ 2 _ rfl; (with_reducible repeat (first | refine blk_drewN ?_ _ | refine blk_drew ?_ | refine blk_alloc ?_ _)); refine blk_put (cs := #[.int .i64 ((rd_T48 l1 x5_1).f0), .int .i64 0, .int .i64 0, .int .i64 0]) ?_ 1 _ rfl; (with_reducible repeat (first | refine blk_drewN ?_ _ | refine blk_drew ?_ | refine blk_alloc ?_ _)); refine blk_put (cs := #[.int .i64 0, .int .i64 0, .int .i64 0, .int .i64 0]) ?_ 0 _ rfl; (with_reducible repeat (first | refine blk_drewN ?_ _ | refine blk_drew ?_ | refine blk_alloc ?_ _)); exact BK762.out⟩, ⟨Y60⟩⟩
     case rest =>
      clear HC6
      try clear c1
      try clear c2
      try clear p2
      try clear c4
      try clear c4b0
      try clear c5
      try clear c5b0
      try clear c6
      try clear p7
      try clear q7
      try clear hx7
      try clear c8
      try clear c11
      try clear c13
      try clear c15
      try clear c17
      try clear c21
      try clear c23
      try clear c25
      try clear hcz18_0
      try clear hcz18_1
      try clear hcz18_2
      try clear hcz18_3
      try clear hcz19_0
      try clear hcz22_0
      try clear hcz22_1
      try clear hcz22_2
      try clear hcz22_3
      try clear hcz24_0
      try clear hcz24_1
      try clear hcz24_2
      try clear hcz24_3
      try clear hcz26_0
      try clear hcz26_1
      try clear hcz26_2
      try clear hcz26_3
      try clear hcz9_0
      try clear hcz9_1
      try clear hcz9_2
      try clear hcz9_3
      try clear hfz18_0
      try clear hfz18_1
      try clear hfz18_2
      try clear hfz18_3
      try clear hfz19_0
      try clear hfz22_0
      try clear hfz22_1
      try clear hfz22_2
      try clear hfz22_3
      try clear hfz24_0
      try clear hfz24_1
      try clear hfz24_2
      try clear hfz24_3
      try clear hfz26_0
      try clear hfz26_1
      try clear hfz26_2
      try clear hfz26_3
      try clear hfz9_0
      try clear hfz9_1
      try clear hfz9_2
      try clear hfz9_3
      try clear hx761_0
      try clear hx761_1
      try clear hx761_2
      try clear hx761_3
      try clear p2
      try clear p761
      try clear q761
      obtain ⟨kq, x41_5, rfl, HA, HJ5, BK759, BK762, HB⟩ := hcut
      cases kq with
      | zero => exact absurd HA.out (by simp [spec_validRanges.j1])
      | succ kj5 =>
       have H := HA.out
       clear HA
       simp only [spec_validRanges.j1] at H
       by_cases c27 : x41_5 = true
       ·subst c27
        have H1 : (some false) = some r := by rw [if_pos rfl] at H; exact H
        clear H
        have H := H1
        clear H1
        obtain rfl := Option.some.inj H
        go_wp2
        go_ret
        exact ⟨Y0, Y60⟩
       ·replace c27 := Bool.eq_false_iff.mpr c27
        subst c27
        have H1 : (spec_validRanges.l0 kj5 l1 (wrap64 (x5_1 + 1)) l0_0) = some r := by rw [if_neg (show ¬ (false = true) by decide)] at H; exact H
        clear H
        have H := H1
        clear H1
        have H' := am H
        clear H
        go_wp2
        go_roundg kj5
        case measure => have := HK1.out; have := HJ5.out; omega
        case rel => exact ⟨(wrap64 (x5_1 + 1)), (sq), H', ⟨by have := HK1.out; have := HJ5.out; omega⟩, ⟨kq BK759.out⟩, ⟨Y60⟩⟩
    ·rw [if_neg c5] at H
     exact absurd H (by simp)
   ·rw [if_neg c4] at H
    have c4b0 : decide (x5_1 < (l1.length : Int)) = false := decide_eq_false c4
    clear c4
    replace H := Option.bind_eq_some_iff.mp H
    obtain ⟨t760, A280, H⟩ := H
    replace H : (if t760 = true then (some (decide ((l1.length : Int) ≤ 24))) else (some false)) = some r := H
    have A28 := am A280
    clear A280
    by_cases c29 : t760 = true
    ·subst c29
     have H1 : (some (decide ((l1.length : Int) ≤ 24))) = some r := by rw [if_pos rfl] at H; exact H
     clear H
     have H := H1
     clear H1
     obtain rfl := Option.some.inj H
     have hcz30_0 := bc0 BK759.out
     have hfz30_0 := blk_frozen BK759.out 0
     go_wp2_with (first | ((with_reducible refine gate_callee (f := 64) rfl ?_); refine gL (some 43) Try.func64 #[.agg #[.slice A0_0 l0_0.length c0_0]] ?_; (with_reducible refine (spec_validTree.calls k1 _ _ l0_0 true _ ?side1 ?side2 A28.out).mono ?_); (case side1 => exact cq (Kd.C_below HR0_0.out HB.out)); (case side2 => exact HC0_0.out); rintro e w31 ⟨rfl, hb⟩; refine ⟨_, rfl, ?_⟩; replace BK759 := am (blk_below (g := gb759) (o := .cells #[.slice A0_0 l0_0.length c0_0] 32 (0, 0)) (kq BK759.out) hb); replace HB := am (below_step (Y76) hb); (try clear hb); (try clear hb2); (try clear hk); (try clear hi)))
     go_ret
     exact ⟨Y0, Y76⟩
    ·replace c29 := Bool.eq_false_iff.mpr c29
     subst c29
     have H1 : (some false) = some r := by rw [if_neg (show ¬ (false = true) by decide)] at H; exact H
     clear H
     have H := H1
     clear H1
     obtain rfl := Option.some.inj H
     have hcz32_0 := bc0 BK759.out
     have hfz32_0 := blk_frozen BK759.out 0
     go_wp2_with (first | ((with_reducible refine gate_callee (f := 64) rfl ?_); refine gL (some 43) Try.func64 #[.agg #[.slice A0_0 l0_0.length c0_0]] ?_; (with_reducible refine (spec_validTree.calls k1 _ _ l0_0 false _ ?side1 ?side2 A28.out).mono ?_); (case side1 => exact cq (Kd.C_below HR0_0.out HB.out)); (case side2 => exact HC0_0.out); rintro e w33 ⟨rfl, hb⟩; refine ⟨_, rfl, ?_⟩; replace BK759 := am (blk_below (g := gb759) (o := .cells #[.slice A0_0 l0_0.length c0_0] 32 (0, 0)) (kq BK759.out) hb); replace HB := am (below_step (Y76) hb); (try clear hb); (try clear hb2); (try clear hk); (try clear hi)))
     go_ret
     exact ⟨Y0, Y76⟩
def spec_hasInt.l0 : Nat → List Int → Int → Int → Option (Bool)
 | 0, _, _, _ => none
 | k + 1, x0, x1, x5 => if x5 < (x0.length : Int) then (if 0 ≤ x5 then (if (rd x0 x5) = x1 then (some true) else (spec_hasInt.l0 k x0 x1 (wrap64 (x5 + 1)))) else (none)) else (some false)
def spec_hasInt.f (k : Nat) (l0 : List Int) (a1 : Int) : Option (Bool) := spec_hasInt.l0 k l0 a1 0
set_option maxHeartbeats 8000000 in
set_option maxRecDepth 100000 in
theorem spec_hasInt.calls (k : Nat) (A0 : Option Addr) (c0 : Nat) (l0 : List Int) (a1 : Int) (r : Bool) (w : World) (hr0 : Kd.C (Kd.int .i64) w A0 l0.length l0) (hc0 : l0.length ≤ c0) (h : spec_hasInt.f k l0 a1 = some r) :
  Calls Try.prog 84 #[.slice A0 l0.length c0, .int .i64 a1] w fun e w' => e = .returned (.bool r) ∧ Drawn0 w w' := by
 have HR0 := am hr0
 have HC0 := am hc0
 clear hr0 hc0
 have H : (spec_hasInt.l0 k l0 a1 0) = some r := h
 clear h
 have H' := am H
 clear H
 go_enter Try.func84, Try.ntmps84
 go_wp2
 go_loopg [5] k (fun kq v5 w' => ∃ (x5_1 : Int), v5 = .int .i64 x5_1 ∧ Aside0 (spec_hasInt.l0 kq l0 a1 x5_1 = some r) ∧ Aside0 (kq ≤ k) ∧ Drawn0 w w')
 case atStart => exact ⟨(0), (sq), H', ⟨Nat.le_refl _⟩, Y8⟩
 case round =>
  clear H'
  try clear p2
  obtain ⟨x5_1, rfl, HA, HK1, ⟨m1, rfl⟩⟩ := hrel
  cases gk with
  | zero => exact absurd HA.out (by simp [spec_hasInt.l0])
  | succ k1 =>
   have H := HA.out
   clear HA
   simp only [spec_hasInt.l0] at H
   by_cases c3 : x5_1 < (l0.length : Int)
   ·rw [if_pos c3] at H
    have c3b0 : decide (x5_1 < (l0.length : Int)) = true := decide_eq_true c3
    clear c3
    by_cases c4 : 0 ≤ x5_1
    ·rw [if_pos c4] at H
     have c4b0 : decide (0 ≤ x5_1) = true := decide_eq_true c4
     clear c4
     by_cases c5 : (rd l0 x5_1) = a1
     ·rw [if_pos c5] at H
      have c5b0 : ((rd l0 x5_1) == a1) = true := beq_iff_eq.mpr c5
      have c5b1 : ((rd l0 x5_1) != a1) = false := bne_eq_false_iff_eq.mpr c5
      clear c5
      obtain rfl := Option.some.inj H
      have p767 : 0 ≤ (x5_1 : Int) := of_decide_eq_true (uq)
      have q767 : x5_1 < (l0.length : Int) := of_decide_eq_true (uq)
      obtain ⟨ad767, e767, hx767_0⟩ := Kd.at_int HR0.out x5_1 p767 q767
      cases e767
      replace p767 := eq_true p767
      replace q767 := eq_true q767
      go_wp2
      go_ret
      exact ⟨sq, Y8⟩
     ·rw [if_neg c5] at H
      have c5b0 : ((rd l0 x5_1) == a1) = false := beq_eq_false_iff_ne.mpr c5
      have c5b1 : ((rd l0 x5_1) != a1) = true := bne_iff_ne.mpr c5
      have H' := am H
      clear H
      have p767 : 0 ≤ (x5_1 : Int) := of_decide_eq_true (uq)
      have q767 : x5_1 < (l0.length : Int) := of_decide_eq_true (uq)
      obtain ⟨ad767, e767, hx767_0⟩ := Kd.at_int HR0.out x5_1 p767 q767
      cases e767
      replace p767 := eq_true p767
      replace q767 := eq_true q767
      go_wp2
      go_roundg k1
      case measure => have := HK1.out; omega
      case rel => exact ⟨(wrap64 (x5_1 + 1)), (sq), H', ⟨by have := HK1.out; omega⟩, Y8⟩
    ·rw [if_neg c4] at H
     exact absurd H (by simp)
   ·rw [if_neg c3] at H
    have c3b0 : decide (x5_1 < (l0.length : Int)) = false := decide_eq_false c3
    clear c3
    obtain rfl := Option.some.inj H
    go_wp2
    go_ret
    exact ⟨sq, Y8⟩
def spec_above.l0 : Nat → Int → List Int → List (S98) → Option (List Int)
 | 0, _, _, _ => none
 | k + 1, x1, x5, x769000 => if x1 ≥ 0 then (if x5.length < 17592186044416 then (if 0 ≤ x1 then (if x1 < (x769000.length : Int) then (spec_above.l0 k ((rd_T98 x769000 x1).f1) (x5 ++ [x1]) x769000) else (none)) else (none)) else (none)) else (some x5)
def spec_above.f (k : Nat) (l0_0 : List (S98)) (a1 : Int) : Option (List Int) := spec_above.l0 k a1 (([] : List Int)) l0_0
set_option maxHeartbeats 8000000 in
set_option maxRecDepth 100000 in
theorem spec_above.calls (k : Nat) (A0_0 : Option Addr) (c0_0 : Nat) (l0_0 : List (S98)) (a1 : Int) (r : List Int) (w : World) (hr0_0 : Kd.C k98 w A0_0 l0_0.length l0_0) (hc0_0 : l0_0.length ≤ c0_0) (h : spec_above.f k l0_0 a1 = some r) :
  Calls Try.prog 85 #[.agg #[.slice A0_0 l0_0.length c0_0], .int .i64 a1] w fun e w' => ∃ v0_ : Value, e = .returned (v0_) ∧ Kd.R (Kd.int .i64) 3 w' w.heap.size (fun _ => True) v0_ r ∧ Below w.heap.size w w' := by
 have hu32 := Try.underlying32
 have HR0_0 := am hr0_0
 have HC0_0 := am hc0_0
 clear hr0_0 hc0_0
 have HB := am (Below.refl w.heap.size w)
 have H : (spec_above.l0 k a1 (([] : List Int)) l0_0) = some r := h
 clear h
 obtain ⟨y769, hy769⟩ : ∃ y_ : List Int, y_ = (([] : List Int)) := ⟨_, rfl⟩
 replace H : (spec_above.l0 k a1 y769 l0_0) = some r := by first | (rw [hy769]; with_reducible exact H) | (have H2_ := (Option.bind_some _ _).symm.trans H; rw [hy769]; with_reducible exact H2_) | (have H2_ := (Option.bind_some _ _).symm.trans H; with_reducible exact H2_) | with_reducible exact H | (rw [hy769]; exact H) | exact H
 have Ny769 := am hy769
 clear hy769
 have H' := am H
 clear H
 go_enter Try.func85, Try.ntmps85
 go_wp2_with (first | ((with_reducible refine gate_dst (N := 2) rfl ?_); refine bE (N := 2) (cs := #[.slice A0_0 l0_0.length c0_0]) (t := 32) ?_; intro gb768 hg w3 hbox hb; have BK768 := am (hbox); have GW768 := am ((Y11 : w.heap.size ≤ gb768)); have GE768 := am ((Y11 : w.heap.size ≤ gb768)); replace HB := am (below_step (bq) hb); clear hb hbox hg) | ((with_reducible refine gate_dst (N := 6) rfl ?_); refine Kd.R_lit (Kd.int .i64) _ 3 ?hg (N := 6) ?hd (xs := ([] : List Int)) (inner := []) (ok := fun _ => True) (okp := fun _ => True) ?hr ?hp (fun _ hk => hk) trivial (Below.refl _ _) (Nat.le_refl _) (by simp) ?_; (case hd => rfl); (case hg => rfl); (case hr => exact Y5); (case hp => exact (Reps.none _ _)); intro v770 w4 ho5 hb hg_ hnew_; clear hg_ hnew_; (first | rw [← Ny769.out] at ho5 | (simp only [Int.reduceToNat] at ho5; rw [← Ny769.out] at ho5)); have HO771 := am (Kd.R_lower ho5 (below_size (Y65))); replace BK768 := am (blk_below (g := gb768) (o := .cells #[.slice A0_0 l0_0.length c0_0] 32 (0, 0)) (kq BK768.out) hb); replace HB := am (below_step (Y65) hb); clear hb ho5))
 go_loopg [1, 5] k (fun kq v1 v5 w' => ∃ (x1_1 : Int) (x5_1 : List Int), v1 = .int .i64 x1_1 ∧ Aside0 (spec_above.l0 kq x1_1 x5_1 l0_0 = some r) ∧ Aside0 (kq ≤ k) ∧ Aside0 (Kd.R (Kd.int .i64) 3 w' w.heap.size (fun _ => True) v5 x5_1) ∧ Aside0 (w'.heap[gb768]? = some (.cells #[(.slice A0_0 l0_0.length c0_0)] 32 (0, 0))) ∧ Aside0 (Below w.heap.size w w'))
 case atStart => exact ⟨(a1), (y769), (sq), H', ⟨Nat.le_refl _⟩, ⟨rq HO771.out⟩, ⟨kq BK768.out⟩, ⟨Y65⟩⟩
 case round =>
  clear H'
  try clear p2
  obtain ⟨x1_1, x5_1, rfl, HA, HK1, HO_5, BK768, HB⟩ := hrel
  cases gk with
  | zero => exact absurd HA.out (by simp [spec_above.l0])
  | succ k1 =>
   have H := HA.out
   clear HA
   simp only [spec_above.l0] at H
   by_cases c6 : x1_1 ≥ 0
   ·rw [if_pos c6] at H
    have c6b0 : decide (0 ≤ x1_1) = true := decide_eq_true c6
    clear c6
    by_cases c7 : x5_1.length < 17592186044416
    ·rw [if_pos c7] at H
     have LMc7 := am c7
     clear c7
     obtain ⟨y772, hy772⟩ : ∃ y_ : List Int, y_ = (x5_1 ++ [x1_1]) := ⟨_, rfl⟩
     replace H : (if 0 ≤ x1_1 then (if x1_1 < (l0_0.length : Int) then (spec_above.l0 k1 ((rd_T98 l0_0 x1_1).f1) y772 l0_0) else (none)) else (none)) = some r := by first | (rw [hy772]; with_reducible exact H) | (have H2_ := (Option.bind_some _ _).symm.trans H; rw [hy772]; with_reducible exact H2_) | (have H2_ := (Option.bind_some _ _).symm.trans H; with_reducible exact H2_) | with_reducible exact H | (rw [hy772]; exact H) | exact H
     have Ny772 := am hy772
     clear hy772
     by_cases c8 : 0 ≤ x1_1
     ·rw [if_pos c8] at H
      have c8b0 : decide (0 ≤ x1_1) = true := decide_eq_true c8
      clear c8
      by_cases c9 : x1_1 < (l0_0.length : Int)
      ·rw [if_pos c9] at H
       have c9b0 : decide (x1_1 < (l0_0.length : Int)) = true := decide_eq_true c9
       clear c9
       have H' := am H
       clear H
       go_wp2_with (first | ((with_reducible refine gate_builtin (b := .append) (xs := #[.tmp 15, .tmp 17]) rfl ?_); at_builtin; refine Kd.R_append (Kd.int .i64) (w0 := w) w.heap.size rfl (.tmp 15) (.tmp 17) 65 3 (.int .i64 0) 8 rfl Try.underlying65 info3 rfl (by decide) (by omega) u5 x5_1 x1_1 [.int .i64 x1_1] (fun _ => True) (fun _ => False) rfl rfl ?aP (fun _ hk => hk.elim) ?aF ?aO ?aB ?aS ?aL ?_; (case aP => exact rfl); (case aB => exact (Y65)); (case aF => exact (fun _ _ => trivial)); (case aO => exact (rq HO_5.out)); (case aS => exact (below_size (Y65))); (case aL => have := LMc7.out; omega); intro v773 w10 ho hb hg hat; rw [← Ny772.out] at ho; have n0_ := am (blk_grown (g := gb768) (o := .cells #[.slice A0_0 l0_0.length c0_0] 32 (0, 0)) (kq BK768.out) hg (Kd.R_ne HO_5.out BK768.out (by decide))); have n1_ := am (hb); have n2_ := am (ho); clear BK768 HB HO_5; have BK768 := n0_; have HB := n1_; have HO774 := n2_; clear n0_ n1_ n2_ ho hb hg hat; have hcz11_0 := bc0 BK768.out; have hfz11_0 := blk_frozen BK768.out 0; have p775 : 0 ≤ (x1_1 : Int) := of_decide_eq_true (uq); have q775 : x1_1 < (l0_0.length : Int) := of_decide_eq_true (uq); obtain ⟨ad775, e775, hx775_0, hx775_1⟩ := at_T98 HR0_0.out x1_1 p775 q775; cases e775; replace hx775_0 := cb HB.out hx775_0; replace hx775_1 := cb HB.out hx775_1; replace p775 := eq_true p775; replace q775 := eq_true q775))
       go_roundg k1
       case measure => have := HK1.out; omega
       case rel => exact ⟨((rd_T98 l0_0 x1_1).f1), (y772), (sq), H', ⟨by have := HK1.out; omega⟩, ⟨rq HO774.out⟩, ⟨kq BK768.out⟩, ⟨Y65⟩⟩
      ·rw [if_neg c9] at H
       exact absurd H (by simp)
     ·rw [if_neg c8] at H
      exact absurd H (by simp)
    ·rw [if_neg c7] at H
     exact absurd H (by simp)
   ·rw [if_neg c6] at H
    have c6b0 : decide (0 ≤ x1_1) = false := decide_eq_false c6
    clear c6
    obtain rfl := Option.some.inj H
    go_wp2
    go_ret
    exact ⟨_, Y0, rq HO_5.out, Y65⟩
def spec_isA.f (k : Nat) (l0_0 : List (S98)) (a1 : Int) (a2 : Int) : Option (Bool) := (spec_above.f k l0_0 a1).bind fun t777 => ((spec_hasInt.f k t777 a2).bind fun t780 => (some t780))
set_option maxHeartbeats 8000000 in
set_option maxRecDepth 100000 in
theorem spec_isA.calls (k : Nat) (A0_0 : Option Addr) (c0_0 : Nat) (l0_0 : List (S98)) (a1 : Int) (a2 : Int) (r : Bool) (w : World) (hr0_0 : Kd.C k98 w A0_0 l0_0.length l0_0) (hc0_0 : l0_0.length ≤ c0_0) (h : spec_isA.f k l0_0 a1 a2 = some r) :
  Calls Try.prog 61 #[.agg #[.slice A0_0 l0_0.length c0_0], .int .i64 a1, .int .i64 a2] w fun e w' => e = .returned (.bool r) ∧ Below w.heap.size w w' := by
 have hu32 := Try.underlying32
 have HR0_0 := am hr0_0
 have HC0_0 := am hc0_0
 clear hr0_0 hc0_0
 have HB := am (Below.refl w.heap.size w)
 have H : ((spec_above.f k l0_0 a1).bind fun t777 => ((spec_hasInt.f k t777 a2).bind fun t780 => (some t780))) = some r := h
 clear h
 replace H := Option.bind_eq_some_iff.mp H
 obtain ⟨t777, A40, H⟩ := H
 replace H : ((spec_hasInt.f k t777 a2).bind fun t780 => (some t780)) = some r := H
 have A4 := am A40
 clear A40
 replace H := Option.bind_eq_some_iff.mp H
 obtain ⟨t780, A50, H⟩ := H
 replace H : (some t780) = some r := H
 have A5 := am A50
 clear A50
 obtain rfl := Option.some.inj H
 go_enter Try.func61, Try.ntmps61
 go_wp2_with (first | ((with_reducible refine gate_dst (N := 3) rfl ?_); refine bE (N := 3) (cs := #[.slice A0_0 l0_0.length c0_0]) (t := 32) ?_; intro gb776 hg w6 hbox hb; have BK776 := am (hbox); have GW776 := am ((Y11 : w.heap.size ≤ gb776)); have GE776 := am ((Y11 : w.heap.size ≤ gb776)); replace HB := am (below_step (bq) hb); clear hb hbox hg; have hcz7_0 := bc0 BK776.out; have hfz7_0 := blk_frozen BK776.out 0) | ((with_reducible refine gate_callee (f := 85) rfl ?_); refine gL (some 9) Try.func85 #[.agg #[.slice A0_0 l0_0.length c0_0], .int .i64 a1] ?_; (with_reducible refine (spec_above.calls k _ _ l0_0 a1 t777 _ ?side1 ?side2 A4.out).mono ?_); (case side1 => exact cq (Kd.C_below HR0_0.out HB.out)); (case side2 => exact HC0_0.out); rintro e w8 ⟨v778, rfl, ho0, hb⟩; refine ⟨_, rfl, ?_⟩; have HO779 := am (Kd.R_lower ho0 (below_size (Y104))); replace BK776 := am (blk_below (g := gb776) (o := .cells #[.slice A0_0 l0_0.length c0_0] 32 (0, 0)) (kq BK776.out) hb); replace HB := am (below_step (Y104) hb); (try clear hb); (try clear hb2); (try clear hk); (try clear hi); (try clear ho0); obtain ⟨Ao9, co9, eo9⟩ := Kd.R_slice HO779.out; subst eo9) | ((with_reducible refine gate_callee (f := 84) rfl ?_); refine gL (some 11) Try.func84 #[.slice Ao9 t777.length co9, .int .i64 a2] ?_; (with_reducible refine (spec_hasInt.calls k _ _ t777 a2 t780 _ ?side1 ?side2 A5.out).mono ?_); (case side1 => exact cq (Kd.R_reads' HO779.out).2.2); (case side2 => exact (Kd.R_reads' HO779.out).2.1); rintro e w' ⟨rfl, ⟨nd, rfl⟩⟩; refine ⟨_, rfl, ?_⟩))
 go_ret
 exact ⟨Y0, Y104⟩
mutual
def spec_LookUp.j0 : Nat → List (S48) → Int → Int → Bool → List (S98) → Option (Int)
 | 0, _, _, _, _, _ => none
 | k + 1, x1, x2, x3, x19, x782000 => if x19 = true then (some (-1)) else (spec_LookUp.l0 k x1 x2 x3 0 x782000)
def spec_LookUp.l0 : Nat → List (S48) → Int → Int → Int → List (S98) → Option (Int)
 | 0, _, _, _, _, _ => none
 | k + 1, x1, x2, x3, x9, x782000 => if x9 < (x1.length : Int) then (if 0 ≤ x9 then ((spec_inRange.f x2 ((rd_T48 x1 x9).f0) (wrap64 (((rd_T48 x1 x9).f1) - 1))).bind fun t786 => (if t786 = true then ((spec_isA.f k x782000 x3 ((rd_T48 x1 x9).f3)).bind fun t788 => (if t788 = true then (some ((rd_T48 x1 x9).f2)) else (spec_LookUp.l0 k x1 x2 x3 (wrap64 (x9 + 1)) x782000))) else (spec_LookUp.l0 k x1 x2 x3 (wrap64 (x9 + 1)) x782000))) else (none)) else (some (-1))
end
def spec_LookUp.f (k : Nat) (l0_0 : List (S98)) (l1 : List (S48)) (a2 : Int) (a3 : Int) : Option (Int) := (spec_validRanges.f k l0_0 l1).bind fun t782 => (if t782 = true then ((spec_hasClass.f l0_0 a3).bind fun t783 => (spec_LookUp.j0 k l1 a2 a3 (!t783) l0_0)) else (spec_LookUp.j0 k l1 a2 a3 true l0_0))
def spec_LookUp.T6 : Bool × List (List Nat × List Nat) := (true, [([], []), ([], []), ([], []), ([1, 2], [1, 2]), ([3], [3]), ([4], [4]), ([], []), ([], []), ([6, 7], [6, 7]), ([8], [8]), ([9], [9]), ([10], [10]), ([0, 5, 11], [0, 5, 11]), ([12, 12], [12]), ([13], [13]), ([13], [13]), ([13], [13]), ([13], [13]), ([16, 17, 13], [13, 16, 17]), ([18, 13], [13, 18]), ([19, 13], [13, 19]), ([14, 15, 20, 13, 13], [13, 14, 15, 20]), ([13, 21], [13, 21])])
def spec_LookUp.B6 : List Nat := [0, 0, 0, 6, 14, 30, 0, 0, 192, 448, 960, 1984, 4095, 8191, 16383, 16383, 16383, 16383, 212991, 475135, 999423, 2097151, 4194303]
theorem spec_LookUp.tab6 : rtab .any (opsOf Try.f26 6) = spec_LookUp.T6 := by kernel_rfl
theorem spec_LookUp.bits6 : waitsOk spec_LookUp.T6.2 spec_LookUp.B6 = true := by kernel_rfl
set_option maxHeartbeats 8000000 in
set_option maxRecDepth 100000 in
theorem spec_LookUp.calls (k : Nat) (A0_0 : Option Addr) (c0_0 : Nat) (l0_0 : List (S98)) (A1 : Option Addr) (c1 : Nat) (l1 : List (S48)) (a2 : Int) (a3 : Int) (r : Int) (w : World) (hr0_0 : Kd.C k98 w A0_0 l0_0.length l0_0) (hc0_0 : l0_0.length ≤ c0_0) (hr1 : Kd.C k48 w A1 l1.length l1) (hc1 : l1.length ≤ c1) (h : spec_LookUp.f k l0_0 l1 a2 a3 = some r) :
  Calls Try.prog 26 #[.agg #[.slice A0_0 l0_0.length c0_0], .slice A1 l1.length c1, .int .i64 a2, .int .i64 a3] w fun e w' => e = .returned (.int .i64 r) ∧ Below w.heap.size w w' := by
 have hu32 := Try.underlying32
 have HR0_0 := am hr0_0
 have HC0_0 := am hc0_0
 clear hr0_0 hc0_0
 have HR1 := am hr1
 have HC1 := am hc1
 clear hr1 hc1
 have HB := am (Below.refl w.heap.size w)
 have H : ((spec_validRanges.f k l0_0 l1).bind fun t782 => (if t782 = true then ((spec_hasClass.f l0_0 a3).bind fun t783 => (spec_LookUp.j0 k l1 a2 a3 (!t783) l0_0)) else (spec_LookUp.j0 k l1 a2 a3 true l0_0))) = some r := h
 clear h
 have HC5 := am H
 clear H
 go_enter Try.func26, Try.ntmps26
 go_upto_region 1 with (first | ((with_reducible refine gate_dst (N := 4) rfl ?_); refine bE (N := 4) (cs := #[.slice A0_0 l0_0.length c0_0]) (t := 32) ?_; intro gb781 hg w6 hbox hb; have BK781 := am (hbox); have GW781 := am ((Y11 : w.heap.size ≤ gb781)); have GE781 := am ((Y11 : w.heap.size ≤ gb781)); replace HB := am (below_step (bq) hb); clear hb hbox hg))
 (try simp only [Act.put, List.setIfInBounds_toArray, List.set_cons_zero, List.set_cons_succ])
 go_cut [19] (fun v19 wc => ∃ (kq : Nat) (x19_4 : Bool), v19 = .bool x19_4 ∧ Aside0 (spec_LookUp.j0 kq l1 a2 a3 x19_4 l0_0 = some r) ∧ Aside0 (kq ≤ k) ∧ Aside0 (wc.heap[gb781]? = some (.cells #[(.slice A0_0 l0_0.length c0_0)] 32 (0, 0))) ∧ Aside0 (Below w.heap.size w wc))
 case first =>
  have H := HC5.out
  clear HC5
  replace H := Option.bind_eq_some_iff.mp H
  obtain ⟨t782, A70, H⟩ := H
  replace H : (if t782 = true then ((spec_hasClass.f l0_0 a3).bind fun t783 => (spec_LookUp.j0 k l1 a2 a3 (!t783) l0_0)) else (spec_LookUp.j0 k l1 a2 a3 true l0_0)) = some r := H
  have A7 := am A70
  clear A70
  by_cases c8 : t782 = true
  ·subst c8
   have H1 : ((spec_hasClass.f l0_0 a3).bind fun t783 => (spec_LookUp.j0 k l1 a2 a3 (!t783) l0_0)) = some r := by rw [if_pos rfl] at H; exact H
   clear H
   have H := H1
   clear H1
   replace H := Option.bind_eq_some_iff.mp H
   obtain ⟨t783, A90, H⟩ := H
   replace H : (spec_LookUp.j0 k l1 a2 a3 (!t783) l0_0) = some r := H
   have A9 := am A90
   clear A90
   have H' := am H
   clear H
   have hcz10_0 := bc0 BK781.out
   have hfz10_0 := blk_frozen BK781.out 0
   go_wp2_with (first | ((with_reducible refine gate_callee (f := 58) rfl ?_); refine gL (some 12) Try.func58 #[.agg #[.slice A0_0 l0_0.length c0_0], .slice A1 l1.length c1] ?_; (with_reducible refine (spec_validRanges.calls k _ _ l0_0 _ _ l1 true _ ?side1 ?side2 ?side3 ?side4 A7.out).mono ?_); (case side1 => exact cq (Kd.C_below HR0_0.out HB.out)); (case side2 => exact HC0_0.out); (case side3 => exact cq (Kd.C_below HR1.out HB.out)); (case side4 => exact HC1.out); rintro e w11 ⟨rfl, hb⟩; refine ⟨_, rfl, ?_⟩; replace BK781 := am (blk_below (g := gb781) (o := .cells #[.slice A0_0 l0_0.length c0_0] 32 (0, 0)) (kq BK781.out) hb); replace HB := am (below_step (Y34) hb); (try clear hb); (try clear hb2); (try clear hk); (try clear hi); have hcz12_0 := bc0 BK781.out; have hfz12_0 := blk_frozen BK781.out 0) | (go_at_call 59; (with_reducible refine (spec_hasClass.calls _ _ l0_0 a3 t783 _ ?side1 ?side2 A9.out).mono ?_); (case side1 => exact cq (Kd.C_below HR0_0.out HB.out)); (case side2 => exact HC0_0.out); rintro e w13 ⟨rfl, hb⟩; replace BK781 := am (blk_below (g := gb781) (o := .cells #[.slice A0_0 l0_0.length c0_0] 32 (0, 0)) (kq BK781.out) hb); replace HB := am (below_step (Y34) hb); (try clear hb); (try clear hb2); (try clear hk); (try clear hi)))
   go_meet
   case rel => exact ⟨_, (!t783), (sq), H', ⟨Y36⟩, ⟨kq BK781.out⟩, ⟨Y34⟩⟩
  ·replace c8 := Bool.eq_false_iff.mpr c8
   subst c8
   have H1 : (spec_LookUp.j0 k l1 a2 a3 true l0_0) = some r := by rw [if_neg (show ¬ (false = true) by decide)] at H; exact H
   clear H
   have H := H1
   clear H1
   have H' := am H
   clear H
   have hcz14_0 := bc0 BK781.out
   have hfz14_0 := blk_frozen BK781.out 0
   go_wp2_with (first | ((with_reducible refine gate_callee (f := 58) rfl ?_); refine gL (some 12) Try.func58 #[.agg #[.slice A0_0 l0_0.length c0_0], .slice A1 l1.length c1] ?_; (with_reducible refine (spec_validRanges.calls k _ _ l0_0 _ _ l1 false _ ?side1 ?side2 ?side3 ?side4 A7.out).mono ?_); (case side1 => exact cq (Kd.C_below HR0_0.out HB.out)); (case side2 => exact HC0_0.out); (case side3 => exact cq (Kd.C_below HR1.out HB.out)); (case side4 => exact HC1.out); rintro e w15 ⟨rfl, hb⟩; refine ⟨_, rfl, ?_⟩; replace BK781 := am (blk_below (g := gb781) (o := .cells #[.slice A0_0 l0_0.length c0_0] 32 (0, 0)) (kq BK781.out) hb); replace HB := am (below_step (Y34) hb); (try clear hb); (try clear hb2); (try clear hk); (try clear hi)))
   go_meet
   case rel => exact ⟨_, (true), (sq), H', ⟨Y36⟩, ⟨kq BK781.out⟩, ⟨Y34⟩⟩
 case rest =>
  clear HC5
  try clear c1
  try clear c2
  try clear p2
  try clear c5
  try clear c8
  try clear hcz10_0
  try clear hcz12_0
  try clear hcz14_0
  try clear hfz10_0
  try clear hfz12_0
  try clear hfz14_0
  obtain ⟨kq, x19_4, rfl, HA, HJ4, BK781, HB⟩ := hcut
  cases kq with
  | zero => exact absurd HA.out (by simp [spec_LookUp.j0])
  | succ kj4 =>
   have H := HA.out
   clear HA
   simp only [spec_LookUp.j0] at H
   by_cases c16 : x19_4 = true
   ·subst c16
    have H1 : (some (-1)) = some r := by rw [if_pos rfl] at H; exact H
    clear H
    have H := H1
    clear H1
    obtain rfl := Option.some.inj H
    go_wp2
    go_ret
    exact ⟨Y0, Y34⟩
   ·replace c16 := Bool.eq_false_iff.mpr c16
    subst c16
    have H1 : (spec_LookUp.l0 kj4 l1 a2 a3 0 l0_0) = some r := by rw [if_neg (show ¬ (false = true) by decide)] at H; exact H
    clear H
    have H := H1
    clear H1
    have H' := am H
    clear H
    go_wp2
    go_loopg [9] kj4 (fun kq v9 w' => ∃ (x9_2 : Int), v9 = .int .i64 x9_2 ∧ Aside0 (spec_LookUp.l0 kq l1 a2 a3 x9_2 l0_0 = some r) ∧ Aside0 (kq ≤ kj4) ∧ Aside0 (w'.heap[gb781]? = some (.cells #[(.slice A0_0 l0_0.length c0_0)] 32 (0, 0))) ∧ Aside0 (Below w.heap.size w w'))
    case atStart => exact ⟨(0), (sq), H', ⟨Nat.le_refl _⟩, ⟨kq BK781.out⟩, ⟨Y34⟩⟩
    case round =>
     clear H'
     try clear c1
     try clear c2
     try clear p2
     try clear c5
     try clear c8
     try clear c16
     try clear hcz10_0
     try clear hcz12_0
     try clear hcz14_0
     try clear hfz10_0
     try clear hfz12_0
     try clear hfz14_0
     try clear p2
     obtain ⟨x9_2, rfl, HA, HK2, BK781, HB⟩ := hrel
     cases gk with
     | zero => exact absurd HA.out (by simp [spec_LookUp.l0])
     | succ k2 =>
      have H := HA.out
      clear HA
      simp only [spec_LookUp.l0] at H
      by_cases c17 : x9_2 < (l1.length : Int)
      ·rw [if_pos c17] at H
       have c17b0 : decide (x9_2 < (l1.length : Int)) = true := decide_eq_true c17
       clear c17
       by_cases c18 : 0 ≤ x9_2
       ·rw [if_pos c18] at H
        have c18b0 : decide (0 ≤ x9_2) = true := decide_eq_true c18
        clear c18
        replace H := Option.bind_eq_some_iff.mp H
        obtain ⟨t786, A190, H⟩ := H
        replace H : (if t786 = true then ((spec_isA.f k2 l0_0 a3 ((rd_T48 l1 x9_2).f3)).bind fun t788 => (if t788 = true then (some ((rd_T48 l1 x9_2).f2)) else (spec_LookUp.l0 k2 l1 a2 a3 (wrap64 (x9_2 + 1)) l0_0))) else (spec_LookUp.l0 k2 l1 a2 a3 (wrap64 (x9_2 + 1)) l0_0)) = some r := H
        have A19 := am A190
        clear A190
        by_cases c20 : t786 = true
        ·subst c20
         have H1 : ((spec_isA.f k2 l0_0 a3 ((rd_T48 l1 x9_2).f3)).bind fun t788 => (if t788 = true then (some ((rd_T48 l1 x9_2).f2)) else (spec_LookUp.l0 k2 l1 a2 a3 (wrap64 (x9_2 + 1)) l0_0))) = some r := by rw [if_pos rfl] at H; exact H
         clear H
         have H := H1
         clear H1
         replace H := Option.bind_eq_some_iff.mp H
         obtain ⟨t788, A210, H⟩ := H
         replace H : (if t788 = true then (some ((rd_T48 l1 x9_2).f2)) else (spec_LookUp.l0 k2 l1 a2 a3 (wrap64 (x9_2 + 1)) l0_0)) = some r := H
         have A21 := am A210
         clear A210
         by_cases c22 : t788 = true
         ·subst c22
          have H1 : (some ((rd_T48 l1 x9_2).f2)) = some r := by rw [if_pos rfl] at H; exact H
          clear H
          have H := H1
          clear H1
          obtain rfl := Option.some.inj H
          try go_wp2
          replace BK781 := am (blk_drew BK781.out)
          replace HB := am (below_drew1 HB.out)
          have p784 : 0 ≤ (x9_2 : Int) := of_decide_eq_true (uq)
          have q784 : x9_2 < (l1.length : Int) := of_decide_eq_true (uq)
          obtain ⟨ad784, e784, hx784_0, hx784_1, hx784_2, hx784_3⟩ := at_T48 HR1.out x9_2 p784 q784
          have hw784_3 := hx784_3
          have hw784_2 := hx784_2
          have hw784_1 := hx784_1
          have hw784_0 := hx784_0
          cases e784
          replace hx784_0 := cb HB.out hx784_0
          replace hx784_1 := cb HB.out hx784_1
          replace hx784_2 := cb HB.out hx784_2
          replace hx784_3 := cb HB.out hx784_3
          replace p784 := eq_true p784
          replace q784 := eq_true q784
          have p785 : 0 ≤ (x9_2 : Int) := of_decide_eq_true (uq)
          have q785 : x9_2 < (l1.length : Int) := of_decide_eq_true (uq)
          obtain ⟨ad785, e785, hx785_0, hx785_1, hx785_2, hx785_3⟩ := at_T48 HR1.out x9_2 p785 q785
          have hw785_3 := hx785_3
          have hw785_2 := hx785_2
          have hw785_1 := hx785_1
          have hw785_0 := hx785_0
          obtain rfl : ad784 = ad785 := (by injection e785)
          replace hx785_0 := cb HB.out hx785_0
          replace hx785_1 := cb HB.out hx785_1
          replace hx785_2 := cb HB.out hx785_2
          replace hx785_3 := cb HB.out hx785_3
          replace p785 := eq_true p785
          replace q785 := eq_true q785
          have p787 : 0 ≤ (x9_2 : Int) := of_decide_eq_true (uq)
          have q787 : x9_2 < (l1.length : Int) := of_decide_eq_true (uq)
          obtain ⟨ad787, e787, hx787_0, hx787_1, hx787_2, hx787_3⟩ := at_T48 HR1.out x9_2 p787 q787
          have hw787_3 := hx787_3
          have hw787_2 := hx787_2
          have hw787_1 := hx787_1
          have hw787_0 := hx787_0
          obtain rfl : ad784 = ad787 := (by injection e787)
          replace hx787_0 := cb HB.out hx787_0
          replace hx787_1 := cb HB.out hx787_1
          replace hx787_2 := cb HB.out hx787_2
          replace hx787_3 := cb HB.out hx787_3
          replace p787 := eq_true p787
          replace q787 := eq_true q787
          refine start_ (n := 23) (S := fun w' => w'.cell? ⟨gb781, 0, none⟩ = some (.slice A0_0 l0_0.length c0_0) ∧ w'.cell? (ad784.add ((x9_2).toNat * 4)) = some (.int .i64 ((rd_T48 l1 x9_2).f0)) ∧ w'.cell? ⟨(ad784.add ((x9_2).toNat * 4)).block, (ad784.add ((x9_2).toNat * 4)).off + 1, none⟩ = some (.int .i64 ((rd_T48 l1 x9_2).f1)) ∧ w'.cell? ⟨(ad784.add ((x9_2).toNat * 4)).block, (ad784.add ((x9_2).toNat * 4)).off + 2, none⟩ = some (.int .i64 ((rd_T48 l1 x9_2).f2)) ∧ w'.cell? ⟨(ad784.add ((x9_2).toNat * 4)).block, (ad784.add ((x9_2).toNat * 4)).off + 3, none⟩ = some (.int .i64 ((rd_T48 l1 x9_2).f3)) ∧ w'.cell? (ad784.add ((x9_2).toNat * 4)) = some (.int .i64 ((rd_T48 l1 x9_2).f0)) ∧ w'.cell? ⟨(ad784.add ((x9_2).toNat * 4)).block, (ad784.add ((x9_2).toNat * 4)).off + 1, none⟩ = some (.int .i64 ((rd_T48 l1 x9_2).f1)) ∧ w'.cell? ⟨(ad784.add ((x9_2).toNat * 4)).block, (ad784.add ((x9_2).toNat * 4)).off + 2, none⟩ = some (.int .i64 ((rd_T48 l1 x9_2).f2)) ∧ w'.cell? ⟨(ad784.add ((x9_2).toNat * 4)).block, (ad784.add ((x9_2).toNat * 4)).off + 3, none⟩ = some (.int .i64 ((rd_T48 l1 x9_2).f3)) ∧ w'.cell? (ad784.add ((x9_2).toNat * 4)) = some (.int .i64 ((rd_T48 l1 x9_2).f0)) ∧ w'.cell? ⟨(ad784.add ((x9_2).toNat * 4)).block, (ad784.add ((x9_2).toNat * 4)).off + 1, none⟩ = some (.int .i64 ((rd_T48 l1 x9_2).f1)) ∧ w'.cell? ⟨(ad784.add ((x9_2).toNat * 4)).block, (ad784.add ((x9_2).toNat * 4)).off + 2, none⟩ = some (.int .i64 ((rd_T48 l1 x9_2).f2)) ∧ w'.cell? ⟨(ad784.add ((x9_2).toNat * 4)).block, (ad784.add ((x9_2).toNat * 4)).off + 3, none⟩ = some (.int .i64 ((rd_T48 l1 x9_2).f3))) (ds := []) #[false, false, false, false, false, false, false, false, false, false, false, false, false, false, false, false, false, false, false, false, false, false, false] (by kernel_rfl) rfl rfl ⟨(blk_cell BK781.out 0).trans rfl, ((HB.out.cell (World.block_lt_of_cell? w _ hw784_0)).trans hw784_0), ((HB.out.cell (World.block_lt_of_cell? w _ hw784_1)).trans hw784_1), ((HB.out.cell (World.block_lt_of_cell? w _ hw784_2)).trans hw784_2), ((HB.out.cell (World.block_lt_of_cell? w _ hw784_3)).trans hw784_3), ((HB.out.cell (World.block_lt_of_cell? w _ hw785_0)).trans hw785_0), ((HB.out.cell (World.block_lt_of_cell? w _ hw785_1)).trans hw785_1), ((HB.out.cell (World.block_lt_of_cell? w _ hw785_2)).trans hw785_2), ((HB.out.cell (World.block_lt_of_cell? w _ hw785_3)).trans hw785_3), ((HB.out.cell (World.block_lt_of_cell? w _ hw787_0)).trans hw787_0), ((HB.out.cell (World.block_lt_of_cell? w _ hw787_1)).trans hw787_1), ((HB.out.cell (World.block_lt_of_cell? w _ hw787_2)).trans hw787_2), ((HB.out.cell (World.block_lt_of_cell? w _ hw787_3)).trans hw787_3)⟩ (fun hHeld => ?_); refine with_tabW spec_LookUp.tab6 spec_LookUp.bits6 (fun HT_ HW_ => ?_)
          generalize wr.drew = w23 at BK781 HB hx784_0 hx784_1 hx784_2 hx784_3 hx785_0 hx785_1 hx785_2 hx785_3 hx787_0 hx787_1 hx787_2 hx787_3 hHeld ⊢
          refine pq (i := 0) (N := some 26) #[true, false, false, false, false, false, false, false, false, false, false, false, false, false, false, false, false, false, false, false, false, false, false] ?_
          refine pq (i := 1) (N := some 27) #[true, true, false, false, false, false, false, false, false, false, false, false, false, false, false, false, false, false, false, false, false, false, false] ?_
          refine pq (i := 2) (N := some 28) #[true, true, true, false, false, false, false, false, false, false, false, false, false, false, false, false, false, false, false, false, false, false, false] ?_
          refine pq (i := 3) (N := some 29) #[true, true, true, true, false, false, false, false, false, false, false, false, false, false, false, false, false, false, false, false, false, false, false] ?_
          refine pq (i := 4) (N := some 30) #[true, true, true, true, true, false, false, false, false, false, false, false, false, false, false, false, false, false, false, false, false, false, false] ?_
          refine pq (i := 6) (N := some 32) #[true, true, true, true, true, false, true, false, false, false, false, false, false, false, false, false, false, false, false, false, false, false, false] ?_
          refine pq (i := 7) (N := some 33) #[true, true, true, true, true, false, true, true, false, false, false, false, false, false, false, false, false, false, false, false, false, false, false] ?_
          refine pq (i := 8) (N := some 34) #[true, true, true, true, true, false, true, true, true, false, false, false, false, false, false, false, false, false, false, false, false, false, false] ?_
          refine pq (i := 9) (N := some 35) #[true, true, true, true, true, false, true, true, true, true, false, false, false, false, false, false, false, false, false, false, false, false, false] ?_
          refine take_ (i := 5) (N := some 31) (v := ?_) (a' := ?_) #[true, true, true, true, true, true, true, true, true, true, false, false, false, false, false, false, false, false, false, false, false, false, false] rfl rfl (take_ofW HT_.out HW_.out (by kernel_rfl)) (fun _ _ _ h => h) (Or.inl ⟨by rfl, ?_⟩) hHeld ?_ ?_
          rotate_left
          ·rintro w' ⟨s0, s1, s2, s3, s4, s5, s6, s7, s8, s9, s10, s11, s12⟩
           go_simp
           with_reducible rfl
          rotate_left
          ·exact sa
          refine take_ (i := 10) (N := some 36) (v := ?_) (a' := ?_) #[true, true, true, true, true, true, true, true, true, true, true, false, false, false, false, false, false, false, false, false, false, false, false] rfl rfl (take_ofW HT_.out HW_.out (by kernel_rfl)) (fun _ _ _ h => h) (Or.inl ⟨by rfl, ?_⟩) hHeld ?_ ?_
          rotate_left
          ·rintro w' ⟨s0, s1, s2, s3, s4, s5, s6, s7, s8, s9, s10, s11, s12⟩
           go_simp
           with_reducible rfl
          rotate_left
          ·exact sa
          refine pq (i := 11) (N := some 37) #[true, true, true, true, true, true, true, true, true, true, true, true, false, false, false, false, false, false, false, false, false, false, false] ?_
          refine one_ (i := 12) (N := some 38) #[true, true, true, true, true, true, true, true, true, true, true, true, true, false, false, false, false, false, false, false, false, false, false] rfl rfl (one_of HT_.out (by kernel_rfl)) (by decide) (fun K hK => ?_)
          refine goes_ Try.func60 (by kernel_rfl) rfl #[.int .i64 a2, .int .i64 ((rd_T48 l1 x9_2).f0), .int .i64 (wrap64 (((rd_T48 l1 x9_2).f1) - 1))] (by rfl) rfl rfl (aq) ?_
          with_reducible refine (spec_inRange.calls a2 ((rd_T48 l1 x9_2).f0) (wrap64 (((rd_T48 l1 x9_2).f1) - 1)) true _ A19.out).mono ?_
          rintro e w' ⟨rfl, ⟨nd, rfl⟩⟩
          refine ⟨_, rfl, ?_⟩
          refine hK.out _ _ ⟨(blk_cell BK781.out 0).trans rfl, ((HB.out.cell (World.block_lt_of_cell? w _ hw784_0)).trans hw784_0), ((HB.out.cell (World.block_lt_of_cell? w _ hw784_1)).trans hw784_1), ((HB.out.cell (World.block_lt_of_cell? w _ hw784_2)).trans hw784_2), ((HB.out.cell (World.block_lt_of_cell? w _ hw784_3)).trans hw784_3), ((HB.out.cell (World.block_lt_of_cell? w _ hw785_0)).trans hw785_0), ((HB.out.cell (World.block_lt_of_cell? w _ hw785_1)).trans hw785_1), ((HB.out.cell (World.block_lt_of_cell? w _ hw785_2)).trans hw785_2), ((HB.out.cell (World.block_lt_of_cell? w _ hw785_3)).trans hw785_3), ((HB.out.cell (World.block_lt_of_cell? w _ hw787_0)).trans hw787_0), ((HB.out.cell (World.block_lt_of_cell? w _ hw787_1)).trans hw787_1), ((HB.out.cell (World.block_lt_of_cell? w _ hw787_2)).trans hw787_2), ((HB.out.cell (World.block_lt_of_cell? w _ hw787_3)).trans hw787_3)⟩ (fun hHeld => ?_)
          clear hK K
          refine norm_ (a' := ?_) ?_ ?_
          rotate_left
          ·show Act.put _ (some 38) _ = _
           simp only [Act.put, List.setIfInBounds_toArray, List.set_cons_zero, List.set_cons_succ, i64_w, i32_w]
           rfl
          refine pq (i := 13) (N := some 39) #[true, true, true, true, true, true, true, true, true, true, true, true, true, true, false, false, false, false, false, false, false, false, false] ?_
          refine pq (i := 15) (N := some 41) #[true, true, true, true, true, true, true, true, true, true, true, true, true, true, false, true, false, false, false, false, false, false, false] ?_
          refine pq (i := 16) (N := some 42) #[true, true, true, true, true, true, true, true, true, true, true, true, true, true, false, true, true, false, false, false, false, false, false] ?_
          refine pq (i := 17) (N := some 43) #[true, true, true, true, true, true, true, true, true, true, true, true, true, true, false, true, true, true, false, false, false, false, false] ?_
          refine pq (i := 18) (N := some 44) #[true, true, true, true, true, true, true, true, true, true, true, true, true, true, false, true, true, true, true, false, false, false, false] ?_
          refine pq (i := 19) (N := some 45) #[true, true, true, true, true, true, true, true, true, true, true, true, true, true, false, true, true, true, true, true, false, false, false] ?_
          refine take_ (i := 14) (N := some 40) (v := ?_) (a' := ?_) #[true, true, true, true, true, true, true, true, true, true, true, true, true, true, true, true, true, true, true, true, false, false, false] rfl rfl (take_ofW HT_.out HW_.out (by kernel_rfl)) (fun _ _ _ h => h) (Or.inl ⟨by rfl, ?_⟩) hHeld ?_ ?_
          rotate_left
          ·rintro w' ⟨s0, s1, s2, s3, s4, s5, s6, s7, s8, s9, s10, s11, s12⟩
           go_simp
           with_reducible rfl
          rotate_left
          ·exact sa
          refine take_ (i := 20) (N := some 46) (v := ?_) (a' := ?_) #[true, true, true, true, true, true, true, true, true, true, true, true, true, true, true, true, true, true, true, true, true, false, false] rfl rfl (take_ofW HT_.out HW_.out (by kernel_rfl)) (fun _ _ _ h => h) (Or.inl ⟨by rfl, ?_⟩) hHeld ?_ ?_
          rotate_left
          ·rintro w' ⟨s0, s1, s2, s3, s4, s5, s6, s7, s8, s9, s10, s11, s12⟩
           go_simp
           with_reducible rfl
          rotate_left
          ·exact sa
          refine one_ (i := 21) (N := some 47) #[true, true, true, true, true, true, true, true, true, true, true, true, true, true, true, true, true, true, true, true, true, true, false] rfl rfl (one_of HT_.out (by kernel_rfl)) (by decide) (fun K hK => ?_)
          refine goes_ Try.func61 (by kernel_rfl) rfl #[.agg #[.slice A0_0 l0_0.length c0_0], .int .i64 a3, .int .i64 ((rd_T48 l1 x9_2).f3)] (by rfl) rfl rfl (aq) ?_
          with_reducible refine (spec_isA.calls k2 _ _ l0_0 a3 ((rd_T48 l1 x9_2).f3) true _ ?side1 ?side2 A21.out).mono ?_
          (case side1 => exact Y127)
          (case side2 => exact HC0_0.out)
          rintro e w24 ⟨rfl, hb⟩
          refine ⟨_, rfl, ?_⟩
          replace BK781 := am (blk_below (g := gb781) (o := .cells #[.slice A0_0 l0_0.length c0_0] 32 (0, 0)) (kq BK781.out) hb)
          replace HB := am (below_step (Y34) hb)
          (try clear hb)
          (try clear hb2)
          (try clear hk)
          (try clear hi)
          refine hK.out _ _ ⟨(blk_cell BK781.out 0).trans rfl, ((HB.out.cell (World.block_lt_of_cell? w _ hw784_0)).trans hw784_0), ((HB.out.cell (World.block_lt_of_cell? w _ hw784_1)).trans hw784_1), ((HB.out.cell (World.block_lt_of_cell? w _ hw784_2)).trans hw784_2), ((HB.out.cell (World.block_lt_of_cell? w _ hw784_3)).trans hw784_3), ((HB.out.cell (World.block_lt_of_cell? w _ hw785_0)).trans hw785_0), ((HB.out.cell (World.block_lt_of_cell? w _ hw785_1)).trans hw785_1), ((HB.out.cell (World.block_lt_of_cell? w _ hw785_2)).trans hw785_2), ((HB.out.cell (World.block_lt_of_cell? w _ hw785_3)).trans hw785_3), ((HB.out.cell (World.block_lt_of_cell? w _ hw787_0)).trans hw787_0), ((HB.out.cell (World.block_lt_of_cell? w _ hw787_1)).trans hw787_1), ((HB.out.cell (World.block_lt_of_cell? w _ hw787_2)).trans hw787_2), ((HB.out.cell (World.block_lt_of_cell? w _ hw787_3)).trans hw787_3)⟩ (fun hHeld => ?_)
          clear hK K
          refine norm_ (a' := ?_) ?_ ?_
          rotate_left
          ·show Act.put _ (some 47) _ = _
           simp only [Act.put, List.setIfInBounds_toArray, List.set_cons_zero, List.set_cons_succ, i64_w, i32_w]
           rfl
          refine pq (i := 22) (N := some 48) #[true, true, true, true, true, true, true, true, true, true, true, true, true, true, true, true, true, true, true, true, true, true, true] ?_
          refine done_ (done_of HT_.out (by kernel_rfl)) ?_
          have p789 : 0 ≤ (x9_2 : Int) := of_decide_eq_true (uq)
          have q789 : x9_2 < (l1.length : Int) := of_decide_eq_true (uq)
          obtain ⟨ad789, e789, hx789_0, hx789_1, hx789_2, hx789_3⟩ := at_T48 HR1.out x9_2 p789 q789
          obtain rfl : ad784 = ad789 := (by injection e789)
          replace hx789_0 := cb HB.out hx789_0
          replace hx789_1 := cb HB.out hx789_1
          replace hx789_2 := cb HB.out hx789_2
          replace hx789_3 := cb HB.out hx789_3
          replace p789 := eq_true p789
          replace q789 := eq_true q789
          try go_wp2
          go_ret
          exact ⟨Y0, Y34⟩
         ·replace c22 := Bool.eq_false_iff.mpr c22
          subst c22
          have H1 : (spec_LookUp.l0 k2 l1 a2 a3 (wrap64 (x9_2 + 1)) l0_0) = some r := by rw [if_neg (show ¬ (false = true) by decide)] at H; exact H
          clear H
          have H := H1
          clear H1
          have H' := am H
          clear H
          try go_wp2
          replace BK781 := am (blk_drew BK781.out)
          replace HB := am (below_drew1 HB.out)
          have p784 : 0 ≤ (x9_2 : Int) := of_decide_eq_true (uq)
          have q784 : x9_2 < (l1.length : Int) := of_decide_eq_true (uq)
          obtain ⟨ad784, e784, hx784_0, hx784_1, hx784_2, hx784_3⟩ := at_T48 HR1.out x9_2 p784 q784
          have hw784_3 := hx784_3
          have hw784_2 := hx784_2
          have hw784_1 := hx784_1
          have hw784_0 := hx784_0
          cases e784
          replace hx784_0 := cb HB.out hx784_0
          replace hx784_1 := cb HB.out hx784_1
          replace hx784_2 := cb HB.out hx784_2
          replace hx784_3 := cb HB.out hx784_3
          replace p784 := eq_true p784
          replace q784 := eq_true q784
          have p785 : 0 ≤ (x9_2 : Int) := of_decide_eq_true (uq)
          have q785 : x9_2 < (l1.length : Int) := of_decide_eq_true (uq)
          obtain ⟨ad785, e785, hx785_0, hx785_1, hx785_2, hx785_3⟩ := at_T48 HR1.out x9_2 p785 q785
          have hw785_3 := hx785_3
          have hw785_2 := hx785_2
          have hw785_1 := hx785_1
          have hw785_0 := hx785_0
          obtain rfl : ad784 = ad785 := (by injection e785)
          replace hx785_0 := cb HB.out hx785_0
          replace hx785_1 := cb HB.out hx785_1
          replace hx785_2 := cb HB.out hx785_2
          replace hx785_3 := cb HB.out hx785_3
          replace p785 := eq_true p785
          replace q785 := eq_true q785
          have p787 : 0 ≤ (x9_2 : Int) := of_decide_eq_true (uq)
          have q787 : x9_2 < (l1.length : Int) := of_decide_eq_true (uq)
          obtain ⟨ad787, e787, hx787_0, hx787_1, hx787_2, hx787_3⟩ := at_T48 HR1.out x9_2 p787 q787
          have hw787_3 := hx787_3
          have hw787_2 := hx787_2
          have hw787_1 := hx787_1
          have hw787_0 := hx787_0
          obtain rfl : ad784 = ad787 := (by injection e787)
          replace hx787_0 := cb HB.out hx787_0
          replace hx787_1 := cb HB.out hx787_1
          replace hx787_2 := cb HB.out hx787_2
          replace hx787_3 := cb HB.out hx787_3
          replace p787 := eq_true p787
          replace q787 := eq_true q787
          refine start_ (n := 23) (S := fun w' => w'.cell? ⟨gb781, 0, none⟩ = some (.slice A0_0 l0_0.length c0_0) ∧ w'.cell? (ad784.add ((x9_2).toNat * 4)) = some (.int .i64 ((rd_T48 l1 x9_2).f0)) ∧ w'.cell? ⟨(ad784.add ((x9_2).toNat * 4)).block, (ad784.add ((x9_2).toNat * 4)).off + 1, none⟩ = some (.int .i64 ((rd_T48 l1 x9_2).f1)) ∧ w'.cell? ⟨(ad784.add ((x9_2).toNat * 4)).block, (ad784.add ((x9_2).toNat * 4)).off + 2, none⟩ = some (.int .i64 ((rd_T48 l1 x9_2).f2)) ∧ w'.cell? ⟨(ad784.add ((x9_2).toNat * 4)).block, (ad784.add ((x9_2).toNat * 4)).off + 3, none⟩ = some (.int .i64 ((rd_T48 l1 x9_2).f3)) ∧ w'.cell? (ad784.add ((x9_2).toNat * 4)) = some (.int .i64 ((rd_T48 l1 x9_2).f0)) ∧ w'.cell? ⟨(ad784.add ((x9_2).toNat * 4)).block, (ad784.add ((x9_2).toNat * 4)).off + 1, none⟩ = some (.int .i64 ((rd_T48 l1 x9_2).f1)) ∧ w'.cell? ⟨(ad784.add ((x9_2).toNat * 4)).block, (ad784.add ((x9_2).toNat * 4)).off + 2, none⟩ = some (.int .i64 ((rd_T48 l1 x9_2).f2)) ∧ w'.cell? ⟨(ad784.add ((x9_2).toNat * 4)).block, (ad784.add ((x9_2).toNat * 4)).off + 3, none⟩ = some (.int .i64 ((rd_T48 l1 x9_2).f3)) ∧ w'.cell? (ad784.add ((x9_2).toNat * 4)) = some (.int .i64 ((rd_T48 l1 x9_2).f0)) ∧ w'.cell? ⟨(ad784.add ((x9_2).toNat * 4)).block, (ad784.add ((x9_2).toNat * 4)).off + 1, none⟩ = some (.int .i64 ((rd_T48 l1 x9_2).f1)) ∧ w'.cell? ⟨(ad784.add ((x9_2).toNat * 4)).block, (ad784.add ((x9_2).toNat * 4)).off + 2, none⟩ = some (.int .i64 ((rd_T48 l1 x9_2).f2)) ∧ w'.cell? ⟨(ad784.add ((x9_2).toNat * 4)).block, (ad784.add ((x9_2).toNat * 4)).off + 3, none⟩ = some (.int .i64 ((rd_T48 l1 x9_2).f3))) (ds := []) #[false, false, false, false, false, false, false, false, false, false, false, false, false, false, false, false, false, false, false, false, false, false, false] (by kernel_rfl) rfl rfl ⟨(blk_cell BK781.out 0).trans rfl, ((HB.out.cell (World.block_lt_of_cell? w _ hw784_0)).trans hw784_0), ((HB.out.cell (World.block_lt_of_cell? w _ hw784_1)).trans hw784_1), ((HB.out.cell (World.block_lt_of_cell? w _ hw784_2)).trans hw784_2), ((HB.out.cell (World.block_lt_of_cell? w _ hw784_3)).trans hw784_3), ((HB.out.cell (World.block_lt_of_cell? w _ hw785_0)).trans hw785_0), ((HB.out.cell (World.block_lt_of_cell? w _ hw785_1)).trans hw785_1), ((HB.out.cell (World.block_lt_of_cell? w _ hw785_2)).trans hw785_2), ((HB.out.cell (World.block_lt_of_cell? w _ hw785_3)).trans hw785_3), ((HB.out.cell (World.block_lt_of_cell? w _ hw787_0)).trans hw787_0), ((HB.out.cell (World.block_lt_of_cell? w _ hw787_1)).trans hw787_1), ((HB.out.cell (World.block_lt_of_cell? w _ hw787_2)).trans hw787_2), ((HB.out.cell (World.block_lt_of_cell? w _ hw787_3)).trans hw787_3)⟩ (fun hHeld => ?_); refine with_tabW spec_LookUp.tab6 spec_LookUp.bits6 (fun HT_ HW_ => ?_)
          generalize wr.drew = w25 at BK781 HB hx784_0 hx784_1 hx784_2 hx784_3 hx785_0 hx785_1 hx785_2 hx785_3 hx787_0 hx787_1 hx787_2 hx787_3 hHeld ⊢
          refine pq (i := 0) (N := some 26) #[true, false, false, false, false, false, false, false, false, false, false, false, false, false, false, false, false, false, false, false, false, false, false] ?_
          refine pq (i := 1) (N := some 27) #[true, true, false, false, false, false, false, false, false, false, false, false, false, false, false, false, false, false, false, false, false, false, false] ?_
          refine pq (i := 2) (N := some 28) #[true, true, true, false, false, false, false, false, false, false, false, false, false, false, false, false, false, false, false, false, false, false, false] ?_
          refine pq (i := 3) (N := some 29) #[true, true, true, true, false, false, false, false, false, false, false, false, false, false, false, false, false, false, false, false, false, false, false] ?_
          refine pq (i := 4) (N := some 30) #[true, true, true, true, true, false, false, false, false, false, false, false, false, false, false, false, false, false, false, false, false, false, false] ?_
          refine pq (i := 6) (N := some 32) #[true, true, true, true, true, false, true, false, false, false, false, false, false, false, false, false, false, false, false, false, false, false, false] ?_
          refine pq (i := 7) (N := some 33) #[true, true, true, true, true, false, true, true, false, false, false, false, false, false, false, false, false, false, false, false, false, false, false] ?_
          refine pq (i := 8) (N := some 34) #[true, true, true, true, true, false, true, true, true, false, false, false, false, false, false, false, false, false, false, false, false, false, false] ?_
          refine pq (i := 9) (N := some 35) #[true, true, true, true, true, false, true, true, true, true, false, false, false, false, false, false, false, false, false, false, false, false, false] ?_
          refine take_ (i := 5) (N := some 31) (v := ?_) (a' := ?_) #[true, true, true, true, true, true, true, true, true, true, false, false, false, false, false, false, false, false, false, false, false, false, false] rfl rfl (take_ofW HT_.out HW_.out (by kernel_rfl)) (fun _ _ _ h => h) (Or.inl ⟨by rfl, ?_⟩) hHeld ?_ ?_
          rotate_left
          ·rintro w' ⟨s0, s1, s2, s3, s4, s5, s6, s7, s8, s9, s10, s11, s12⟩
           go_simp
           with_reducible rfl
          rotate_left
          ·exact sa
          refine take_ (i := 10) (N := some 36) (v := ?_) (a' := ?_) #[true, true, true, true, true, true, true, true, true, true, true, false, false, false, false, false, false, false, false, false, false, false, false] rfl rfl (take_ofW HT_.out HW_.out (by kernel_rfl)) (fun _ _ _ h => h) (Or.inl ⟨by rfl, ?_⟩) hHeld ?_ ?_
          rotate_left
          ·rintro w' ⟨s0, s1, s2, s3, s4, s5, s6, s7, s8, s9, s10, s11, s12⟩
           go_simp
           with_reducible rfl
          rotate_left
          ·exact sa
          refine pq (i := 11) (N := some 37) #[true, true, true, true, true, true, true, true, true, true, true, true, false, false, false, false, false, false, false, false, false, false, false] ?_
          refine one_ (i := 12) (N := some 38) #[true, true, true, true, true, true, true, true, true, true, true, true, true, false, false, false, false, false, false, false, false, false, false] rfl rfl (one_of HT_.out (by kernel_rfl)) (by decide) (fun K hK => ?_)
          refine goes_ Try.func60 (by kernel_rfl) rfl #[.int .i64 a2, .int .i64 ((rd_T48 l1 x9_2).f0), .int .i64 (wrap64 (((rd_T48 l1 x9_2).f1) - 1))] (by rfl) rfl rfl (aq) ?_
          with_reducible refine (spec_inRange.calls a2 ((rd_T48 l1 x9_2).f0) (wrap64 (((rd_T48 l1 x9_2).f1) - 1)) true _ A19.out).mono ?_
          rintro e w' ⟨rfl, ⟨nd, rfl⟩⟩
          refine ⟨_, rfl, ?_⟩
          refine hK.out _ _ ⟨(blk_cell BK781.out 0).trans rfl, ((HB.out.cell (World.block_lt_of_cell? w _ hw784_0)).trans hw784_0), ((HB.out.cell (World.block_lt_of_cell? w _ hw784_1)).trans hw784_1), ((HB.out.cell (World.block_lt_of_cell? w _ hw784_2)).trans hw784_2), ((HB.out.cell (World.block_lt_of_cell? w _ hw784_3)).trans hw784_3), ((HB.out.cell (World.block_lt_of_cell? w _ hw785_0)).trans hw785_0), ((HB.out.cell (World.block_lt_of_cell? w _ hw785_1)).trans hw785_1), ((HB.out.cell (World.block_lt_of_cell? w _ hw785_2)).trans hw785_2), ((HB.out.cell (World.block_lt_of_cell? w _ hw785_3)).trans hw785_3), ((HB.out.cell (World.block_lt_of_cell? w _ hw787_0)).trans hw787_0), ((HB.out.cell (World.block_lt_of_cell? w _ hw787_1)).trans hw787_1), ((HB.out.cell (World.block_lt_of_cell? w _ hw787_2)).trans hw787_2), ((HB.out.cell (World.block_lt_of_cell? w _ hw787_3)).trans hw787_3)⟩ (fun hHeld => ?_)
          clear hK K
          refine norm_ (a' := ?_) ?_ ?_
          rotate_left
          ·show Act.put _ (some 38) _ = _
           simp only [Act.put, List.setIfInBounds_toArray, List.set_cons_zero, List.set_cons_succ, i64_w, i32_w]
           rfl
          refine pq (i := 13) (N := some 39) #[true, true, true, true, true, true, true, true, true, true, true, true, true, true, false, false, false, false, false, false, false, false, false] ?_
          refine pq (i := 15) (N := some 41) #[true, true, true, true, true, true, true, true, true, true, true, true, true, true, false, true, false, false, false, false, false, false, false] ?_
          refine pq (i := 16) (N := some 42) #[true, true, true, true, true, true, true, true, true, true, true, true, true, true, false, true, true, false, false, false, false, false, false] ?_
          refine pq (i := 17) (N := some 43) #[true, true, true, true, true, true, true, true, true, true, true, true, true, true, false, true, true, true, false, false, false, false, false] ?_
          refine pq (i := 18) (N := some 44) #[true, true, true, true, true, true, true, true, true, true, true, true, true, true, false, true, true, true, true, false, false, false, false] ?_
          refine pq (i := 19) (N := some 45) #[true, true, true, true, true, true, true, true, true, true, true, true, true, true, false, true, true, true, true, true, false, false, false] ?_
          refine take_ (i := 14) (N := some 40) (v := ?_) (a' := ?_) #[true, true, true, true, true, true, true, true, true, true, true, true, true, true, true, true, true, true, true, true, false, false, false] rfl rfl (take_ofW HT_.out HW_.out (by kernel_rfl)) (fun _ _ _ h => h) (Or.inl ⟨by rfl, ?_⟩) hHeld ?_ ?_
          rotate_left
          ·rintro w' ⟨s0, s1, s2, s3, s4, s5, s6, s7, s8, s9, s10, s11, s12⟩
           go_simp
           with_reducible rfl
          rotate_left
          ·exact sa
          refine take_ (i := 20) (N := some 46) (v := ?_) (a' := ?_) #[true, true, true, true, true, true, true, true, true, true, true, true, true, true, true, true, true, true, true, true, true, false, false] rfl rfl (take_ofW HT_.out HW_.out (by kernel_rfl)) (fun _ _ _ h => h) (Or.inl ⟨by rfl, ?_⟩) hHeld ?_ ?_
          rotate_left
          ·rintro w' ⟨s0, s1, s2, s3, s4, s5, s6, s7, s8, s9, s10, s11, s12⟩
           go_simp
           with_reducible rfl
          rotate_left
          ·exact sa
          refine one_ (i := 21) (N := some 47) #[true, true, true, true, true, true, true, true, true, true, true, true, true, true, true, true, true, true, true, true, true, true, false] rfl rfl (one_of HT_.out (by kernel_rfl)) (by decide) (fun K hK => ?_)
          refine goes_ Try.func61 (by kernel_rfl) rfl #[.agg #[.slice A0_0 l0_0.length c0_0], .int .i64 a3, .int .i64 ((rd_T48 l1 x9_2).f3)] (by rfl) rfl rfl (aq) ?_
          with_reducible refine (spec_isA.calls k2 _ _ l0_0 a3 ((rd_T48 l1 x9_2).f3) false _ ?side1 ?side2 A21.out).mono ?_
          (case side1 => exact Y127)
          (case side2 => exact HC0_0.out)
          rintro e w26 ⟨rfl, hb⟩
          refine ⟨_, rfl, ?_⟩
          replace BK781 := am (blk_below (g := gb781) (o := .cells #[.slice A0_0 l0_0.length c0_0] 32 (0, 0)) (kq BK781.out) hb)
          replace HB := am (below_step (Y34) hb)
          (try clear hb)
          (try clear hb2)
          (try clear hk)
          (try clear hi)
          refine hK.out _ _ ⟨(blk_cell BK781.out 0).trans rfl, ((HB.out.cell (World.block_lt_of_cell? w _ hw784_0)).trans hw784_0), ((HB.out.cell (World.block_lt_of_cell? w _ hw784_1)).trans hw784_1), ((HB.out.cell (World.block_lt_of_cell? w _ hw784_2)).trans hw784_2), ((HB.out.cell (World.block_lt_of_cell? w _ hw784_3)).trans hw784_3), ((HB.out.cell (World.block_lt_of_cell? w _ hw785_0)).trans hw785_0), ((HB.out.cell (World.block_lt_of_cell? w _ hw785_1)).trans hw785_1), ((HB.out.cell (World.block_lt_of_cell? w _ hw785_2)).trans hw785_2), ((HB.out.cell (World.block_lt_of_cell? w _ hw785_3)).trans hw785_3), ((HB.out.cell (World.block_lt_of_cell? w _ hw787_0)).trans hw787_0), ((HB.out.cell (World.block_lt_of_cell? w _ hw787_1)).trans hw787_1), ((HB.out.cell (World.block_lt_of_cell? w _ hw787_2)).trans hw787_2), ((HB.out.cell (World.block_lt_of_cell? w _ hw787_3)).trans hw787_3)⟩ (fun hHeld => ?_)
          clear hK K
          refine norm_ (a' := ?_) ?_ ?_
          rotate_left
          ·show Act.put _ (some 47) _ = _
           simp only [Act.put, List.setIfInBounds_toArray, List.set_cons_zero, List.set_cons_succ, i64_w, i32_w]
           rfl
          refine pq (i := 22) (N := some 48) #[true, true, true, true, true, true, true, true, true, true, true, true, true, true, true, true, true, true, true, true, true, true, true] ?_
          refine done_ (done_of HT_.out (by kernel_rfl)) ?_
          try go_wp2
          go_roundg k2
          case measure => have := HJ4.out; have := HK2.out; omega
          case rel => exact ⟨(wrap64 (x9_2 + 1)), (sq), H', ⟨by have := HJ4.out; have := HK2.out; omega⟩, ⟨kq BK781.out⟩, ⟨Y34⟩⟩
        ·replace c20 := Bool.eq_false_iff.mpr c20
         subst c20
         have H1 : (spec_LookUp.l0 k2 l1 a2 a3 (wrap64 (x9_2 + 1)) l0_0) = some r := by rw [if_neg (show ¬ (false = true) by decide)] at H; exact H
         clear H
         have H := H1
         clear H1
         have H' := am H
         clear H
         try go_wp2
         replace BK781 := am (blk_drew BK781.out)
         replace HB := am (below_drew1 HB.out)
         have p784 : 0 ≤ (x9_2 : Int) := of_decide_eq_true (uq)
         have q784 : x9_2 < (l1.length : Int) := of_decide_eq_true (uq)
         obtain ⟨ad784, e784, hx784_0, hx784_1, hx784_2, hx784_3⟩ := at_T48 HR1.out x9_2 p784 q784
         have hw784_3 := hx784_3
         have hw784_2 := hx784_2
         have hw784_1 := hx784_1
         have hw784_0 := hx784_0
         cases e784
         replace hx784_0 := cb HB.out hx784_0
         replace hx784_1 := cb HB.out hx784_1
         replace hx784_2 := cb HB.out hx784_2
         replace hx784_3 := cb HB.out hx784_3
         replace p784 := eq_true p784
         replace q784 := eq_true q784
         have p785 : 0 ≤ (x9_2 : Int) := of_decide_eq_true (uq)
         have q785 : x9_2 < (l1.length : Int) := of_decide_eq_true (uq)
         obtain ⟨ad785, e785, hx785_0, hx785_1, hx785_2, hx785_3⟩ := at_T48 HR1.out x9_2 p785 q785
         have hw785_3 := hx785_3
         have hw785_2 := hx785_2
         have hw785_1 := hx785_1
         have hw785_0 := hx785_0
         obtain rfl : ad784 = ad785 := (by injection e785)
         replace hx785_0 := cb HB.out hx785_0
         replace hx785_1 := cb HB.out hx785_1
         replace hx785_2 := cb HB.out hx785_2
         replace hx785_3 := cb HB.out hx785_3
         replace p785 := eq_true p785
         replace q785 := eq_true q785
         refine start_ (n := 23) (S := fun w' => w'.cell? (ad784.add ((x9_2).toNat * 4)) = some (.int .i64 ((rd_T48 l1 x9_2).f0)) ∧ w'.cell? ⟨(ad784.add ((x9_2).toNat * 4)).block, (ad784.add ((x9_2).toNat * 4)).off + 1, none⟩ = some (.int .i64 ((rd_T48 l1 x9_2).f1)) ∧ w'.cell? ⟨(ad784.add ((x9_2).toNat * 4)).block, (ad784.add ((x9_2).toNat * 4)).off + 2, none⟩ = some (.int .i64 ((rd_T48 l1 x9_2).f2)) ∧ w'.cell? ⟨(ad784.add ((x9_2).toNat * 4)).block, (ad784.add ((x9_2).toNat * 4)).off + 3, none⟩ = some (.int .i64 ((rd_T48 l1 x9_2).f3)) ∧ w'.cell? (ad784.add ((x9_2).toNat * 4)) = some (.int .i64 ((rd_T48 l1 x9_2).f0)) ∧ w'.cell? ⟨(ad784.add ((x9_2).toNat * 4)).block, (ad784.add ((x9_2).toNat * 4)).off + 1, none⟩ = some (.int .i64 ((rd_T48 l1 x9_2).f1)) ∧ w'.cell? ⟨(ad784.add ((x9_2).toNat * 4)).block, (ad784.add ((x9_2).toNat * 4)).off + 2, none⟩ = some (.int .i64 ((rd_T48 l1 x9_2).f2)) ∧ w'.cell? ⟨(ad784.add ((x9_2).toNat * 4)).block, (ad784.add ((x9_2).toNat * 4)).off + 3, none⟩ = some (.int .i64 ((rd_T48 l1 x9_2).f3))) (ds := []) #[false, false, false, false, false, false, false, false, false, false, false, false, false, false, false, false, false, false, false, false, false, false, false] (by kernel_rfl) rfl rfl ⟨((HB.out.cell (World.block_lt_of_cell? w _ hw784_0)).trans hw784_0), ((HB.out.cell (World.block_lt_of_cell? w _ hw784_1)).trans hw784_1), ((HB.out.cell (World.block_lt_of_cell? w _ hw784_2)).trans hw784_2), ((HB.out.cell (World.block_lt_of_cell? w _ hw784_3)).trans hw784_3), ((HB.out.cell (World.block_lt_of_cell? w _ hw785_0)).trans hw785_0), ((HB.out.cell (World.block_lt_of_cell? w _ hw785_1)).trans hw785_1), ((HB.out.cell (World.block_lt_of_cell? w _ hw785_2)).trans hw785_2), ((HB.out.cell (World.block_lt_of_cell? w _ hw785_3)).trans hw785_3)⟩ (fun hHeld => ?_); refine with_tabW spec_LookUp.tab6 spec_LookUp.bits6 (fun HT_ HW_ => ?_)
         generalize wr.drew = w27 at BK781 HB hx784_0 hx784_1 hx784_2 hx784_3 hx785_0 hx785_1 hx785_2 hx785_3 hHeld ⊢
         refine pq (i := 0) (N := some 26) #[true, false, false, false, false, false, false, false, false, false, false, false, false, false, false, false, false, false, false, false, false, false, false] ?_
         refine pq (i := 1) (N := some 27) #[true, true, false, false, false, false, false, false, false, false, false, false, false, false, false, false, false, false, false, false, false, false, false] ?_
         refine pq (i := 2) (N := some 28) #[true, true, true, false, false, false, false, false, false, false, false, false, false, false, false, false, false, false, false, false, false, false, false] ?_
         refine pq (i := 3) (N := some 29) #[true, true, true, true, false, false, false, false, false, false, false, false, false, false, false, false, false, false, false, false, false, false, false] ?_
         refine pq (i := 4) (N := some 30) #[true, true, true, true, true, false, false, false, false, false, false, false, false, false, false, false, false, false, false, false, false, false, false] ?_
         refine pq (i := 6) (N := some 32) #[true, true, true, true, true, false, true, false, false, false, false, false, false, false, false, false, false, false, false, false, false, false, false] ?_
         refine pq (i := 7) (N := some 33) #[true, true, true, true, true, false, true, true, false, false, false, false, false, false, false, false, false, false, false, false, false, false, false] ?_
         refine pq (i := 8) (N := some 34) #[true, true, true, true, true, false, true, true, true, false, false, false, false, false, false, false, false, false, false, false, false, false, false] ?_
         refine pq (i := 9) (N := some 35) #[true, true, true, true, true, false, true, true, true, true, false, false, false, false, false, false, false, false, false, false, false, false, false] ?_
         refine take_ (i := 5) (N := some 31) (v := ?_) (a' := ?_) #[true, true, true, true, true, true, true, true, true, true, false, false, false, false, false, false, false, false, false, false, false, false, false] rfl rfl (take_ofW HT_.out HW_.out (by kernel_rfl)) (fun _ _ _ h => h) (Or.inl ⟨by rfl, ?_⟩) hHeld ?_ ?_
         rotate_left
         ·rintro w' ⟨s0, s1, s2, s3, s4, s5, s6, s7⟩
          go_simp
          with_reducible rfl
         rotate_left
         ·exact sa
         refine take_ (i := 10) (N := some 36) (v := ?_) (a' := ?_) #[true, true, true, true, true, true, true, true, true, true, true, false, false, false, false, false, false, false, false, false, false, false, false] rfl rfl (take_ofW HT_.out HW_.out (by kernel_rfl)) (fun _ _ _ h => h) (Or.inl ⟨by rfl, ?_⟩) hHeld ?_ ?_
         rotate_left
         ·rintro w' ⟨s0, s1, s2, s3, s4, s5, s6, s7⟩
          go_simp
          with_reducible rfl
         rotate_left
         ·exact sa
         refine pq (i := 11) (N := some 37) #[true, true, true, true, true, true, true, true, true, true, true, true, false, false, false, false, false, false, false, false, false, false, false] ?_
         refine one_ (i := 12) (N := some 38) #[true, true, true, true, true, true, true, true, true, true, true, true, true, false, false, false, false, false, false, false, false, false, false] rfl rfl (one_of HT_.out (by kernel_rfl)) (by decide) (fun K hK => ?_)
         refine goes_ Try.func60 (by kernel_rfl) rfl #[.int .i64 a2, .int .i64 ((rd_T48 l1 x9_2).f0), .int .i64 (wrap64 (((rd_T48 l1 x9_2).f1) - 1))] (by rfl) rfl rfl (aq) ?_
         with_reducible refine (spec_inRange.calls a2 ((rd_T48 l1 x9_2).f0) (wrap64 (((rd_T48 l1 x9_2).f1) - 1)) false _ A19.out).mono ?_
         rintro e w' ⟨rfl, ⟨nd, rfl⟩⟩
         refine ⟨_, rfl, ?_⟩
         refine hK.out _ _ ⟨((HB.out.cell (World.block_lt_of_cell? w _ hw784_0)).trans hw784_0), ((HB.out.cell (World.block_lt_of_cell? w _ hw784_1)).trans hw784_1), ((HB.out.cell (World.block_lt_of_cell? w _ hw784_2)).trans hw784_2), ((HB.out.cell (World.block_lt_of_cell? w _ hw784_3)).trans hw784_3), ((HB.out.cell (World.block_lt_of_cell? w _ hw785_0)).trans hw785_0), ((HB.out.cell (World.block_lt_of_cell? w _ hw785_1)).trans hw785_1), ((HB.out.cell (World.block_lt_of_cell? w _ hw785_2)).trans hw785_2), ((HB.out.cell (World.block_lt_of_cell? w _ hw785_3)).trans hw785_3)⟩ (fun hHeld => ?_)
         clear hK K
         refine norm_ (a' := ?_) ?_ ?_
         rotate_left
         ·show Act.put _ (some 38) _ = _
          simp only [Act.put, List.setIfInBounds_toArray, List.set_cons_zero, List.set_cons_succ, i64_w, i32_w]
          rfl
         refine pq (i := 13) (N := some 39) #[true, true, true, true, true, true, true, true, true, true, true, true, true, true, false, false, false, false, false, false, false, false, false] ?_
         refine pure_ (i := 14) (N := some 40) (v := undef) (a' := ?_) #[true, true, true, true, true, true, true, true, true, true, true, true, true, true, true, false, false, false, false, false, false, false, false] rfl rfl (any_of HT_.out (by kernel_rfl)) (fun _ _ _ h => h) (Or.inr ⟨by rfl, rfl⟩) ?_ ?_
         rotate_left
         ·exact sa
         refine pure_ (i := 15) (N := some 41) (v := undef) (a' := ?_) #[true, true, true, true, true, true, true, true, true, true, true, true, true, true, true, true, false, false, false, false, false, false, false] rfl rfl (any_of HT_.out (by kernel_rfl)) (fun _ _ _ h => h) (Or.inr ⟨by rfl, rfl⟩) ?_ ?_
         rotate_left
         ·exact sa
         refine pure_ (i := 16) (N := some 42) (v := undef) (a' := ?_) #[true, true, true, true, true, true, true, true, true, true, true, true, true, true, true, true, true, false, false, false, false, false, false] rfl rfl (any_of HT_.out (by kernel_rfl)) (fun _ _ _ h => h) (Or.inr ⟨by rfl, rfl⟩) ?_ ?_
         rotate_left
         ·exact sa
         refine pure_ (i := 17) (N := some 43) (v := undef) (a' := ?_) #[true, true, true, true, true, true, true, true, true, true, true, true, true, true, true, true, true, true, false, false, false, false, false] rfl rfl (any_of HT_.out (by kernel_rfl)) (fun _ _ _ h => h) (Or.inr ⟨by rfl, rfl⟩) ?_ ?_
         rotate_left
         ·exact sa
         refine pure_ (i := 18) (N := some 44) (v := undef) (a' := ?_) #[true, true, true, true, true, true, true, true, true, true, true, true, true, true, true, true, true, true, true, false, false, false, false] rfl rfl (any_of HT_.out (by kernel_rfl)) (fun _ _ _ h => h) (Or.inr ⟨by rfl, rfl⟩) ?_ ?_
         rotate_left
         ·exact sa
         refine pure_ (i := 19) (N := some 45) (v := undef) (a' := ?_) #[true, true, true, true, true, true, true, true, true, true, true, true, true, true, true, true, true, true, true, true, false, false, false] rfl rfl (any_of HT_.out (by kernel_rfl)) (fun _ _ _ h => h) (Or.inr ⟨by rfl, rfl⟩) ?_ ?_
         rotate_left
         ·exact sa
         refine pure_ (i := 20) (N := some 46) (v := undef) (a' := ?_) #[true, true, true, true, true, true, true, true, true, true, true, true, true, true, true, true, true, true, true, true, true, false, false] rfl rfl (any_of HT_.out (by kernel_rfl)) (fun _ _ _ h => h) (Or.inr ⟨by rfl, rfl⟩) ?_ ?_
         rotate_left
         ·exact sa
         refine pure_ (i := 21) (N := some 47) (v := undef) (a' := ?_) #[true, true, true, true, true, true, true, true, true, true, true, true, true, true, true, true, true, true, true, true, true, true, false] rfl rfl (any_of HT_.out (by kernel_rfl)) (fun _ _ _ h => h) (Or.inr ⟨by rfl, rfl⟩) ?_ ?_
         rotate_left
         ·exact sa
         refine pq (i := 22) (N := some 48) #[true, true, true, true, true, true, true, true, true, true, true, true, true, true, true, true, true, true, true, true, true, true, true] ?_
         refine done_ (done_of HT_.out (by kernel_rfl)) ?_
         try go_wp2
         go_roundg k2
         case measure => have := HJ4.out; have := HK2.out; omega
         case rel => exact ⟨(wrap64 (x9_2 + 1)), (sq), H', ⟨by have := HJ4.out; have := HK2.out; omega⟩, ⟨kq BK781.out⟩, ⟨Y34⟩⟩
       ·rw [if_neg c18] at H
        exact absurd H (by simp)
      ·rw [if_neg c17] at H
       have c17b0 : decide (x9_2 < (l1.length : Int)) = false := decide_eq_false c17
       clear c17
       obtain rfl := Option.some.inj H
       go_wp2
       go_ret
       exact ⟨Y0, Y34⟩
def impl_IsA.f (k : Nat) (l0_0 : List (S98)) (a1 : Int) (a2 : Int) : Option (Bool) := (impl_classesIn.f k l0_0 (([a1, a2] : List Int))).bind fun t794 => (if t794 = true then ((impl_Tree_is.f k l0_0 a1 a2).bind fun t795 => (some t795)) else (some false))
set_option maxHeartbeats 8000000 in
set_option maxRecDepth 100000 in
theorem impl_IsA.calls (k : Nat) (A0_0 : Option Addr) (c0_0 : Nat) (l0_0 : List (S98)) (a1 : Int) (a2 : Int) (r : Bool) (w : World) (hr0_0 : Kd.C k98 w A0_0 l0_0.length l0_0) (hc0_0 : l0_0.length ≤ c0_0) (h : impl_IsA.f k l0_0 a1 a2 = some r) :
  Calls Try.prog 27 #[.agg #[.slice A0_0 l0_0.length c0_0], .int .i64 a1, .int .i64 a2] w fun e w' => e = .returned (.bool r) ∧ Below w.heap.size w w' := by
 have hu32 := Try.underlying32
 have HR0_0 := am hr0_0
 have HC0_0 := am hc0_0
 clear hr0_0 hc0_0
 have HB := am (Below.refl w.heap.size w)
 have H : ((impl_classesIn.f k l0_0 (([a1, a2] : List Int))).bind fun t794 => (if t794 = true then ((impl_Tree_is.f k l0_0 a1 a2).bind fun t795 => (some t795)) else (some false))) = some r := h
 clear h
 obtain ⟨y791, hy791⟩ : ∃ y_ : List Int, y_ = (([a1, a2] : List Int)) := ⟨_, rfl⟩
 replace H : ((impl_classesIn.f k l0_0 y791).bind fun t794 => (if t794 = true then ((impl_Tree_is.f k l0_0 a1 a2).bind fun t795 => (some t795)) else (some false))) = some r := by first | (rw [hy791]; with_reducible exact H) | (have H2_ := (Option.bind_some _ _).symm.trans H; rw [hy791]; with_reducible exact H2_) | (have H2_ := (Option.bind_some _ _).symm.trans H; with_reducible exact H2_) | with_reducible exact H | (rw [hy791]; exact H) | exact H
 have Ny791 := am hy791
 clear hy791
 replace H := Option.bind_eq_some_iff.mp H
 obtain ⟨t794, A40, H⟩ := H
 replace H : (if t794 = true then ((impl_Tree_is.f k l0_0 a1 a2).bind fun t795 => (some t795)) else (some false)) = some r := H
 have A4 := am A40
 clear A40
 by_cases c5 : t794 = true
 ·subst c5
  have H1 : ((impl_Tree_is.f k l0_0 a1 a2).bind fun t795 => (some t795)) = some r := by rw [if_pos rfl] at H; exact H
  clear H
  have H := H1
  clear H1
  replace H := Option.bind_eq_some_iff.mp H
  obtain ⟨t795, A60, H⟩ := H
  replace H : (some t795) = some r := H
  have A6 := am A60
  clear A60
  obtain rfl := Option.some.inj H
  go_enter Try.func27, Try.ntmps27
  go_wp2_with (first | ((with_reducible refine gate_dst (N := 3) rfl ?_); refine bE (N := 3) (cs := #[.slice A0_0 l0_0.length c0_0]) (t := 32) ?_; intro gb790 hg w7 hbox hb; have BK790 := am (hbox); have GW790 := am ((Y11 : w.heap.size ≤ gb790)); have GE790 := am ((Y11 : w.heap.size ≤ gb790)); replace HB := am (below_step (bq) hb); clear hb hbox hg; have hcz8_0 := bc0 BK790.out; have hfz8_0 := blk_frozen BK790.out 0) | ((with_reducible refine gate_dst (N := 10) rfl ?_); refine Kd.R_lit (Kd.int .i64) _ 3 ?hg (N := 10) ?hd (xs := ([a1, a2] : List Int)) (inner := [.int .i64 a1, .int .i64 a2]) (ok := fun _ => True) (okp := fun _ => True) ?hr ?hp (fun _ hk => hk) trivial (Below.refl _ _) (Nat.le_refl _) (by simp) ?_; (case hd => rfl); (case hg => rfl); (case hr => exact Y5); (case hp => exact (Reps.one (show Kd.M (Kd.int .i64) _ _ _ a1 [.int .i64 a1] from rfl) (Reps.one (show Kd.M (Kd.int .i64) _ _ _ a2 [.int .i64 a2] from rfl) (Reps.none _ _)))); intro v792 w9 ho10 hb hg_ hnew_; clear hg_ hnew_; (first | rw [← Ny791.out] at ho10 | (simp only [Int.reduceToNat] at ho10; rw [← Ny791.out] at ho10)); have HO793 := am (Kd.R_lower ho10 (below_size (Y46))); replace BK790 := am (blk_below (g := gb790) (o := .cells #[.slice A0_0 l0_0.length c0_0] 32 (0, 0)) (kq BK790.out) hb); replace HB := am (below_step (Y46) hb); clear hb ho10; obtain ⟨Ao11, co11, eo11⟩ := Kd.R_slice HO793.out; subst eo11) | ((with_reducible refine gate_callee (f := 48) rfl ?_); refine gL (some 11) Try.func48 #[.agg #[.slice A0_0 l0_0.length c0_0], .slice Ao11 y791.length co11] ?_; (with_reducible refine (impl_classesIn.calls k _ _ l0_0 _ _ y791 true _ ?side1 ?side2 ?side3 ?side4 A4.out).mono ?_); (case side1 => exact cq (Kd.C_below HR0_0.out HB.out)); (case side2 => exact HC0_0.out); (case side3 => exact cq (Kd.R_reads' HO793.out).2.2); (case side4 => exact (Kd.R_reads' HO793.out).2.1); rintro e w12 ⟨rfl, hb⟩; refine ⟨_, rfl, ?_⟩; replace HO793 := am (Kd.R_below (rq HO793.out) hb); replace BK790 := am (blk_below (g := gb790) (o := .cells #[.slice A0_0 l0_0.length c0_0] 32 (0, 0)) (kq BK790.out) hb); replace HB := am (below_step (Y46) hb); (try clear hb); (try clear hb2); (try clear hk); (try clear hi); have hcz13_0 := bc0 BK790.out; have hfz13_0 := blk_frozen BK790.out 0) | (go_at_call 51; (with_reducible refine (impl_Tree_is.calls k _ _ l0_0 a1 a2 t795 _ ?side1 ?side2 A6.out).mono ?_); (case side1 => exact cq (Kd.C_below HR0_0.out HB.out)); (case side2 => exact HC0_0.out); rintro e w14 ⟨rfl, hb⟩; replace HO793 := am (Kd.R_below (rq HO793.out) hb); replace BK790 := am (blk_below (g := gb790) (o := .cells #[.slice A0_0 l0_0.length c0_0] 32 (0, 0)) (kq BK790.out) hb); replace HB := am (below_step (Y46) hb); (try clear hb); (try clear hb2); (try clear hk); (try clear hi)))
  go_ret
  exact ⟨Y0, Y46⟩
 ·replace c5 := Bool.eq_false_iff.mpr c5
  subst c5
  have H1 : (some false) = some r := by rw [if_neg (show ¬ (false = true) by decide)] at H; exact H
  clear H
  have H := H1
  clear H1
  obtain rfl := Option.some.inj H
  go_enter Try.func27, Try.ntmps27
  go_wp2_with (first | ((with_reducible refine gate_dst (N := 3) rfl ?_); refine bE (N := 3) (cs := #[.slice A0_0 l0_0.length c0_0]) (t := 32) ?_; intro gb790 hg w15 hbox hb; have BK790 := am (hbox); have GW790 := am ((Y11 : w.heap.size ≤ gb790)); have GE790 := am ((Y11 : w.heap.size ≤ gb790)); replace HB := am (below_step (bq) hb); clear hb hbox hg; have hcz16_0 := bc0 BK790.out; have hfz16_0 := blk_frozen BK790.out 0) | ((with_reducible refine gate_dst (N := 10) rfl ?_); refine Kd.R_lit (Kd.int .i64) _ 3 ?hg (N := 10) ?hd (xs := ([a1, a2] : List Int)) (inner := [.int .i64 a1, .int .i64 a2]) (ok := fun _ => True) (okp := fun _ => True) ?hr ?hp (fun _ hk => hk) trivial (Below.refl _ _) (Nat.le_refl _) (by simp) ?_; (case hd => rfl); (case hg => rfl); (case hr => exact Y5); (case hp => exact (Reps.one (show Kd.M (Kd.int .i64) _ _ _ a1 [.int .i64 a1] from rfl) (Reps.one (show Kd.M (Kd.int .i64) _ _ _ a2 [.int .i64 a2] from rfl) (Reps.none _ _)))); intro v792 w17 ho18 hb hg_ hnew_; clear hg_ hnew_; (first | rw [← Ny791.out] at ho18 | (simp only [Int.reduceToNat] at ho18; rw [← Ny791.out] at ho18)); have HO793 := am (Kd.R_lower ho18 (below_size (Y46))); replace BK790 := am (blk_below (g := gb790) (o := .cells #[.slice A0_0 l0_0.length c0_0] 32 (0, 0)) (kq BK790.out) hb); replace HB := am (below_step (Y46) hb); clear hb ho18; obtain ⟨Ao19, co19, eo19⟩ := Kd.R_slice HO793.out; subst eo19) | ((with_reducible refine gate_callee (f := 48) rfl ?_); refine gL (some 11) Try.func48 #[.agg #[.slice A0_0 l0_0.length c0_0], .slice Ao19 y791.length co19] ?_; (with_reducible refine (impl_classesIn.calls k _ _ l0_0 _ _ y791 false _ ?side1 ?side2 ?side3 ?side4 A4.out).mono ?_); (case side1 => exact cq (Kd.C_below HR0_0.out HB.out)); (case side2 => exact HC0_0.out); (case side3 => exact cq (Kd.R_reads' HO793.out).2.2); (case side4 => exact (Kd.R_reads' HO793.out).2.1); rintro e w20 ⟨rfl, hb⟩; refine ⟨_, rfl, ?_⟩; replace HO793 := am (Kd.R_below (rq HO793.out) hb); replace BK790 := am (blk_below (g := gb790) (o := .cells #[.slice A0_0 l0_0.length c0_0] 32 (0, 0)) (kq BK790.out) hb); replace HB := am (below_step (Y46) hb); (try clear hb); (try clear hb2); (try clear hk); (try clear hi)))
  go_ret
  exact ⟨Y0, Y46⟩
end Go.Proofs.Ytbcjbcjpoddkoaa.P
end
