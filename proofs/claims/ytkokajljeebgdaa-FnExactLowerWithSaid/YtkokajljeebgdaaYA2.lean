/- One part of the proofs on this program: functions of the program as plain functions, that the code comes to them, and facts on them. -/
import Derived.Test.YtkokajljeebgdaaYA1
import Derived.Test.YtkokajljeebgdaaYAll1
import Derived.Test.YtkokajljeebgdaaYAll2
import Derived.Test.YtkokajljeebgdaaYAll3
import Derived.Test.YtkokajljeebgdaaYWAuto
section
namespace Go.Proofs.Ytkokajljeebgdaa.P
open Go.RowKit Go.Proofs.YtkokajljeebgdaaW.PrintWords Go.Proofs.YtkokajljeebgdaaW.PrintLast Go.Proofs.YtkokajljeebgdaaW.PrintMore
attribute [local go_sem] max2_int min2_int max_two min_two max_three min_three max_four min_four isSome_cell_setCell
set_option linter.unusedVariables false
set_option linter.unusedSimpArgs false
mutual
def spec_lowered.l0 : Nat → List (S52) → List (S52) → Int → Option ((List (S52)))
 | 0, _, _, _ => none
 | k + 1, x0, x3, x4 => if x4 < (x0.length : Int) then (if 0 ≤ x4 then (if ((rd_T52 x0 x4).f1) = 11 then (spec_lowered.j1 k x0 x3 x4 (((rd_T52 x0 x4).f3) == 1) ((rd_T52 x0 x4).f0) ((rd_T52 x0 x4).f1) ((rd_T52 x0 x4).f2) ((rd_T52 x0 x4).f3)) else (spec_lowered.j1 k x0 x3 x4 true ((rd_T52 x0 x4).f0) ((rd_T52 x0 x4).f1) ((rd_T52 x0 x4).f2) ((rd_T52 x0 x4).f3))) else (none)) else (some x3)
def spec_lowered.j1 : Nat → List (S52) → List (S52) → Int → Bool → Int → Int → Int → Int → Option ((List (S52)))
 | 0, _, _, _, _, _, _, _, _ => none
 | k + 1, x0, x3, x4, x23, x506000, x506001, x506002, x506003 => if x23 = true then (if x3.length < 4398046511104 then (spec_lowered.l0 k x0 (x3 ++ [(⟨x506000, x506001, x506002, x506003⟩ : S52)]) (wrap64 (x4 + 1))) else (none)) else ((spec_blockEnd.f k x0 x4).bind fun t509 => ((some (([(⟨x506000, 1, x506002, 0⟩ : S52), (⟨x506000, 7, 0, 0⟩ : S52)] : List (S52)) : List (S52))).bind fun y510 => (if x3.length + y510.length < 4398046511104 then ((some (x3 ++ y510 : List (S52))).bind fun y513 => (if 0 ≤ (wrap64 (x4 + 1)) then (if (wrap64 (x4 + 1)) ≤ t509 then (if t509 ≤ (x0.length : Int) then ((spec_lowered.f k ((x0.take (t509 : Int).toNat).drop ((wrap64 (x4 + 1)) : Int).toNat)).bind fun t520 => (if y513.length + t520.length < 4398046511104 then ((some (y513 ++ t520 : List (S52))).bind fun y523 => ((some (([(⟨x506000, 10, 0, 0⟩ : S52), (⟨wrap64 (x506000 + 1), 1, x506002, 0⟩ : S52)] : List (S52)) : List (S52))).bind fun y526 => (if y523.length + y526.length < 4398046511104 then (spec_lowered.l0 k x0 (y523 ++ y526) t509) else (none)))) else (none))) else (none)) else (none)) else (none))) else (none))))
def spec_lowered.f : Nat → List (S52) → Option ((List (S52)))
 | 0, _ => none
 | k + 1, l0 => spec_lowered.l0 k l0 (([] : List (S52))) 0
end
set_option maxHeartbeats 8000000 in
set_option maxRecDepth 100000 in
theorem spec_lowered.calls (k : Nat) : ∀ (A0 : Option Addr) (c0 : Nat) (l0 : List (S52)) (r : List (S52)) (w : World) (hr0 : Kd.C k52 w A0 l0.length l0) (hc0 : l0.length ≤ c0) (h : spec_lowered.f k l0 = some r),
  Calls Try.prog 57 #[.slice A0 l0.length c0] w fun e w' => ∃ v0_ : Value, e = .returned (v0_) ∧ Kd.R k52 52 w' w.heap.size (fun _ => True) v0_ r ∧ Below w.heap.size w w' := by
 induction k using Nat.strongRecOn with
 | _ k ih =>
 intro A0 c0 l0 r w hr0 hc0 h
 cases k with
 | zero => exact absurd h (by simp [spec_lowered.f])
 | succ k =>
 simp only [spec_lowered.f] at h
 have hu52 := Try.underlying52
 have HR0 := am hr0
 have HC0 := am hc0
 clear hr0 hc0
 have HB := am (Below.refl w.heap.size w)
 have H : (spec_lowered.l0 k l0 (([] : List (S52))) 0) = some r := h
 clear h
 obtain ⟨y501, hy501⟩ : ∃ y_ : List (S52), y_ = (([] : List (S52))) := ⟨_, rfl⟩
 replace H : (spec_lowered.l0 k l0 y501 0) = some r := by first | (rw [hy501]; with_reducible exact H) | (have H2_ := (Option.bind_some _ _).symm.trans H; rw [hy501]; with_reducible exact H2_) | (have H2_ := (Option.bind_some _ _).symm.trans H; with_reducible exact H2_) | with_reducible exact H | (rw [hy501]; exact H) | exact H
 have Ny501 := am hy501
 clear hy501
 have H' := am H
 clear H
 go_enter Try.func57, Try.ntmps57
 go_wp2_with (first | ((with_reducible refine gate_dst (N := 7) rfl ?_); refine Kd.R_lit k52 _ 52 ?hg (N := 7) ?hd (xs := ([] : List (S52))) (inner := []) (ok := fun _ => True) (okp := fun _ => True) ?hr ?hp (fun _ hk => hk) trivial (Below.refl _ _) (Nat.le_refl _) (by simp) ?_; (case hd => rfl); (case hg => rfl); (case hr => exact Y5); (case hp => exact (Reps.none _ _)); intro v502 w2 ho3 hb hg_ hnew_; clear hg_ hnew_; (first | rw [← Ny501.out] at ho3 | (simp only [Int.reduceToNat] at ho3; rw [← Ny501.out] at ho3)); have HO503 := am (Kd.R_lower ho3 (below_size (bq))); replace HB := am (below_step (bq) hb); clear hb ho3))
 go_loopg [3, 4] k (fun kq v3 v4 w' => ∃ (x3_1 : List (S52)) (x4_1 : Int), v4 = .int .i64 x4_1 ∧ Aside0 (spec_lowered.l0 kq l0 x3_1 x4_1 = some r) ∧ Aside0 (kq ≤ k) ∧ Aside0 (Kd.R k52 52 w' w.heap.size (fun _ => True) v3 x3_1) ∧ Aside0 (Below w.heap.size w w'))
 case atStart => exact ⟨(y501), (0), (sq), H', ⟨Nat.le_refl _⟩, ⟨rq HO503.out⟩, ⟨bq⟩⟩
 case round =>
  clear H'
  try clear p2
  obtain ⟨x3_1, x4_1, rfl, HA, HK1, HO_3, HB⟩ := hrel
  cases gk with
  | zero => exact absurd HA.out (by simp [spec_lowered.l0])
  | succ k1 =>
   have H := HA.out
   clear HA
   simp only [spec_lowered.l0] at H
   by_cases c4 : x4_1 < (l0.length : Int)
   ·rw [if_pos c4] at H
    have c4b0 : decide (x4_1 < (l0.length : Int)) = true := decide_eq_true c4
    clear c4
    by_cases c5 : 0 ≤ x4_1
    ·rw [if_pos c5] at H
     have c5b0 : decide (0 ≤ x4_1) = true := decide_eq_true c5
     clear c5
     have HC6 := am H
     clear H
     have p504 : 0 ≤ (x4_1 : Int) := of_decide_eq_true (uq)
     have q504 : x4_1 < (l0.length : Int) := of_decide_eq_true (uq)
     obtain ⟨ad504, e504, hx504_0, hx504_1, hx504_2, hx504_3⟩ := at_T52 HR0.out x4_1 p504 q504
     cases e504
     replace hx504_0 := cb HB.out hx504_0
     replace hx504_1 := cb HB.out hx504_1
     replace hx504_2 := cb HB.out hx504_2
     replace hx504_3 := cb HB.out hx504_3
     replace p504 := eq_true p504
     replace q504 := eq_true q504
     go_upto_region 5 with (first | ((with_reducible refine gate_dst (N := 5) rfl ?_); refine bE (N := 5) (cs := #[.int .i64 0, .int .i64 0, .int .i64 0, .int .i64 0]) (t := 52) ?_; intro gb505 hg w7 hbox hb; have BK505 := am (hbox); have GW505 := am ((Y1 : w.heap.size ≤ gb505)); have GE505 := am ((Y1 : w.heap.size ≤ gb505)); replace HO_3 := am (Kd.R_below (Kd.R_elderB (rq HO_3.out) gb505 (Nat.le_of_eq hg.symm)) hb); replace HB := am (below_step (bq) hb); clear hb hbox hg; have hcz8_0 := bc0 BK505.out; have hcz8_1 := bc1 BK505.out; have hcz8_2 := bc2 BK505.out; have hcz8_3 := bc3 BK505.out; have hfz8_0 := blk_frozen BK505.out 0; have hfz8_1 := blk_frozen BK505.out 1; have hfz8_2 := blk_frozen BK505.out 2; have hfz8_3 := blk_frozen BK505.out 3))
     (try simp only [Act.put, List.setIfInBounds_toArray, List.set_cons_zero, List.set_cons_succ])
     go_cut [23] (fun v23 wc => ∃ (kq : Nat) (x23_5 : Bool), v23 = .bool x23_5 ∧ Aside0 (spec_lowered.j1 kq l0 x3_1 x4_1 x23_5 ((rd_T52 l0 x4_1).f0) ((rd_T52 l0 x4_1).f1) ((rd_T52 l0 x4_1).f2) ((rd_T52 l0 x4_1).f3) = some r) ∧ Aside0 (kq ≤ k1) ∧ Aside0 (Kd.R k52 52 wc w.heap.size (fun k_ => k_ ≠ gb505) u3 x3_1) ∧ Aside0 (wc.heap[gb505]? = some (.cells #[.int .i64 ((rd_T52 l0 x4_1).f0), .int .i64 ((rd_T52 l0 x4_1).f1), .int .i64 ((rd_T52 l0 x4_1).f2), .int .i64 ((rd_T52 l0 x4_1).f3)] 52 (0, 0))) ∧ Aside0 (Below w.heap.size w wc))
     case first =>
      have H := HC6.out
      clear HC6
      by_cases c9 : ((rd_T52 l0 x4_1).f1) = 11
      ·rw [if_pos c9] at H
       have c9b0 : (((rd_T52 l0 x4_1).f1) == 11) = true := beq_iff_eq.mpr c9
       have c9b1 : (((rd_T52 l0 x4_1).f1) != 11) = false := bne_eq_false_iff_eq.mpr c9
       clear c9
       (first | rw [c9b0] | (simp only [i64_w, i32_w]; rw [c9b0]) | skip)
       have H' := am H
       clear H
       have hcz10_0 := bc0 BK505.out
       have hcz10_1 := bc1 BK505.out
       have hcz10_2 := bc2 BK505.out
       have hcz10_3 := bc3 BK505.out
       have hfz10_0 := blk_frozen BK505.out 0
       have hfz10_1 := blk_frozen BK505.out 1
       have hfz10_2 := blk_frozen BK505.out 2
       have hfz10_3 := blk_frozen BK505.out 3
       go_wp2
       go_meet
       case rel => exact ⟨_, ((((rd_T52 l0 x4_1).f3) == 1)), (sq), H', ⟨by have := HK1.out; first | omega | exact Nat.le_refl _⟩, ⟨by (with_reducible repeat (first | apply Kd.R_alloc | apply Kd.R_drewN | apply Kd.R_drew)); exact Kd.R_mono (Kd.R_far (p := ⟨gb505, 3, none⟩) (Kd.R_far (p := ⟨gb505, 2, none⟩) (Kd.R_far (p := ⟨gb505, 1, none⟩) (Kd.R_far (p := ⟨gb505, 0, none⟩) (Kd.R_mono HO_3.out (fun k_ hk => (⟨hk, hk.2⟩ : _ ∧ k_ ≠ gb505))) (fun _ hk => hk.2) (.int .i64 ((rd_T52 l0 x4_1).f0))) (fun _ hk => hk.2) (.int .i64 ((rd_T52 l0 x4_1).f1))) (fun _ hk => hk.2) (.int .i64 ((rd_T52 l0 x4_1).f2))) (fun _ hk => hk.2) (.int .i64 ((rd_T52 l0 x4_1).f3))) (fun _ hk => hk.1.2)⟩, ⟨by (with_reducible repeat (first | refine blk_drewN ?_ _ | refine blk_drew ?_ | refine blk_alloc ?_ _)); refine blk_put (cs := #[.int .i64 ((rd_T52 l0 x4_1).f0), .int .i64 ((rd_T52 l0 x4_1).f1), .int .i64 ((rd_T52 l0 x4_1).f2), .int .i64 0]) ?_ 3 _ rfl; (with_reducible repeat (first | refine blk_drewN ?_ _ | refine blk_drew ?_ | refine blk_alloc ?_ _)); refine blk_put (cs := #[.int .i64 ((rd_T52 l0 x4_1).f0), .int .i64 ((rd_T52 l0 x4_1).f1), .int .i64 0, .int .i64 0]) ?_ 2 _ rfl; (with_reducible repeat (first | refine blk_drewN ?_ _ | refine blk_drew ?_ | refine blk_alloc ?_ _)); refine blk_put (cs := #[.int .i64 ((rd_T52 l0 x4_1).f0), .int .i64 0, .int .i64 0, .int .i64 0]) ?_ 1 _ rfl; (with_reducible repeat (first | refine blk_drewN ?_ _ | refine blk_drew ?_ | refine blk_alloc ?_ _)); refine blk_put (cs := #[.int .i64 0, .int .i64 0, .int .i64 0, .int .i64 0]) ?_ 0 _ rfl; (with_reducible repeat (first | refine blk_drewN ?_ _ | refine blk_drew ?_ | refine blk_alloc ?_ _)); exact BK505.out⟩, ⟨Y26⟩⟩
      ·rw [if_neg c9] at H
       have c9b0 : (((rd_T52 l0 x4_1).f1) == 11) = false := beq_eq_false_iff_ne.mpr c9
       have c9b1 : (((rd_T52 l0 x4_1).f1) != 11) = true := bne_iff_ne.mpr c9
       (first | rw [c9b0] | (simp only [i64_w, i32_w]; rw [c9b0]) | skip)
       have H' := am H
       clear H
       have hcz11_0 := bc0 BK505.out
       have hcz11_1 := bc1 BK505.out
       have hcz11_2 := bc2 BK505.out
       have hcz11_3 := bc3 BK505.out
       have hfz11_0 := blk_frozen BK505.out 0
       have hfz11_1 := blk_frozen BK505.out 1
       have hfz11_2 := blk_frozen BK505.out 2
       have hfz11_3 := blk_frozen BK505.out 3
       go_wp2
       go_meet
       case rel => exact ⟨_, (true), (sq), H', ⟨by have := HK1.out; first | omega | exact Nat.le_refl _⟩, ⟨by (with_reducible repeat (first | apply Kd.R_alloc | apply Kd.R_drewN | apply Kd.R_drew)); exact Kd.R_mono (Kd.R_far (p := ⟨gb505, 3, none⟩) (Kd.R_far (p := ⟨gb505, 2, none⟩) (Kd.R_far (p := ⟨gb505, 1, none⟩) (Kd.R_far (p := ⟨gb505, 0, none⟩) (Kd.R_mono HO_3.out (fun k_ hk => (⟨hk, hk.2⟩ : _ ∧ k_ ≠ gb505))) (fun _ hk => hk.2) (.int .i64 ((rd_T52 l0 x4_1).f0))) (fun _ hk => hk.2) (.int .i64 ((rd_T52 l0 x4_1).f1))) (fun _ hk => hk.2) (.int .i64 ((rd_T52 l0 x4_1).f2))) (fun _ hk => hk.2) (.int .i64 ((rd_T52 l0 x4_1).f3))) (fun _ hk => hk.1.2)⟩, ⟨by (with_reducible repeat (first | refine blk_drewN ?_ _ | refine blk_drew ?_ | refine blk_alloc ?_ _)); refine blk_put (cs := #[.int .i64 ((rd_T52 l0 x4_1).f0), .int .i64 ((rd_T52 l0 x4_1).f1), .int .i64 ((rd_T52 l0 x4_1).f2), .int .i64 0]) ?_ 3 _ rfl; (with_reducible repeat (first | refine blk_drewN ?_ _ | refine blk_drew ?_ | refine blk_alloc ?_ _)); refine blk_put (cs := #[.int .i64 ((rd_T52 l0 x4_1).f0), .int .i64 ((rd_T52 l0 x4_1).f1), .int .i64 0, .int .i64 0]) ?_ 2 _ rfl; (with_reducible repeat (first | refine blk_drewN ?_ _ | refine blk_drew ?_ | refine blk_alloc ?_ _)); refine blk_put (cs := #[.int .i64 ((rd_T52 l0 x4_1).f0), .int .i64 0, .int .i64 0, .int .i64 0]) ?_ 1 _ rfl; (with_reducible repeat (first | refine blk_drewN ?_ _ | refine blk_drew ?_ | refine blk_alloc ?_ _)); refine blk_put (cs := #[.int .i64 0, .int .i64 0, .int .i64 0, .int .i64 0]) ?_ 0 _ rfl; (with_reducible repeat (first | refine blk_drewN ?_ _ | refine blk_drew ?_ | refine blk_alloc ?_ _)); exact BK505.out⟩, ⟨Y26⟩⟩
     case rest =>
      clear HC6
      try clear p2
      try clear c4
      try clear c4b0
      try clear c5
      try clear c5b0
      try clear p5
      try clear q5
      try clear hx5
      try clear c9
      try clear c9b0
      try clear c9b1
      try clear hcz10_0
      try clear hcz10_1
      try clear hcz10_2
      try clear hcz10_3
      try clear hcz11_0
      try clear hcz11_1
      try clear hcz11_2
      try clear hcz11_3
      try clear hcz8_0
      try clear hcz8_1
      try clear hcz8_2
      try clear hcz8_3
      try clear hfz10_0
      try clear hfz10_1
      try clear hfz10_2
      try clear hfz10_3
      try clear hfz11_0
      try clear hfz11_1
      try clear hfz11_2
      try clear hfz11_3
      try clear hfz8_0
      try clear hfz8_1
      try clear hfz8_2
      try clear hfz8_3
      try clear hx504_0
      try clear hx504_1
      try clear hx504_2
      try clear hx504_3
      try clear p2
      try clear p504
      try clear q504
      obtain ⟨kq, x23_5, rfl, HA, HJ5, HO_3, BK505, HB⟩ := hcut
      cases kq with
      | zero => exact absurd HA.out (by simp [spec_lowered.j1])
      | succ kj5 =>
       have H := HA.out
       clear HA
       simp only [spec_lowered.j1] at H
       by_cases c12 : x23_5 = true
       ·subst c12
        have H1 : (if x3_1.length < 4398046511104 then (spec_lowered.l0 kj5 l0 (x3_1 ++ [(⟨((rd_T52 l0 x4_1).f0), ((rd_T52 l0 x4_1).f1), ((rd_T52 l0 x4_1).f2), ((rd_T52 l0 x4_1).f3)⟩ : S52)]) (wrap64 (x4_1 + 1))) else (none)) = some r := by rw [if_pos rfl] at H; exact H
        clear H
        have H := H1
        clear H1
        by_cases c13 : x3_1.length < 4398046511104
        ·rw [if_pos c13] at H
         have LMc13 := am c13
         clear c13
         obtain ⟨y506, hy506⟩ : ∃ y_ : List (S52), y_ = (x3_1 ++ [(⟨((rd_T52 l0 x4_1).f0), ((rd_T52 l0 x4_1).f1), ((rd_T52 l0 x4_1).f2), ((rd_T52 l0 x4_1).f3)⟩ : S52)]) := ⟨_, rfl⟩
         replace H : (spec_lowered.l0 kj5 l0 y506 (wrap64 (x4_1 + 1))) = some r := by first | (rw [hy506]; with_reducible exact H) | (have H2_ := (Option.bind_some _ _).symm.trans H; rw [hy506]; with_reducible exact H2_) | (have H2_ := (Option.bind_some _ _).symm.trans H; with_reducible exact H2_) | with_reducible exact H | (rw [hy506]; exact H) | exact H
         have Ny506 := am hy506
         clear hy506
         have H' := am H
         clear H
         have hcz14_0 := bc0 BK505.out
         have hcz14_1 := bc1 BK505.out
         have hcz14_2 := bc2 BK505.out
         have hcz14_3 := bc3 BK505.out
         have hfz14_0 := blk_frozen BK505.out 0
         have hfz14_1 := blk_frozen BK505.out 1
         have hfz14_2 := blk_frozen BK505.out 2
         have hfz14_3 := blk_frozen BK505.out 3
         go_wp2_with (first | ((with_reducible refine gate_builtin (b := .append) (xs := #[.tmp 24, .tmp 26]) rfl ?_); at_builtin; refine Kd.R_append k52 (w0 := w) w.heap.size rfl (.tmp 24) (.tmp 26) 34 52 (.agg #[(.int .i64 0), (.int .i64 0), (.int .i64 0), (.int .i64 0)]) 32 rfl Try.underlying34 info52 rfl (by decide) (by omega) u3 x3_1 (⟨((rd_T52 l0 x4_1).f0), ((rd_T52 l0 x4_1).f1), ((rd_T52 l0 x4_1).f2), ((rd_T52 l0 x4_1).f3)⟩ : S52) [.int .i64 ((rd_T52 l0 x4_1).f0), .int .i64 ((rd_T52 l0 x4_1).f1), .int .i64 ((rd_T52 l0 x4_1).f2), .int .i64 ((rd_T52 l0 x4_1).f3)] (fun k_ => k_ ≠ gb505) (fun _ => False) rfl rfl ?aP (fun _ hk => hk.elim) ?aF ?aO ?aB ?aS ?aL ?_; (case aP => exact k52_mkM _ _ _ (⟨((rd_T52 l0 x4_1).f0), ((rd_T52 l0 x4_1).f1), ((rd_T52 l0 x4_1).f2), ((rd_T52 l0 x4_1).f3)⟩ : S52)); (case aB => exact (Y26)); (case aF => exact (fun k_ hk => Kd.freshB (g := gb505) (o := .cells #[.int .i64 ((rd_T52 l0 x4_1).f0), .int .i64 ((rd_T52 l0 x4_1).f1), .int .i64 ((rd_T52 l0 x4_1).f2), .int .i64 ((rd_T52 l0 x4_1).f3)] 52 (0, 0)) (kq BK505.out) k_ hk)); (case aO => exact (rq HO_3.out)); (case aS => exact (below_size (Y26))); (case aL => have := LMc13.out; omega); intro v507 w15 ho hb hg hat; rw [← Ny506.out] at ho; have n0_ := am (blk_grown (g := gb505) (o := .cells #[.int .i64 ((rd_T52 l0 x4_1).f0), .int .i64 ((rd_T52 l0 x4_1).f1), .int .i64 ((rd_T52 l0 x4_1).f2), .int .i64 ((rd_T52 l0 x4_1).f3)] 52 (0, 0)) (kq BK505.out) hg (Kd.R_away HO_3.out (fun _ hk => hk))); have n1_ := am (hb); have n2_ := am (ho); clear BK505 HB HO_3; have BK505 := n0_; have HB := n1_; have HO508 := n2_; clear n0_ n1_ n2_ ho hb hg hat))
         go_roundg kj5
         case measure => have := HK1.out; have := HJ5.out; omega
         case rel => exact ⟨(y506), (wrap64 (x4_1 + 1)), (sq), H', ⟨by have := HK1.out; have := HJ5.out; omega⟩, ⟨by (with_reducible repeat (first | apply Kd.R_alloc | apply Kd.R_drewN | apply Kd.R_drew)); exact Kd.R_mono HO508.out (fun _ hk => trivial)⟩, ⟨Y26⟩⟩
        ·rw [if_neg c13] at H
         exact absurd H (by simp)
       ·replace c12 := Bool.eq_false_iff.mpr c12
        subst c12
        have H1 : ((spec_blockEnd.f kj5 l0 x4_1).bind fun t509 => ((some (([(⟨((rd_T52 l0 x4_1).f0), 1, ((rd_T52 l0 x4_1).f2), 0⟩ : S52), (⟨((rd_T52 l0 x4_1).f0), 7, 0, 0⟩ : S52)] : List (S52)) : List (S52))).bind fun y510 => (if x3_1.length + y510.length < 4398046511104 then ((some (x3_1 ++ y510 : List (S52))).bind fun y513 => (if 0 ≤ (wrap64 (x4_1 + 1)) then (if (wrap64 (x4_1 + 1)) ≤ t509 then (if t509 ≤ (l0.length : Int) then ((spec_lowered.f kj5 ((l0.take (t509 : Int).toNat).drop ((wrap64 (x4_1 + 1)) : Int).toNat)).bind fun t520 => (if y513.length + t520.length < 4398046511104 then ((some (y513 ++ t520 : List (S52))).bind fun y523 => ((some (([(⟨((rd_T52 l0 x4_1).f0), 10, 0, 0⟩ : S52), (⟨wrap64 (((rd_T52 l0 x4_1).f0) + 1), 1, ((rd_T52 l0 x4_1).f2), 0⟩ : S52)] : List (S52)) : List (S52))).bind fun y526 => (if y523.length + y526.length < 4398046511104 then (spec_lowered.l0 kj5 l0 (y523 ++ y526) t509) else (none)))) else (none))) else (none)) else (none)) else (none))) else (none)))) = some r := by rw [if_neg (show ¬ (false = true) by decide)] at H; exact H
        clear H
        have H := H1
        clear H1
        replace H := Option.bind_eq_some_iff.mp H
        obtain ⟨t509, A160, H⟩ := H
        replace H : ((some (([(⟨((rd_T52 l0 x4_1).f0), 1, ((rd_T52 l0 x4_1).f2), 0⟩ : S52), (⟨((rd_T52 l0 x4_1).f0), 7, 0, 0⟩ : S52)] : List (S52)) : List (S52))).bind fun y510 => (if x3_1.length + y510.length < 4398046511104 then ((some (x3_1 ++ y510 : List (S52))).bind fun y513 => (if 0 ≤ (wrap64 (x4_1 + 1)) then (if (wrap64 (x4_1 + 1)) ≤ t509 then (if t509 ≤ (l0.length : Int) then ((spec_lowered.f kj5 ((l0.take (t509 : Int).toNat).drop ((wrap64 (x4_1 + 1)) : Int).toNat)).bind fun t520 => (if y513.length + t520.length < 4398046511104 then ((some (y513 ++ t520 : List (S52))).bind fun y523 => ((some (([(⟨((rd_T52 l0 x4_1).f0), 10, 0, 0⟩ : S52), (⟨wrap64 (((rd_T52 l0 x4_1).f0) + 1), 1, ((rd_T52 l0 x4_1).f2), 0⟩ : S52)] : List (S52)) : List (S52))).bind fun y526 => (if y523.length + y526.length < 4398046511104 then (spec_lowered.l0 kj5 l0 (y523 ++ y526) t509) else (none)))) else (none))) else (none)) else (none)) else (none))) else (none))) = some r := H
        have A16 := am A160
        clear A160
        obtain ⟨y510, hy510⟩ : ∃ y_ : List (S52), y_ = (([(⟨((rd_T52 l0 x4_1).f0), 1, ((rd_T52 l0 x4_1).f2), 0⟩ : S52), (⟨((rd_T52 l0 x4_1).f0), 7, 0, 0⟩ : S52)] : List (S52))) := ⟨_, rfl⟩
        replace H : (if x3_1.length + y510.length < 4398046511104 then ((some (x3_1 ++ y510 : List (S52))).bind fun y513 => (if 0 ≤ (wrap64 (x4_1 + 1)) then (if (wrap64 (x4_1 + 1)) ≤ t509 then (if t509 ≤ (l0.length : Int) then ((spec_lowered.f kj5 ((l0.take (t509 : Int).toNat).drop ((wrap64 (x4_1 + 1)) : Int).toNat)).bind fun t520 => (if y513.length + t520.length < 4398046511104 then ((some (y513 ++ t520 : List (S52))).bind fun y523 => ((some (([(⟨((rd_T52 l0 x4_1).f0), 10, 0, 0⟩ : S52), (⟨wrap64 (((rd_T52 l0 x4_1).f0) + 1), 1, ((rd_T52 l0 x4_1).f2), 0⟩ : S52)] : List (S52)) : List (S52))).bind fun y526 => (if y523.length + y526.length < 4398046511104 then (spec_lowered.l0 kj5 l0 (y523 ++ y526) t509) else (none)))) else (none))) else (none)) else (none)) else (none))) else (none)) = some r := by first | (rw [hy510]; with_reducible exact H) | (have H2_ := (Option.bind_some _ _).symm.trans H; rw [hy510]; with_reducible exact H2_) | (have H2_ := (Option.bind_some _ _).symm.trans H; with_reducible exact H2_) | with_reducible exact H | (rw [hy510]; exact H) | exact H
        have Ny510 := am hy510
        clear hy510
        by_cases c17 : x3_1.length + y510.length < 4398046511104
        ·rw [if_pos c17] at H
         have LMc17 := am c17
         clear c17
         obtain ⟨y513, hy513⟩ : ∃ y_ : List (S52), y_ = (x3_1 ++ y510) := ⟨_, rfl⟩
         replace H : (if 0 ≤ (wrap64 (x4_1 + 1)) then (if (wrap64 (x4_1 + 1)) ≤ t509 then (if t509 ≤ (l0.length : Int) then ((spec_lowered.f kj5 ((l0.take (t509 : Int).toNat).drop ((wrap64 (x4_1 + 1)) : Int).toNat)).bind fun t520 => (if y513.length + t520.length < 4398046511104 then ((some (y513 ++ t520 : List (S52))).bind fun y523 => ((some (([(⟨((rd_T52 l0 x4_1).f0), 10, 0, 0⟩ : S52), (⟨wrap64 (((rd_T52 l0 x4_1).f0) + 1), 1, ((rd_T52 l0 x4_1).f2), 0⟩ : S52)] : List (S52)) : List (S52))).bind fun y526 => (if y523.length + y526.length < 4398046511104 then (spec_lowered.l0 kj5 l0 (y523 ++ y526) t509) else (none)))) else (none))) else (none)) else (none)) else (none)) = some r := by first | (rw [hy513]; with_reducible exact H) | (have H2_ := (Option.bind_some _ _).symm.trans H; rw [hy513]; with_reducible exact H2_) | (have H2_ := (Option.bind_some _ _).symm.trans H; with_reducible exact H2_) | with_reducible exact H | (rw [hy513]; exact H) | exact H
         have Ny513 := am hy513
         clear hy513
         obtain ⟨ji18, hji18⟩ : ∃ j_ : Int, (wrap64 (x4_1 + 1)) = j_ := ⟨_, rfl⟩
         replace H : (if 0 ≤ (ji18) then (if (ji18) ≤ t509 then (if t509 ≤ (l0.length : Int) then ((spec_lowered.f kj5 ((l0.take (t509 : Int).toNat).drop ((ji18) : Int).toNat)).bind fun t520 => (if y513.length + t520.length < 4398046511104 then ((some (y513 ++ t520 : List (S52))).bind fun y523 => ((some (([(⟨((rd_T52 l0 x4_1).f0), 10, 0, 0⟩ : S52), (⟨wrap64 (((rd_T52 l0 x4_1).f0) + 1), 1, ((rd_T52 l0 x4_1).f2), 0⟩ : S52)] : List (S52)) : List (S52))).bind fun y526 => (if y523.length + y526.length < 4398046511104 then (spec_lowered.l0 kj5 l0 (y523 ++ y526) t509) else (none)))) else (none))) else (none)) else (none)) else (none)) = some r := by first | (rw [hji18] at H; exact H) | (simp only [hji18] at H ⊢; exact H)
         (try rw [hji18] at A16)
         have hji18w : (IntKind.i64.wrap (x4_1 + 1)) = ji18 := (i64_w _).trans hji18
         by_cases c19 : 0 ≤ (ji18)
         ·rw [if_pos c19] at H
          have c19b0 := eq_true c19
          have c19b1 : decide (0 ≤ (ji18)) = true := decide_eq_true c19
          clear c19
          by_cases c20 : (ji18) ≤ t509
          ·rw [if_pos c20] at H
           have c20b0 := eq_true c20
           have c20b1 : decide ((ji18) ≤ t509) = true := decide_eq_true c20
           clear c20
           by_cases c21 : t509 ≤ (l0.length : Int)
           ·rw [if_pos c21] at H
            have c21b0 := eq_true c21
            have c21b1 : decide (t509 ≤ (l0.length : Int)) = true := decide_eq_true c21
            clear c21
            obtain ⟨y516, hy516⟩ : ∃ y_ : List (S52), y_ = ((l0.take (t509 : Int).toNat).drop ((ji18) : Int).toNat) := ⟨_, rfl⟩
            replace H : ((spec_lowered.f kj5 y516).bind fun t520 => (if y513.length + t520.length < 4398046511104 then ((some (y513 ++ t520 : List (S52))).bind fun y523 => ((some (([(⟨((rd_T52 l0 x4_1).f0), 10, 0, 0⟩ : S52), (⟨wrap64 (((rd_T52 l0 x4_1).f0) + 1), 1, ((rd_T52 l0 x4_1).f2), 0⟩ : S52)] : List (S52)) : List (S52))).bind fun y526 => (if y523.length + y526.length < 4398046511104 then (spec_lowered.l0 kj5 l0 (y523 ++ y526) t509) else (none)))) else (none))) = some r := by first | (rw [hy516]; with_reducible exact H) | (have H2_ := (Option.bind_some _ _).symm.trans H; rw [hy516]; with_reducible exact H2_) | (have H2_ := (Option.bind_some _ _).symm.trans H; with_reducible exact H2_) | with_reducible exact H | (rw [hy516]; exact H) | exact H
            have Ny516 := am hy516
            clear hy516
            replace H := Option.bind_eq_some_iff.mp H
            obtain ⟨t520, A220, H⟩ := H
            replace H : (if y513.length + t520.length < 4398046511104 then ((some (y513 ++ t520 : List (S52))).bind fun y523 => ((some (([(⟨((rd_T52 l0 x4_1).f0), 10, 0, 0⟩ : S52), (⟨wrap64 (((rd_T52 l0 x4_1).f0) + 1), 1, ((rd_T52 l0 x4_1).f2), 0⟩ : S52)] : List (S52)) : List (S52))).bind fun y526 => (if y523.length + y526.length < 4398046511104 then (spec_lowered.l0 kj5 l0 (y523 ++ y526) t509) else (none)))) else (none)) = some r := H
            have A22 := am A220
            clear A220
            by_cases c23 : y513.length + t520.length < 4398046511104
            ·rw [if_pos c23] at H
             have LMc23 := am c23
             clear c23
             obtain ⟨y523, hy523⟩ : ∃ y_ : List (S52), y_ = (y513 ++ t520) := ⟨_, rfl⟩
             replace H : ((some (([(⟨((rd_T52 l0 x4_1).f0), 10, 0, 0⟩ : S52), (⟨wrap64 (((rd_T52 l0 x4_1).f0) + 1), 1, ((rd_T52 l0 x4_1).f2), 0⟩ : S52)] : List (S52)) : List (S52))).bind fun y526 => (if y523.length + y526.length < 4398046511104 then (spec_lowered.l0 kj5 l0 (y523 ++ y526) t509) else (none))) = some r := by first | (rw [hy523]; with_reducible exact H) | (have H2_ := (Option.bind_some _ _).symm.trans H; rw [hy523]; with_reducible exact H2_) | (have H2_ := (Option.bind_some _ _).symm.trans H; with_reducible exact H2_) | with_reducible exact H | (rw [hy523]; exact H) | exact H
             have Ny523 := am hy523
             clear hy523
             obtain ⟨y526, hy526⟩ : ∃ y_ : List (S52), y_ = (([(⟨((rd_T52 l0 x4_1).f0), 10, 0, 0⟩ : S52), (⟨wrap64 (((rd_T52 l0 x4_1).f0) + 1), 1, ((rd_T52 l0 x4_1).f2), 0⟩ : S52)] : List (S52))) := ⟨_, rfl⟩
             replace H : (if y523.length + y526.length < 4398046511104 then (spec_lowered.l0 kj5 l0 (y523 ++ y526) t509) else (none)) = some r := by first | (rw [hy526]; with_reducible exact H) | (have H2_ := (Option.bind_some _ _).symm.trans H; rw [hy526]; with_reducible exact H2_) | (have H2_ := (Option.bind_some _ _).symm.trans H; with_reducible exact H2_) | with_reducible exact H | (rw [hy526]; exact H) | exact H
             have Ny526 := am hy526
             clear hy526
             by_cases c24 : y523.length + y526.length < 4398046511104
             ·rw [if_pos c24] at H
              have LMc24 := am c24
              clear c24
              obtain ⟨y529, hy529⟩ : ∃ y_ : List (S52), y_ = (y523 ++ y526) := ⟨_, rfl⟩
              replace H : (spec_lowered.l0 kj5 l0 y529 t509) = some r := by first | (rw [hy529]; with_reducible exact H) | (have H2_ := (Option.bind_some _ _).symm.trans H; rw [hy529]; with_reducible exact H2_) | (have H2_ := (Option.bind_some _ _).symm.trans H; with_reducible exact H2_) | with_reducible exact H | (rw [hy529]; exact H) | exact H
              have Ny529 := am hy529
              clear hy529
              have H' := am H
              clear H
              go_wp2_with (first | ((with_reducible refine gate_callee (f := 87) rfl ?_); refine gL (some 32) Try.func87 #[.slice (some ad504) l0.length c0, .int .i64 x4_1] ?_; (with_reducible refine (spec_blockEnd.calls kj5 _ _ l0 x4_1 t509 _ ?side1 ?side2 A16.out).mono ?_); (case side1 => exact cq (Kd.C_below HR0.out HB.out)); (case side2 => exact HC0.out); rintro e w' ⟨rfl, ⟨nd, rfl⟩⟩; refine ⟨_, rfl, ?_⟩; have hcz25_0 := bc0 BK505.out; have hcz25_1 := bc1 BK505.out; have hcz25_2 := bc2 BK505.out; have hcz25_3 := bc3 BK505.out; have hfz25_0 := blk_frozen BK505.out 0; have hfz25_1 := blk_frozen BK505.out 1; have hfz25_2 := blk_frozen BK505.out 2; have hfz25_3 := blk_frozen BK505.out 3) | ((with_reducible refine gate_dst (N := 42) rfl ?_); refine Kd.R_lit k52 _ 52 ?hg (N := 42) ?hd (xs := ([(⟨((rd_T52 l0 x4_1).f0), 1, ((rd_T52 l0 x4_1).f2), 0⟩ : S52), (⟨((rd_T52 l0 x4_1).f0), 7, 0, 0⟩ : S52)] : List (S52))) (inner := [.int .i64 ((rd_T52 l0 x4_1).f0), .int .i64 1, .int .i64 ((rd_T52 l0 x4_1).f2), .int .i64 0, .int .i64 ((rd_T52 l0 x4_1).f0), .int .i64 7, .int .i64 0, .int .i64 0]) (ok := fun _ => True) (okp := fun _ => True) ?hr ?hp (fun _ hk => hk) trivial (Below.refl _ _) (Nat.le_refl _) (by simp) ?_; (case hd => rfl); (case hg => rfl); (case hr => exact Y5); (case hp => exact (Reps.c4 (show Kd.M k52 _ _ _ (⟨((rd_T52 l0 x4_1).f0), 1, ((rd_T52 l0 x4_1).f2), 0⟩ : S52) [.int .i64 ((rd_T52 l0 x4_1).f0), .int .i64 1, .int .i64 ((rd_T52 l0 x4_1).f2), .int .i64 0] from (k52_mkM _ _ _ (⟨((rd_T52 l0 x4_1).f0), 1, ((rd_T52 l0 x4_1).f2), 0⟩ : S52) )) (Reps.c4 (show Kd.M k52 _ _ _ (⟨((rd_T52 l0 x4_1).f0), 7, 0, 0⟩ : S52) [.int .i64 ((rd_T52 l0 x4_1).f0), .int .i64 7, .int .i64 0, .int .i64 0] from (k52_mkM _ _ _ (⟨((rd_T52 l0 x4_1).f0), 7, 0, 0⟩ : S52) )) (Reps.none _ _)))); intro v511 w26 ho27 hb hg_ hnew_; clear hg_ hnew_; (first | rw [← Ny510.out] at ho27 | (simp only [Int.reduceToNat] at ho27; rw [← Ny510.out] at ho27)); have HO512 := am (Kd.R_lower (Kd.R_newB (Kd.R_new' ho27 (Kd.R_lt (rq HO_3.out))) (g := gb505) (o := .cells #[.int .i64 ((rd_T52 l0 x4_1).f0), .int .i64 ((rd_T52 l0 x4_1).f1), .int .i64 ((rd_T52 l0 x4_1).f2), .int .i64 ((rd_T52 l0 x4_1).f3)] 52 (0, 0)) (kq BK505.out)) (below_size (Y26))); replace HO_3 := am (Kd.R_elder' (rq HO_3.out) (Kd.R_base ho27) hb); replace BK505 := am (blk_below (g := gb505) (o := .cells #[.int .i64 ((rd_T52 l0 x4_1).f0), .int .i64 ((rd_T52 l0 x4_1).f1), .int .i64 ((rd_T52 l0 x4_1).f2), .int .i64 ((rd_T52 l0 x4_1).f3)] 52 (0, 0)) (kq BK505.out) hb); replace HB := am (below_step (Y26) hb); clear hb ho27; obtain ⟨Ao29, co29, eo29⟩ := Kd.R_slice HO512.out; subst eo29) | ((with_reducible refine gate_builtin (b := .append) (xs := #[.tmp 33, .tmp 42]) rfl ?_); at_builtin; refine Kd.R_append_rows k52 (w0 := w) w.heap.size rfl (.tmp 33) (.tmp 42) 34 52 (.agg #[(.int .i64 0), (.int .i64 0), (.int .i64 0), (.int .i64 0)]) 32 rfl Try.underlying34 info52 rfl (by decide) (by omega) u3 x3_1 y510 _ _ _ (fun k_ => some k_ ≠ (.slice Ao29 y510.length co29 : Value).ownBlock ∧ k_ ≠ gb505) (fun _ => False) rfl rfl ?aO ?aR (fun _ _ h => h) (fun _ h => h.elim) ?aF ?aB ?aS ?aL ?_; (case aR => repeat (first | exact (Kd.R_reads' HO512.out).2.2 | (with_reducible refine Kd.C_alloc ?_ _) | (with_reducible refine Kd.C_drewN ?_ _) | (with_reducible refine Kd.C_drew ?_))); (case aB => exact (Y26)); (case aF => exact (fun k_ hk => ⟨Kd.fresh' (Kd.R_lt (rq HO512.out)) k_ hk, Kd.freshB (g := gb505) (o := .cells #[.int .i64 ((rd_T52 l0 x4_1).f0), .int .i64 ((rd_T52 l0 x4_1).f1), .int .i64 ((rd_T52 l0 x4_1).f2), .int .i64 ((rd_T52 l0 x4_1).f3)] 52 (0, 0)) (kq BK505.out) k_ hk⟩)); (case aO => exact (Y123)); (case aS => exact (below_size (Y26))); (case aL => have := LMc17.out; omega); intro v514 w28 ho hb hg hat; rw [← Ny513.out] at ho; have n0_ := am (blk_grown (g := gb505) (o := .cells #[.int .i64 ((rd_T52 l0 x4_1).f0), .int .i64 ((rd_T52 l0 x4_1).f1), .int .i64 ((rd_T52 l0 x4_1).f2), .int .i64 ((rd_T52 l0 x4_1).f3)] 52 (0, 0)) (kq BK505.out) hg (Kd.R_away HO_3.out (fun _ hk => hk.1))); have n1_ := am (Kd.R_after (ok := (fun k_ => k_ ≠ gb505)) (by (with_reducible repeat (first | apply Kd.R_alloc | apply Kd.R_drewN | apply Kd.R_drew)); exact Kd.R_mono HO512.out (fun _ hk => ⟨hk.2, hk.1.2⟩)) hg hat); have n2_ := am (hb); have n3_ := am (ho); clear BK505 HO512 HB HO_3; have BK505 := n0_; have HO512 := n1_; have HB := n2_; have HO515 := n3_; clear n0_ n1_ n2_ n3_ ho hb hg hat; have q30 : (t509 : Int) ≤ ((l0.length : Int) : Int) := of_decide_eq_true (uq); obtain ⟨i030, hi030, _, hsz30, _⟩ := info_parts info52; have hroom30 : l0.length ≤ c0 := HC0.out; have hC30 : Kd.C k52 _ (some ad504) l0.length l0 := HR0.out; have ql30 : ((ji18) : Int) ≤ (t509 : Int) := of_decide_eq_true (uq); have q030 : (0 : Int) ≤ ((ji18) : Int) := of_decide_eq_true (uq); have hcut30 := cut_mid (P := Try.prog) 34 52 .i64 .i64 Try.underlying34 hi030 4 hsz30 (some ad504) l0.length c0 (ji18) t509 q030 ql30 q30 hroom30; have hr30 := Kd.C_mid (lo := ((ji18) : Int).toNat) (hi := (t509 : Int).toNat) (c := c0) hC30 (by omega) (by omega) hroom30; obtain ⟨A30, hA30⟩ : ∃ A1, A1 = (if c0 = ((ji18) : Int).toNat then (some ad504) else ((some ad504) : Option Addr).map (·.add (((ji18) : Int).toNat * 4))) := ⟨_, rfl⟩; obtain ⟨c30, hc30⟩ : ∃ c1, c1 = c0 - ((ji18) : Int).toNat := ⟨_, rfl⟩; have hy30 : y516.length = (t509 : Int).toNat - ((ji18) : Int).toNat := (by rw [Ny516.out, List.length_drop, List.length_take] <;> omega); rw [show ((l0).take (t509 : Int).toNat).drop ((ji18) : Int).toNat = y516 from Ny516.out.symm] at hr30; replace hr30 : Kd.C k52 _ A30 y516.length y516 := (by rw [hA30]; exact hr30); rw [← hy30, ← hA30, ← hc30] at hcut30; have HR519 := am hr30; have HC519 := am (show y516.length ≤ c30 from by rw [hy30, hc30]; exact Nat.sub_le_sub_right (Nat.le_trans (by omega) hroom30) _); clear hr30 hC30 hroom30 hi030 hsz30 hc30; have KY30 := am hy30; have KA30 := am hA30; clear hy30 hA30; replace q30 := eq_true q30) | ((with_reducible refine gate_callee (f := 57) rfl ?_); refine gL (some 50) Try.func57 #[.slice A30 y516.length c30] ?_; (with_reducible refine (ih kj5 (by have := HK1.out; have := HJ5.out; omega) _ _ y516 t520 _ ?side1 ?side2 A22.out).mono ?_); (case side1 => exact cq (Kd.C_below HR519.out HB.out)); (case side2 => exact HC519.out); rintro e w31 ⟨v521, rfl, ho0, hb⟩; refine ⟨_, rfl, ?_⟩; have HO522 := am (Kd.R_lower (Kd.R_newB (Kd.R_new' (Kd.R_new' ho0 (Kd.R_lt (rq HO512.out))) (Kd.R_lt (rq HO515.out))) (g := gb505) (o := .cells #[.int .i64 ((rd_T52 l0 x4_1).f0), .int .i64 ((rd_T52 l0 x4_1).f1), .int .i64 ((rd_T52 l0 x4_1).f2), .int .i64 ((rd_T52 l0 x4_1).f3)] 52 (0, 0)) (kq BK505.out)) (below_size (Y26))); replace HO512 := am (Kd.R_elder' (rq HO512.out) (Kd.R_base ho0) hb); replace HO515 := am (Kd.R_elder' (rq HO515.out) (Kd.R_base ho0) hb); replace BK505 := am (blk_below (g := gb505) (o := .cells #[.int .i64 ((rd_T52 l0 x4_1).f0), .int .i64 ((rd_T52 l0 x4_1).f1), .int .i64 ((rd_T52 l0 x4_1).f2), .int .i64 ((rd_T52 l0 x4_1).f3)] 52 (0, 0)) (kq BK505.out) hb); replace HB := am (below_step (Y26) hb); (try clear hb); (try clear hb2); (try clear hk); (try clear hi); (try clear ho0); obtain ⟨Ao33, co33, eo33⟩ := Kd.R_slice HO522.out; subst eo33) | ((with_reducible refine gate_builtin (b := .append) (xs := #[.tmp 44, .tmp 50]) rfl ?_); at_builtin; refine Kd.R_append_rows k52 (w0 := w) w.heap.size rfl (.tmp 44) (.tmp 50) 34 52 (.agg #[(.int .i64 0), (.int .i64 0), (.int .i64 0), (.int .i64 0)]) 32 rfl Try.underlying34 info52 rfl (by decide) (by omega) v514 y513 t520 _ _ _ (fun k_ => some k_ ≠ (.slice Ao29 y510.length co29 : Value).ownBlock ∧ some k_ ≠ (.slice Ao33 t520.length co33 : Value).ownBlock ∧ k_ ≠ gb505) (fun _ => False) rfl rfl ?aO ?aR (fun _ _ h => h) (fun _ h => h.elim) ?aF ?aB ?aS ?aL ?_; (case aR => repeat (first | exact (Kd.R_reads' HO522.out).2.2 | (with_reducible refine Kd.C_alloc ?_ _) | (with_reducible refine Kd.C_drewN ?_ _) | (with_reducible refine Kd.C_drew ?_))); (case aB => exact (Y26)); (case aF => exact (fun k_ hk => ⟨Kd.fresh' (Kd.R_lt (rq HO512.out)) k_ hk, Kd.fresh' (Kd.R_lt (rq HO522.out)) k_ hk, Kd.freshB (g := gb505) (o := .cells #[.int .i64 ((rd_T52 l0 x4_1).f0), .int .i64 ((rd_T52 l0 x4_1).f1), .int .i64 ((rd_T52 l0 x4_1).f2), .int .i64 ((rd_T52 l0 x4_1).f3)] 52 (0, 0)) (kq BK505.out) k_ hk⟩)); (case aO => exact (by (with_reducible repeat (first | apply Kd.R_alloc | apply Kd.R_drewN | apply Kd.R_drew)); exact Kd.R_mono HO515.out (fun _ hk => ⟨hk.1.1, ⟨hk.2, hk.1.2⟩⟩))); (case aS => exact (below_size (Y26))); (case aL => have := LMc23.out; omega); intro v524 w32 ho hb hg hat; rw [← Ny523.out] at ho; have n0_ := am (blk_grown (g := gb505) (o := .cells #[.int .i64 ((rd_T52 l0 x4_1).f0), .int .i64 ((rd_T52 l0 x4_1).f1), .int .i64 ((rd_T52 l0 x4_1).f2), .int .i64 ((rd_T52 l0 x4_1).f3)] 52 (0, 0)) (kq BK505.out) hg (Kd.R_away HO515.out (fun _ hk => hk.1.2))); have n1_ := am (Kd.R_after (ok := (fun k_ => some k_ ≠ (.slice Ao33 t520.length co33 : Value).ownBlock ∧ k_ ≠ gb505)) (by (with_reducible repeat (first | apply Kd.R_alloc | apply Kd.R_drewN | apply Kd.R_drew)); exact Kd.R_mono HO512.out (fun _ hk => ⟨⟨hk.2, hk.1.1⟩, hk.1.2⟩)) hg hat); have n2_ := am (Kd.R_after (ok := (fun k_ => some k_ ≠ (.slice Ao29 y510.length co29 : Value).ownBlock ∧ k_ ≠ gb505)) (by (with_reducible repeat (first | apply Kd.R_alloc | apply Kd.R_drewN | apply Kd.R_drew)); exact Kd.R_mono HO522.out (fun _ hk => ⟨⟨hk.1.1.2, hk.2⟩, hk.1.2⟩)) hg hat); have n3_ := am (hb); have n4_ := am (ho); clear BK505 HO512 HO522 HB HO515; have BK505 := n0_; have HO512 := n1_; have HO522 := n2_; have HB := n3_; have HO525 := n4_; clear n0_ n1_ n2_ n3_ n4_ ho hb hg hat; have hcz34_0 := bc0 BK505.out; have hcz34_1 := bc1 BK505.out; have hcz34_2 := bc2 BK505.out; have hcz34_3 := bc3 BK505.out; have hfz34_0 := blk_frozen BK505.out 0; have hfz34_1 := blk_frozen BK505.out 1; have hfz34_2 := blk_frozen BK505.out 2; have hfz34_3 := blk_frozen BK505.out 3) | ((with_reducible refine gate_dst (N := 62) rfl ?_); refine Kd.R_lit k52 _ 52 ?hg (N := 62) ?hd (xs := ([(⟨((rd_T52 l0 x4_1).f0), 10, 0, 0⟩ : S52), (⟨wrap64 (((rd_T52 l0 x4_1).f0) + 1), 1, ((rd_T52 l0 x4_1).f2), 0⟩ : S52)] : List (S52))) (inner := [.int .i64 ((rd_T52 l0 x4_1).f0), .int .i64 10, .int .i64 0, .int .i64 0, .int .i64 (wrap64 (((rd_T52 l0 x4_1).f0) + 1)), .int .i64 1, .int .i64 ((rd_T52 l0 x4_1).f2), .int .i64 0]) (ok := fun _ => True) (okp := fun _ => True) ?hr ?hp (fun _ hk => hk) trivial (Below.refl _ _) (Nat.le_refl _) (by simp) ?_; (case hd => rfl); (case hg => rfl); (case hr => exact Y5); (case hp => exact (Reps.c4 (show Kd.M k52 _ _ _ (⟨((rd_T52 l0 x4_1).f0), 10, 0, 0⟩ : S52) [.int .i64 ((rd_T52 l0 x4_1).f0), .int .i64 10, .int .i64 0, .int .i64 0] from (k52_mkM _ _ _ (⟨((rd_T52 l0 x4_1).f0), 10, 0, 0⟩ : S52) )) (Reps.c4 (show Kd.M k52 _ _ _ (⟨wrap64 (((rd_T52 l0 x4_1).f0) + 1), 1, ((rd_T52 l0 x4_1).f2), 0⟩ : S52) [.int .i64 (wrap64 (((rd_T52 l0 x4_1).f0) + 1)), .int .i64 1, .int .i64 ((rd_T52 l0 x4_1).f2), .int .i64 0] from (k52_mkM _ _ _ (⟨wrap64 (((rd_T52 l0 x4_1).f0) + 1), 1, ((rd_T52 l0 x4_1).f2), 0⟩ : S52) )) (Reps.none _ _)))); intro v527 w35 ho36 hb hg_ hnew_; clear hg_ hnew_; (first | rw [← Ny526.out] at ho36 | (simp only [Int.reduceToNat] at ho36; rw [← Ny526.out] at ho36)); have HO528 := am (Kd.R_lower (Kd.R_newB (Kd.R_new' (Kd.R_new' (Kd.R_new' ho36 (Kd.R_lt (rq HO512.out))) (Kd.R_lt (rq HO522.out))) (Kd.R_lt (rq HO525.out))) (g := gb505) (o := .cells #[.int .i64 ((rd_T52 l0 x4_1).f0), .int .i64 ((rd_T52 l0 x4_1).f1), .int .i64 ((rd_T52 l0 x4_1).f2), .int .i64 ((rd_T52 l0 x4_1).f3)] 52 (0, 0)) (kq BK505.out)) (below_size (Y26))); replace HO512 := am (Kd.R_elder' (rq HO512.out) (Kd.R_base ho36) hb); replace HO522 := am (Kd.R_elder' (rq HO522.out) (Kd.R_base ho36) hb); replace HO525 := am (Kd.R_elder' (rq HO525.out) (Kd.R_base ho36) hb); replace BK505 := am (blk_below (g := gb505) (o := .cells #[.int .i64 ((rd_T52 l0 x4_1).f0), .int .i64 ((rd_T52 l0 x4_1).f1), .int .i64 ((rd_T52 l0 x4_1).f2), .int .i64 ((rd_T52 l0 x4_1).f3)] 52 (0, 0)) (kq BK505.out) hb); replace HB := am (below_step (Y26) hb); clear hb ho36; obtain ⟨Ao38, co38, eo38⟩ := Kd.R_slice HO528.out; subst eo38) | ((with_reducible refine gate_builtin (b := .append) (xs := #[.tmp 52, .tmp 62]) rfl ?_); at_builtin; refine Kd.R_append_rows k52 (w0 := w) w.heap.size rfl (.tmp 52) (.tmp 62) 34 52 (.agg #[(.int .i64 0), (.int .i64 0), (.int .i64 0), (.int .i64 0)]) 32 rfl Try.underlying34 info52 rfl (by decide) (by omega) v524 y523 y526 _ _ _ (fun k_ => some k_ ≠ (.slice Ao29 y510.length co29 : Value).ownBlock ∧ some k_ ≠ (.slice Ao33 t520.length co33 : Value).ownBlock ∧ some k_ ≠ (.slice Ao38 y526.length co38 : Value).ownBlock ∧ k_ ≠ gb505) (fun _ => False) rfl rfl ?aO ?aR (fun _ _ h => h) (fun _ h => h.elim) ?aF ?aB ?aS ?aL ?_; (case aR => repeat (first | exact (Kd.R_reads' HO528.out).2.2 | (with_reducible refine Kd.C_alloc ?_ _) | (with_reducible refine Kd.C_drewN ?_ _) | (with_reducible refine Kd.C_drew ?_))); (case aB => exact (Y26)); (case aF => exact (fun k_ hk => ⟨Kd.fresh' (Kd.R_lt (rq HO512.out)) k_ hk, Kd.fresh' (Kd.R_lt (rq HO522.out)) k_ hk, Kd.fresh' (Kd.R_lt (rq HO528.out)) k_ hk, Kd.freshB (g := gb505) (o := .cells #[.int .i64 ((rd_T52 l0 x4_1).f0), .int .i64 ((rd_T52 l0 x4_1).f1), .int .i64 ((rd_T52 l0 x4_1).f2), .int .i64 ((rd_T52 l0 x4_1).f3)] 52 (0, 0)) (kq BK505.out) k_ hk⟩)); (case aO => exact (by (with_reducible repeat (first | apply Kd.R_alloc | apply Kd.R_drewN | apply Kd.R_drew)); exact Kd.R_mono HO525.out (fun _ hk => ⟨hk.1.1, ⟨hk.1.2.1, ⟨hk.2, hk.1.2.2⟩⟩⟩))); (case aS => exact (below_size (Y26))); (case aL => have := LMc24.out; omega); intro v530 w37 ho hb hg hat; rw [← Ny529.out] at ho; have n0_ := am (blk_grown (g := gb505) (o := .cells #[.int .i64 ((rd_T52 l0 x4_1).f0), .int .i64 ((rd_T52 l0 x4_1).f1), .int .i64 ((rd_T52 l0 x4_1).f2), .int .i64 ((rd_T52 l0 x4_1).f3)] 52 (0, 0)) (kq BK505.out) hg (Kd.R_away HO525.out (fun _ hk => hk.1.2.2))); have n1_ := am (Kd.R_after (ok := (fun k_ => some k_ ≠ (.slice Ao33 t520.length co33 : Value).ownBlock ∧ some k_ ≠ (.slice Ao38 y526.length co38 : Value).ownBlock ∧ k_ ≠ gb505)) (by (with_reducible repeat (first | apply Kd.R_alloc | apply Kd.R_drewN | apply Kd.R_drew)); exact Kd.R_mono HO512.out (fun _ hk => ⟨⟨hk.1.1.1, ⟨hk.2, hk.1.1.2⟩⟩, hk.1.2⟩)) hg hat); have n2_ := am (Kd.R_after (ok := (fun k_ => some k_ ≠ (.slice Ao29 y510.length co29 : Value).ownBlock ∧ some k_ ≠ (.slice Ao38 y526.length co38 : Value).ownBlock ∧ k_ ≠ gb505)) (by (with_reducible repeat (first | apply Kd.R_alloc | apply Kd.R_drewN | apply Kd.R_drew)); exact Kd.R_mono HO522.out (fun _ hk => ⟨⟨hk.1.1.1, ⟨hk.2, hk.1.1.2⟩⟩, hk.1.2⟩)) hg hat); have n3_ := am (Kd.R_after (ok := (fun k_ => some k_ ≠ (.slice Ao29 y510.length co29 : Value).ownBlock ∧ some k_ ≠ (.slice Ao33 t520.length co33 : Value).ownBlock ∧ k_ ≠ gb505)) (by (with_reducible repeat (first | apply Kd.R_alloc | apply Kd.R_drewN | apply Kd.R_drew)); exact Kd.R_mono HO528.out (fun _ hk => ⟨⟨hk.1.1.1.2, ⟨hk.1.1.2, hk.2⟩⟩, hk.1.2⟩)) hg hat); have n4_ := am (hb); have n5_ := am (ho); clear BK505 HO512 HO522 HO528 HB HO525; have BK505 := n0_; have HO512 := n1_; have HO522 := n2_; have HO528 := n3_; have HB := n4_; have HO531 := n5_; clear n0_ n1_ n2_ n3_ n4_ n5_ ho hb hg hat))
              go_roundg kj5
              case measure => have := HK1.out; have := HJ5.out; omega
              case rel => exact ⟨(y529), (t509), (sq), H', ⟨by have := HK1.out; have := HJ5.out; omega⟩, ⟨by (with_reducible repeat (first | apply Kd.R_alloc | apply Kd.R_drewN | apply Kd.R_drew)); exact Kd.R_mono HO531.out (fun _ hk => trivial)⟩, ⟨Y26⟩⟩
             ·rw [if_neg c24] at H
              exact absurd H (by simp)
            ·rw [if_neg c23] at H
             exact absurd H (by simp)
           ·rw [if_neg c21] at H
            exact absurd H (by simp)
          ·rw [if_neg c20] at H
           exact absurd H (by simp)
         ·rw [if_neg c19] at H
          exact absurd H (by simp)
        ·rw [if_neg c17] at H
         exact absurd H (by simp)
    ·rw [if_neg c5] at H
     exact absurd H (by simp)
   ·rw [if_neg c4] at H
    have c4b0 : decide (x4_1 < (l0.length : Int)) = false := decide_eq_false c4
    clear c4
    obtain rfl := Option.some.inj H
    go_wp2
    go_ret
    exact ⟨_, Y0, rq HO_3.out, bq⟩
def spec_LowerWith.f (k : Nat) (l0_0 : List (S87)) (l1 : List (S52)) : Option ((List (S52)) × Bool) := (spec_validProgram.f k l0_0 l1).bind fun t533 => (if t533 = true then ((spec_lowered.f k l1).bind fun t534 => ((spec_checkedProgram.f k l0_0 t534).bind fun bt537 => (some (bt537.1, bt537.2)))) else (some (([] : List (S52)), false)))
def spec_LowerWith.T3 : Bool × List (List Nat × List Nat) := (true, [([], []), ([], []), ([1], [1]), ([0, 2, 2], [0, 2]), ([3], [3]), ([3], [3]), ([4, 3, 0, 1, 2, 3, 4, 5], [4]), ([5, 6, 0, 1, 2, 3, 4, 5, 6], [5])])
def spec_LowerWith.B3 : List Nat := [0, 0, 2, 7, 15, 15, 63, 127]
theorem spec_LowerWith.tab3 : rtab .any (opsOf Try.f22 3) = spec_LowerWith.T3 := by kernel_rfl
theorem spec_LowerWith.bits3 : waitsOk spec_LowerWith.T3.2 spec_LowerWith.B3 = true := by kernel_rfl
set_option maxHeartbeats 8000000 in
set_option maxRecDepth 100000 in
theorem spec_LowerWith.calls (k : Nat) (A0_0 : Option Addr) (c0_0 : Nat) (l0_0 : List (S87)) (A1 : Option Addr) (c1 : Nat) (l1 : List (S52)) (r1 : List (S52)) (r2 : Bool) (w : World) (hr0_0 : Kd.C k87 w A0_0 l0_0.length l0_0) (hc0_0 : l0_0.length ≤ c0_0) (hr1 : Kd.C k52 w A1 l1.length l1) (hc1 : l1.length ≤ c1) (h : spec_LowerWith.f k l0_0 l1 = some (r1, r2)) :
  Calls Try.prog 22 #[.agg #[.slice A0_0 l0_0.length c0_0], .slice A1 l1.length c1] w fun e w' => ∃ v0_ : Value, e = .returned (.tuple #[v0_, .bool r2]) ∧ Kd.R k52 52 w' w.heap.size (fun _ => True) v0_ r1 ∧ Below w.heap.size w w' := by
 have hu32 := Try.underlying32
 have HR0_0 := am hr0_0
 have HC0_0 := am hc0_0
 clear hr0_0 hc0_0
 have HR1 := am hr1
 have HC1 := am hc1
 clear hr1 hc1
 have HB := am (Below.refl w.heap.size w)
 have H : ((spec_validProgram.f k l0_0 l1).bind fun t533 => (if t533 = true then ((spec_lowered.f k l1).bind fun t534 => ((spec_checkedProgram.f k l0_0 t534).bind fun bt537 => (some (bt537.1, bt537.2)))) else (some (([] : List (S52)), false)))) = some (r1, r2) := h
 clear h
 replace H := Option.bind_eq_some_iff.mp H
 obtain ⟨t533, A30, H⟩ := H
 replace H : (if t533 = true then ((spec_lowered.f k l1).bind fun t534 => ((spec_checkedProgram.f k l0_0 t534).bind fun bt537 => (some (bt537.1, bt537.2)))) else (some (([] : List (S52)), false))) = some (r1, r2) := H
 have A3 := am A30
 clear A30
 by_cases c4 : t533 = true
 ·subst c4
  have H1 : ((spec_lowered.f k l1).bind fun t534 => ((spec_checkedProgram.f k l0_0 t534).bind fun bt537 => (some (bt537.1, bt537.2)))) = some (r1, r2) := by rw [if_pos rfl] at H; exact H
  clear H
  have H := H1
  clear H1
  replace H := Option.bind_eq_some_iff.mp H
  obtain ⟨t534, A50, H⟩ := H
  replace H : ((spec_checkedProgram.f k l0_0 t534).bind fun bt537 => (some (bt537.1, bt537.2))) = some (r1, r2) := H
  have A5 := am A50
  clear A50
  replace H := Option.bind_eq_some_iff.mp H
  obtain ⟨⟨t537, t540⟩, A60, H⟩ := H
  replace H : (some (t537, t540)) = some (r1, r2) := H
  have A6 := am A60
  clear A60
  simp only [Option.some.injEq, Prod.mk.injEq] at H
  obtain ⟨rfl, rfl⟩ := H
  go_enter Try.func22, Try.ntmps22
  try go_wp2_with (first | ((with_reducible refine gate_dst (N := 2) rfl ?_); refine bE (N := 2) (cs := #[.slice A0_0 l0_0.length c0_0]) (t := 32) ?_; intro gb532 hg w7 hbox hb; have BK532 := am (hbox); have GW532 := am ((Y1 : w.heap.size ≤ gb532)); have GE532 := am ((Y1 : w.heap.size ≤ gb532)); replace HB := am (below_step (bq) hb); clear hb hbox hg; have hcz8_0 := bc0 BK532.out; have hfz8_0 := blk_frozen BK532.out 0) | ((with_reducible refine gate_callee (f := 55) rfl ?_); refine gL (some 8) Try.func55 #[.agg #[.slice A0_0 l0_0.length c0_0], .slice A1 l1.length c1] ?_; (with_reducible refine (spec_validProgram.calls k _ _ l0_0 _ _ l1 true _ ?side1 ?side2 ?side3 ?side4 A3.out).mono ?_); (case side1 => exact cq (Kd.C_below HR0_0.out HB.out)); (case side2 => exact HC0_0.out); (case side3 => exact cq (Kd.C_below HR1.out HB.out)); (case side4 => exact HC1.out); rintro e w9 ⟨rfl, hb⟩; refine ⟨_, rfl, ?_⟩; replace BK532 := am (blk_below (g := gb532) (o := .cells #[.slice A0_0 l0_0.length c0_0] 32 (0, 0)) (kq BK532.out) hb); replace HB := am (below_step (Y58) hb); (try clear hb); (try clear hb2); (try clear hk); (try clear hi)))
  replace BK532 := am (blk_drew BK532.out)
  replace HB := am (below_drew1 HB.out)
  refine start_ (n := 8) (S := fun w' => w'.cell? ⟨gb532, 0, none⟩ = some (.slice A0_0 l0_0.length c0_0)) (ds := []) #[false, false, false, false, false, false, false, false] (by kernel_rfl) rfl rfl ((blk_cell BK532.out 0).trans rfl) (fun hHeld => ?_); refine with_tabW spec_LowerWith.tab3 spec_LowerWith.bits3 (fun HT_ HW_ => ?_)
  generalize w9.drew = w10 at BK532 HB hHeld ⊢
  refine pq (i := 1) (N := some 11) #[false, true, false, false, false, false, false, false] ?_
  refine take_ (i := 0) (N := some 10) (v := ?_) (a' := ?_) #[true, true, false, false, false, false, false, false] rfl rfl (take_ofW HT_.out HW_.out (by kernel_rfl)) (fun _ _ _ h => h) (Or.inl ⟨by rfl, ?_⟩) hHeld ?_ ?_
  rotate_left
  ·intro w' s0
   go_simp
   with_reducible rfl
  rotate_left
  ·exact sa
  refine one_ (i := 2) (N := some 12) #[true, true, true, false, false, false, false, false] rfl rfl (one_of HT_.out (by kernel_rfl)) (by decide) (fun K hK => ?_)
  refine goes_ Try.func57 (by kernel_rfl) rfl #[.slice A1 l1.length c1] (by rfl) rfl rfl (aq) ?_
  with_reducible refine (spec_lowered.calls k _ _ l1 t534 _ ?side1 ?side2 A5.out).mono ?_
  (case side1 => exact cq (Kd.C_below HR1.out HB.out))
  (case side2 => exact HC1.out)
  rintro e w11 ⟨v535, rfl, ho0, hb⟩
  refine ⟨_, rfl, ?_⟩
  have HO536 := am (Kd.R_lower ho0 (below_size (Y58)))
  replace BK532 := am (blk_below (g := gb532) (o := .cells #[.slice A0_0 l0_0.length c0_0] 32 (0, 0)) (kq BK532.out) hb)
  replace HB := am (below_step (Y58) hb)
  (try clear hb)
  (try clear hb2)
  (try clear hk)
  (try clear hi)
  (try clear ho0)
  obtain ⟨Ao12, co12, eo12⟩ := Kd.R_slice HO536.out
  (first | subst eo12 | (injection eo12 with f1_ f2_ f3_; have f4_ := f1_.symm; have f5_ := f3_.symm; clear f1_ f2_ f3_; subst f4_; subst f5_))
  refine hK.out _ _ ((blk_cell BK532.out 0).trans rfl) (fun hHeld => ?_)
  clear hK K
  refine norm_ (a' := ?_) ?_ ?_
  rotate_left
  ·show Act.put _ (some 12) _ = _
   simp only [Act.put, List.setIfInBounds_toArray, List.set_cons_zero, List.set_cons_succ, i64_w, i32_w]
   rfl
  refine one_ (i := 3) (N := some 13) #[true, true, true, true, false, false, false, false] rfl rfl (one_of HT_.out (by kernel_rfl)) (by decide) (fun K hK => ?_)
  refine goes_ Try.func56 (by kernel_rfl) rfl #[.agg #[.slice A0_0 l0_0.length c0_0], .slice Ao12 t534.length co12] (by rfl) rfl rfl (aq) ?_
  with_reducible refine (spec_checkedProgram.calls k _ _ l0_0 (fun k_ => some k_ = (.slice Ao12 t534.length co12 : Value).ownBlock) (.slice Ao12 t534.length co12) t534 t537 t540 w _ ?side1 ?side2 ?side3 ?side4 A6.out).mono ?_
  (case side1 => exact Y58)
  (case side2 => exact Kd.C_kept_came k87_heap HR0_0.out (Y58) (fun k_ hs_ => (fun e_ => Kd.R_base HO536.out k_ e_.symm) hs_))
  (case side3 => exact HC0_0.out)
  (case side4 => exact Kd.R_tight rfl HO536.out)
  rintro e w13 ⟨v538, rfl, ho0, hb, hkp⟩
  refine ⟨_, rfl, ?_⟩
  have n0_ := am (blk_kept (kq BK532.out) hkp (fun hs_ => (fun e_ => (Kd.R_ne HO536.out BK532.out (by decide)) e_) hs_))
  have n1_ := am (Kd.R_mono (ok' := fun k_ => True) ho0 (fun k_ hk_ => trivial))
  have n2_ := am (hb)
  clear BK532
  clear HB
  clear HO536
  have BK532 := n0_
  have HO539 := n1_
  have HB := n2_
  clear n0_ n1_ n2_
  (try clear hb)
  (try clear hkp)
  (try clear ho0)
  refine hK.out _ _ ((blk_cell BK532.out 0).trans rfl) (fun hHeld => ?_)
  clear hK K
  refine norm_ (a' := ?_) ?_ ?_
  rotate_left
  ·show Act.put _ (some 13) _ = _
   simp only [Act.put, List.setIfInBounds_toArray, List.set_cons_zero, List.set_cons_succ, i64_w, i32_w]
   rfl
  refine pq (i := 4) (N := some 14) #[true, true, true, true, true, false, false, false] ?_
  refine pq (i := 5) (N := some 15) #[true, true, true, true, true, true, false, false] ?_
  refine pq (i := 6) (N := some 4) #[true, true, true, true, true, true, true, false] ?_
  refine pq (i := 7) (N := some 5) #[true, true, true, true, true, true, true, true] ?_
  refine done_ (done_of HT_.out (by kernel_rfl)) ?_
  try go_wp2
  go_ret2
  exact ⟨_, Y0, rq HO539.out, Y58⟩
 ·replace c4 := Bool.eq_false_iff.mpr c4
  subst c4
  have H1 : (some (([] : List (S52)), false)) = some (r1, r2) := by rw [if_neg (show ¬ (false = true) by decide)] at H; exact H
  clear H
  have H := H1
  clear H1
  simp only [Option.some.injEq, Prod.mk.injEq] at H
  obtain ⟨rfl, rfl⟩ := H
  go_enter Try.func22, Try.ntmps22
  go_wp2_with (first | ((with_reducible refine gate_dst (N := 2) rfl ?_); refine bE (N := 2) (cs := #[.slice A0_0 l0_0.length c0_0]) (t := 32) ?_; intro gb532 hg w14 hbox hb; have BK532 := am (hbox); have GW532 := am ((Y1 : w.heap.size ≤ gb532)); have GE532 := am ((Y1 : w.heap.size ≤ gb532)); replace HB := am (below_step (bq) hb); clear hb hbox hg; have hcz15_0 := bc0 BK532.out; have hfz15_0 := blk_frozen BK532.out 0) | ((with_reducible refine gate_callee (f := 55) rfl ?_); refine gL (some 8) Try.func55 #[.agg #[.slice A0_0 l0_0.length c0_0], .slice A1 l1.length c1] ?_; (with_reducible refine (spec_validProgram.calls k _ _ l0_0 _ _ l1 false _ ?side1 ?side2 ?side3 ?side4 A3.out).mono ?_); (case side1 => exact cq (Kd.C_below HR0_0.out HB.out)); (case side2 => exact HC0_0.out); (case side3 => exact cq (Kd.C_below HR1.out HB.out)); (case side4 => exact HC1.out); rintro e w16 ⟨rfl, hb⟩; refine ⟨_, rfl, ?_⟩; replace BK532 := am (blk_below (g := gb532) (o := .cells #[.slice A0_0 l0_0.length c0_0] 32 (0, 0)) (kq BK532.out) hb); replace HB := am (below_step (Y58) hb); (try clear hb); (try clear hb2); (try clear hk); (try clear hi)))
  go_ret2
  exact ⟨_, Y0, Y55, Y58⟩
def impl_Line.f (l0 : List (S52)) : Option ((List (S52))) := some (l0)
set_option maxHeartbeats 8000000 in
set_option maxRecDepth 100000 in
theorem impl_Line.calls (P0_ : Nat → Prop) (u9000_ : Value) (l0 : List (S52)) (r : List (S52)) (w0 w : World) (hB : Below w0.heap.size w0 w) (ho0 : Kd.R k52 52 w w0.heap.size P0_ u9000_ l0) (h : impl_Line.f l0 = some r) :
  Calls Try.prog 88 #[u9000_] w fun e w' => ∃ v0_ : Value, e = .returned (v0_) ∧ Kd.R k52 52 w' w0.heap.size (fun k_ => (P0_ k_ ∨ w.heap.size ≤ k_)) v0_ r ∧ Below w0.heap.size w0 w' ∧ Kept w w' (fun k_ => P0_ k_) := by
 have HO0 := am (show Kd.R k52 52 w w0.heap.size (fun k_ => (P0_ k_ ∨ w.heap.size ≤ k_)) u9000_ l0 from Kd.R_mono ho0 (fun k_ hk => (.inl hk)))
 have HK := am (Kept.refl w (fun k_ => P0_ k_))
 have HW0 := am hB.size
 have HB := am hB
 clear hB
 have H : (some (l0)) = some r := h
 clear h
 obtain ⟨y541, hy541⟩ : ∃ y_ : List (S52), y_ = (l0) := ⟨_, rfl⟩
 replace H : (some y541) = some r := by first | (rw [hy541]; with_reducible exact H) | (have H2_ := (Option.bind_some _ _).symm.trans H; rw [hy541]; with_reducible exact H2_) | (have H2_ := (Option.bind_some _ _).symm.trans H; with_reducible exact H2_) | with_reducible exact H | (rw [hy541]; exact H) | exact H
 have Ny541 := am hy541
 clear hy541
 obtain rfl := Option.some.inj H
 obtain ⟨Ao2, co2, eo2⟩ := Kd.R_slice HO0.out
 subst eo2
 obtain ⟨i03, hi03, _, hsz3, _⟩ := info_parts info52
 have hy3 : y541.length = l0.length := (by rw [Ny541.out])
 have hcut3 := cut_clip (P := Try.prog) 34 52 Try.underlying34 hi03 Ao2 _ co2 _ (Kd.R_reads' HO0.out).2.1 hy3
 have hr3 := Kd.R_clip HO0.out Ny541.out
 clear hy3 hi03 hsz3 HO0
 have HO543 := am hr3
 clear hr3
 go_enter Try.func88, Try.ntmps88
 go_wp2
 go_ret
 exact ⟨_, Y0, rq HO543.out, bq, Y22⟩
def impl_programMade.f (k : Nat) (l0_0 : List (S87)) (l1 : List (S52)) : Option ((List (S52)) × Bool) := (impl_ValidProgram.f k l0_0 l1).bind fun t545 => (if t545 = true then ((impl_Line.f l1).bind fun t546 => (some (t546, true))) else (some (([] : List (S52)), false)))
set_option maxHeartbeats 8000000 in
set_option maxRecDepth 100000 in
theorem impl_programMade.calls (k : Nat) (A0_0 : Option Addr) (c0_0 : Nat) (l0_0 : List (S87)) (P1_ : Nat → Prop) (u9000_ : Value) (l1 : List (S52)) (r1 : List (S52)) (r2 : Bool) (w0 w : World) (hB : Below w0.heap.size w0 w) (hr0_0 : ∀ W_, Kept w W_ (fun k_ => P1_ k_) → Kd.C k87 W_ A0_0 l0_0.length l0_0) (hc0_0 : l0_0.length ≤ c0_0) (ho1 : Kd.R k52 52 w w0.heap.size P1_ u9000_ l1) (h : impl_programMade.f k l0_0 l1 = some (r1, r2)) :
  Calls Try.prog 58 #[.agg #[.slice A0_0 l0_0.length c0_0], u9000_] w fun e w' => ∃ v0_ : Value, e = .returned (.tuple #[v0_, .bool r2]) ∧ Kd.R k52 52 w' w0.heap.size (fun k_ => (P1_ k_ ∨ w.heap.size ≤ k_)) v0_ r1 ∧ Below w0.heap.size w0 w' ∧ Kept w w' (fun k_ => P1_ k_) := by
 have hu32 := Try.underlying32
 have HR0_0 := am hr0_0
 have HC0_0 := am hc0_0
 clear hr0_0 hc0_0
 have HO1 := am (show Kd.R k52 52 w w0.heap.size (fun k_ => (P1_ k_ ∨ w.heap.size ≤ k_)) u9000_ l1 from Kd.R_mono ho1 (fun k_ hk => (.inl hk)))
 have HK := am (Kept.refl w (fun k_ => P1_ k_))
 have HW0 := am hB.size
 have HB := am hB
 clear hB
 have H : ((impl_ValidProgram.f k l0_0 l1).bind fun t545 => (if t545 = true then ((impl_Line.f l1).bind fun t546 => (some (t546, true))) else (some (([] : List (S52)), false)))) = some (r1, r2) := h
 clear h
 replace H := Option.bind_eq_some_iff.mp H
 obtain ⟨t545, A30, H⟩ := H
 replace H : (if t545 = true then ((impl_Line.f l1).bind fun t546 => (some (t546, true))) else (some (([] : List (S52)), false))) = some (r1, r2) := H
 have A3 := am A30
 clear A30
 by_cases c4 : t545 = true
 ·subst c4
  have H1 : ((impl_Line.f l1).bind fun t546 => (some (t546, true))) = some (r1, r2) := by rw [if_pos rfl] at H; exact H
  clear H
  have H := H1
  clear H1
  replace H := Option.bind_eq_some_iff.mp H
  obtain ⟨t546, A50, H⟩ := H
  replace H : (some (t546, true)) = some (r1, r2) := H
  have A5 := am A50
  clear A50
  simp only [Option.some.injEq, Prod.mk.injEq] at H
  obtain ⟨rfl, rfl⟩ := H
  go_enter Try.func58, Try.ntmps58
  go_wp2_with (first | ((with_reducible refine gate_dst (N := 2) rfl ?_); refine bE (N := 2) (cs := #[.slice A0_0 l0_0.length c0_0]) (t := 32) ?_; intro gb544 hg w6 hbox hb; have BK544 := am (hbox); have GW544 := am ((Y96 : w.heap.size ≤ gb544)); have GE544 := am ((Y1 : w0.heap.size ≤ gb544)); replace HO1 := am (Kd.R_below (rq HO1.out) hb); replace HK := am (Kept.below (S := (fun k_ => P1_ k_)) (Y22) hb); replace HB := am (below_step (bq) hb); clear hb hbox hg; have hcz7_0 := bc0 BK544.out; have hfz7_0 := blk_frozen BK544.out 0; obtain ⟨Ao8, co8, eo8⟩ := Kd.R_slice HO1.out; subst eo8) | ((with_reducible refine gate_callee (f := 29) rfl ?_); refine gL (some 8) Try.func29 #[.agg #[.slice A0_0 l0_0.length c0_0], .slice Ao8 l1.length co8] ?_; (with_reducible refine (impl_ValidProgram.calls k _ _ l0_0 _ _ l1 true _ ?side1 ?side2 ?side3 ?side4 A3.out).mono ?_); (case side1 => exact Kd.C_kept_now HR0_0.out (Y71)); (case side2 => exact HC0_0.out); (case side3 => exact cq (Kd.R_reads' HO1.out).2.2); (case side4 => exact (Kd.R_reads' HO1.out).2.1); rintro e w9 ⟨rfl, hb⟩; refine ⟨_, rfl, ?_⟩; replace HO1 := am (Kd.R_below (rq HO1.out) hb); replace BK544 := am (blk_below (g := gb544) (o := .cells #[.slice A0_0 l0_0.length c0_0] 32 (0, 0)) (kq BK544.out) hb); replace HK := am (Kept.below (S := (fun k_ => P1_ k_)) (Y71) hb); replace HB := am (below_step (Y90) hb); (try clear hb); (try clear hb2); (try clear hk); (try clear hi)) | ((with_reducible refine gate_callee (f := 88) rfl ?_); refine gL (some 11) Try.func88 #[.slice Ao8 l1.length co8] ?_; (with_reducible refine (impl_Line.calls (fun k_ => some k_ = (.slice Ao8 l1.length co8 : Value).ownBlock) (.slice Ao8 l1.length co8) l1 t546 w0 _ ?side1 ?side2 A5.out).mono ?_); (case side1 => exact Y90); (case side2 => exact Kd.R_tight rfl HO1.out); rintro e w10 ⟨v547, rfl, ho0, hb, hkp⟩; refine ⟨_, rfl, ?_⟩; have n0_ := am (blk_kept (kq BK544.out) hkp (fun hs_ => (fun e_ => (Kd.R_ne HO1.out BK544.out (by decide)) e_) hs_)); have n1_ := am (Kd.R_mono (ok' := fun k_ => (P1_ k_ ∨ w.heap.size ≤ k_)) ho0 (fun k_ hk_ => Or.elim hk_ (fun hs_ => (HO1.out.1 k_ (hs_).symm)) (fun hn_ => (.inr (Nat.le_trans (by first | exact HK.out.1 | exact (show Kept w _ (fun k_ => P1_ k_) from by repeat (first | (with_reducible first | exact HK.out | apply Kept.alloc | apply Kept.drewN | apply Kept.drew | refine Kept.setCell ?_ (.inr GW544.out) _) | exact HK.out)).1) hn_))))); have n2_ := am (Kept.then_ (S := (fun k_ => P1_ k_)) (Y71) hkp (fun k_ hs_ => (fun e_ => (HO1.out.1 k_ e_.symm)) hs_)); have n3_ := am (hb); clear BK544 HK HB HO1; have BK544 := n0_; have HO548 := n1_; have HK := n2_; have HB := n3_; clear n0_ n1_ n2_ n3_; (try clear hb); (try clear hkp); (try clear ho0)))
  go_ret2
  exact ⟨_, Y0, rq HO548.out, Y90, Y71⟩
 ·replace c4 := Bool.eq_false_iff.mpr c4
  subst c4
  have H1 : (some (([] : List (S52)), false)) = some (r1, r2) := by rw [if_neg (show ¬ (false = true) by decide)] at H; exact H
  clear H
  have H := H1
  clear H1
  simp only [Option.some.injEq, Prod.mk.injEq] at H
  obtain ⟨rfl, rfl⟩ := H
  go_enter Try.func58, Try.ntmps58
  go_wp2_with (first | ((with_reducible refine gate_dst (N := 2) rfl ?_); refine bE (N := 2) (cs := #[.slice A0_0 l0_0.length c0_0]) (t := 32) ?_; intro gb544 hg w11 hbox hb; have BK544 := am (hbox); have GW544 := am ((Y96 : w.heap.size ≤ gb544)); have GE544 := am ((Y1 : w0.heap.size ≤ gb544)); replace HO1 := am (Kd.R_below (rq HO1.out) hb); replace HK := am (Kept.below (S := (fun k_ => P1_ k_)) (Y22) hb); replace HB := am (below_step (bq) hb); clear hb hbox hg; have hcz12_0 := bc0 BK544.out; have hfz12_0 := blk_frozen BK544.out 0; obtain ⟨Ao13, co13, eo13⟩ := Kd.R_slice HO1.out; subst eo13) | ((with_reducible refine gate_callee (f := 29) rfl ?_); refine gL (some 8) Try.func29 #[.agg #[.slice A0_0 l0_0.length c0_0], .slice Ao13 l1.length co13] ?_; (with_reducible refine (impl_ValidProgram.calls k _ _ l0_0 _ _ l1 false _ ?side1 ?side2 ?side3 ?side4 A3.out).mono ?_); (case side1 => exact Kd.C_kept_now HR0_0.out (Y71)); (case side2 => exact HC0_0.out); (case side3 => exact cq (Kd.R_reads' HO1.out).2.2); (case side4 => exact (Kd.R_reads' HO1.out).2.1); rintro e w14 ⟨rfl, hb⟩; refine ⟨_, rfl, ?_⟩; replace HO1 := am (Kd.R_below (rq HO1.out) hb); replace BK544 := am (blk_below (g := gb544) (o := .cells #[.slice A0_0 l0_0.length c0_0] 32 (0, 0)) (kq BK544.out) hb); replace HK := am (Kept.below (S := (fun k_ => P1_ k_)) (Y71) hb); replace HB := am (below_step (Y90) hb); (try clear hb); (try clear hb2); (try clear hk); (try clear hi)))
  go_ret2
  exact ⟨_, Y0, Y55, Y90, Y71⟩
end Go.Proofs.Ytkokajljeebgdaa.P
end
