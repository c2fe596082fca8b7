/- One part of the proofs on this program: functions of the program as plain functions, that the code comes to them, and facts on them. -/
import Derived.Test.YtkokajljeebgdaaYA2
import Derived.Test.YtkokajljeebgdaaYAll1
import Derived.Test.YtkokajljeebgdaaYAll2
import Derived.Test.YtkokajljeebgdaaYAll3
import Derived.Test.YtkokajljeebgdaaYWAuto
section
namespace Go.Proofs.Ytkokajljeebgdaa.P
open Go.RowKit Go.Proofs.YtkokajljeebgdaaW.PrintWords Go.Proofs.YtkokajljeebgdaaW.PrintLast Go.Proofs.YtkokajljeebgdaaW.PrintMore
attribute [local go_sem] max2_int min2_int max_two min_two max_three min_three max_four min_four isSome_cell_setCell
set_option linter.unusedVariables false
set_option linter.unusedSimpArgs false
mutual
def impl_lowered.l0 : Nat → List (S52) → List (S52) → Int → Option ((List (S52)))
 | 0, _, _, _ => none
 | k + 1, x0, x3, x4 => if x4 < (x0.length : Int) then (if 0 ≤ x4 then ((impl_endOf.f k x0 x4).bind fun t553 => (if 0 ≤ (wrap64 (x4 + 1)) then (if (wrap64 (x4 + 1)) ≤ t553 then (if t553 ≤ (x0.length : Int) then ((impl_lowered.f k ((x0.take (t553 : Int).toNat).drop ((wrap64 (x4 + 1)) : Int).toNat)).bind fun t559 => (if ((rd_T52 x0 x4).f1) = 11 then (if ((rd_T52 x0 x4).f3) = 0 then ((some (([(⟨(rd_T52 x0 x4).f0, 1, (rd_T52 x0 x4).f2, 0⟩ : S52), (⟨(rd_T52 x0 x4).f0, 7, 0, 0⟩ : S52)] : List (S52)) : List (S52))).bind fun y562 => (if x3.length + y562.length < 4398046511104 then ((some (x3 ++ y562 : List (S52))).bind fun y565 => (if y565.length + t559.length < 4398046511104 then ((some (y565 ++ t559 : List (S52))).bind fun y568 => ((some (([(⟨(rd_T52 x0 x4).f0, 10, 0, 0⟩ : S52), (⟨wrap64 (((rd_T52 x0 x4).f0) + 1), 1, (rd_T52 x0 x4).f2, 0⟩ : S52)] : List (S52)) : List (S52))).bind fun y571 => (if y568.length + y571.length < 4398046511104 then (impl_lowered.l0 k x0 (y568 ++ y571) t553) else (none)))) else (none))) else (none))) else (if x3.length < 4398046511104 then ((some (x3 ++ [(⟨(rd_T52 x0 x4).f0, (rd_T52 x0 x4).f1, (rd_T52 x0 x4).f2, (rd_T52 x0 x4).f3⟩ : S52)] : List (S52))).bind fun y577 => (if y577.length + t559.length < 4398046511104 then (impl_lowered.l0 k x0 (y577 ++ t559) t553) else (none))) else (none))) else (if x3.length < 4398046511104 then ((some (x3 ++ [(⟨(rd_T52 x0 x4).f0, (rd_T52 x0 x4).f1, (rd_T52 x0 x4).f2, (rd_T52 x0 x4).f3⟩ : S52)] : List (S52))).bind fun y583 => (if y583.length + t559.length < 4398046511104 then (impl_lowered.l0 k x0 (y583 ++ t559) t553) else (none))) else (none)))) else (none)) else (none)) else (none))) else (none)) else (some x3)
def impl_lowered.f : Nat → List (S52) → Option ((List (S52)))
 | 0, _ => none
 | k + 1, l0 => impl_lowered.l0 k l0 (([] : List (S52))) 0
end
def impl_lowered.T4 : Bool × List (List Nat × List Nat) := (true, [([], []), ([], []), ([0, 1], [0, 1]), ([2], [2]), ([], []), ([], []), ([4, 5], [4, 5]), ([], []), ([7, 3, 6, 0, 1, 2, 3, 7], [3, 7]), ([6, 8, 0, 1, 2, 3, 4, 5, 6, 7, 8], [6])])
def impl_lowered.B4 : List Nat := [0, 0, 3, 7, 0, 0, 48, 0, 255, 511]
theorem impl_lowered.tab4 : rtab .any (opsOf Try.f59 4) = impl_lowered.T4 := by kernel_rfl
theorem impl_lowered.bits4 : waitsOk impl_lowered.T4.2 impl_lowered.B4 = true := by kernel_rfl
set_option maxHeartbeats 8000000 in
set_option maxRecDepth 100000 in
theorem impl_lowered.calls (k : Nat) : ∀ (A0 : Option Addr) (c0 : Nat) (l0 : List (S52)) (r : List (S52)) (w : World) (hr0 : Kd.C k52 w A0 l0.length l0) (hc0 : l0.length ≤ c0) (h : impl_lowered.f k l0 = some r),
  Calls Try.prog 59 #[.slice A0 l0.length c0] w fun e w' => ∃ v0_ : Value, e = .returned (v0_) ∧ Kd.R k52 52 w' w.heap.size (fun _ => True) v0_ r ∧ Below w.heap.size w w' := by
 induction k using Nat.strongRecOn with
 | _ k ih =>
 intro A0 c0 l0 r w hr0 hc0 h
 cases k with
 | zero => exact absurd h (by simp [impl_lowered.f])
 | succ k =>
 simp only [impl_lowered.f] at h
 have hu52 := Try.underlying52
 have HR0 := am hr0
 have HC0 := am hc0
 clear hr0 hc0
 have HB := am (Below.refl w.heap.size w)
 have H : (impl_lowered.l0 k l0 (([] : List (S52))) 0) = some r := h
 clear h
 obtain ⟨y549, hy549⟩ : ∃ y_ : List (S52), y_ = (([] : List (S52))) := ⟨_, rfl⟩
 replace H : (impl_lowered.l0 k l0 y549 0) = some r := by first | (rw [hy549]; with_reducible exact H) | (have H2_ := (Option.bind_some _ _).symm.trans H; rw [hy549]; with_reducible exact H2_) | (have H2_ := (Option.bind_some _ _).symm.trans H; with_reducible exact H2_) | with_reducible exact H | (rw [hy549]; exact H) | exact H
 have Ny549 := am hy549
 clear hy549
 have H' := am H
 clear H
 go_enter Try.func59, Try.ntmps59
 go_wp2_with (first | ((with_reducible refine gate_dst (N := 8) rfl ?_); refine Kd.R_lit k52 _ 52 ?hg (N := 8) ?hd (xs := ([] : List (S52))) (inner := []) (ok := fun _ => True) (okp := fun _ => True) ?hr ?hp (fun _ hk => hk) trivial (Below.refl _ _) (Nat.le_refl _) (by simp) ?_; (case hd => rfl); (case hg => rfl); (case hr => exact Y5); (case hp => exact (Reps.none _ _)); intro v550 w2 ho3 hb hg_ hnew_; clear hg_ hnew_; (first | rw [← Ny549.out] at ho3 | (simp only [Int.reduceToNat] at ho3; rw [← Ny549.out] at ho3)); have HO551 := am (Kd.R_lower ho3 (below_size (bq))); replace HB := am (below_step (bq) hb); clear hb ho3))
 go_loopg [3, 4] k (fun kq v3 v4 w' => ∃ (x3_1 : List (S52)) (x4_1 : Int), v4 = .int .i64 x4_1 ∧ Aside0 (impl_lowered.l0 kq l0 x3_1 x4_1 = some r) ∧ Aside0 (kq ≤ k) ∧ Aside0 (Kd.R k52 52 w' w.heap.size (fun _ => True) v3 x3_1) ∧ Aside0 (Below w.heap.size w w'))
 case atStart => exact ⟨(y549), (0), (sq), H', ⟨Nat.le_refl _⟩, ⟨rq HO551.out⟩, ⟨bq⟩⟩
 case round =>
  clear H'
  try clear p2
  obtain ⟨x3_1, x4_1, rfl, HA, HK1, HO_3, HB⟩ := hrel
  cases gk with
  | zero => exact absurd HA.out (by simp [impl_lowered.l0])
  | succ k1 =>
   have H := HA.out
   clear HA
   simp only [impl_lowered.l0] at H
   by_cases c4 : x4_1 < (l0.length : Int)
   ·rw [if_pos c4] at H
    have c4b0 : decide (x4_1 < (l0.length : Int)) = true := decide_eq_true c4
    clear c4
    by_cases c5 : 0 ≤ x4_1
    ·rw [if_pos c5] at H
     have c5b0 : decide (0 ≤ x4_1) = true := decide_eq_true c5
     clear c5
     replace H := Option.bind_eq_some_iff.mp H
     obtain ⟨t553, A60, H⟩ := H
     replace H : (if 0 ≤ (wrap64 (x4_1 + 1)) then (if (wrap64 (x4_1 + 1)) ≤ t553 then (if t553 ≤ (l0.length : Int) then ((impl_lowered.f k1 ((l0.take (t553 : Int).toNat).drop ((wrap64 (x4_1 + 1)) : Int).toNat)).bind fun t559 => (if ((rd_T52 l0 x4_1).f1) = 11 then (if ((rd_T52 l0 x4_1).f3) = 0 then ((some (([(⟨(rd_T52 l0 x4_1).f0, 1, (rd_T52 l0 x4_1).f2, 0⟩ : S52), (⟨(rd_T52 l0 x4_1).f0, 7, 0, 0⟩ : S52)] : List (S52)) : List (S52))).bind fun y562 => (if x3_1.length + y562.length < 4398046511104 then ((some (x3_1 ++ y562 : List (S52))).bind fun y565 => (if y565.length + t559.length < 4398046511104 then ((some (y565 ++ t559 : List (S52))).bind fun y568 => ((some (([(⟨(rd_T52 l0 x4_1).f0, 10, 0, 0⟩ : S52), (⟨wrap64 (((rd_T52 l0 x4_1).f0) + 1), 1, (rd_T52 l0 x4_1).f2, 0⟩ : S52)] : List (S52)) : List (S52))).bind fun y571 => (if y568.length + y571.length < 4398046511104 then (impl_lowered.l0 k1 l0 (y568 ++ y571) t553) else (none)))) else (none))) else (none))) else (if x3_1.length < 4398046511104 then ((some (x3_1 ++ [(⟨(rd_T52 l0 x4_1).f0, (rd_T52 l0 x4_1).f1, (rd_T52 l0 x4_1).f2, (rd_T52 l0 x4_1).f3⟩ : S52)] : List (S52))).bind fun y577 => (if y577.length + t559.length < 4398046511104 then (impl_lowered.l0 k1 l0 (y577 ++ t559) t553) else (none))) else (none))) else (if x3_1.length < 4398046511104 then ((some (x3_1 ++ [(⟨(rd_T52 l0 x4_1).f0, (rd_T52 l0 x4_1).f1, (rd_T52 l0 x4_1).f2, (rd_T52 l0 x4_1).f3⟩ : S52)] : List (S52))).bind fun y583 => (if y583.length + t559.length < 4398046511104 then (impl_lowered.l0 k1 l0 (y583 ++ t559) t553) else (none))) else (none)))) else (none)) else (none)) else (none)) = some r := H
     have A6 := am A60
     clear A60
     obtain ⟨ji7, hji7⟩ : ∃ j_ : Int, (wrap64 (x4_1 + 1)) = j_ := ⟨_, rfl⟩
     replace H : (if 0 ≤ (ji7) then (if (ji7) ≤ t553 then (if t553 ≤ (l0.length : Int) then ((impl_lowered.f k1 ((l0.take (t553 : Int).toNat).drop ((ji7) : Int).toNat)).bind fun t559 => (if ((rd_T52 l0 x4_1).f1) = 11 then (if ((rd_T52 l0 x4_1).f3) = 0 then ((some (([(⟨(rd_T52 l0 x4_1).f0, 1, (rd_T52 l0 x4_1).f2, 0⟩ : S52), (⟨(rd_T52 l0 x4_1).f0, 7, 0, 0⟩ : S52)] : List (S52)) : List (S52))).bind fun y562 => (if x3_1.length + y562.length < 4398046511104 then ((some (x3_1 ++ y562 : List (S52))).bind fun y565 => (if y565.length + t559.length < 4398046511104 then ((some (y565 ++ t559 : List (S52))).bind fun y568 => ((some (([(⟨(rd_T52 l0 x4_1).f0, 10, 0, 0⟩ : S52), (⟨wrap64 (((rd_T52 l0 x4_1).f0) + 1), 1, (rd_T52 l0 x4_1).f2, 0⟩ : S52)] : List (S52)) : List (S52))).bind fun y571 => (if y568.length + y571.length < 4398046511104 then (impl_lowered.l0 k1 l0 (y568 ++ y571) t553) else (none)))) else (none))) else (none))) else (if x3_1.length < 4398046511104 then ((some (x3_1 ++ [(⟨(rd_T52 l0 x4_1).f0, (rd_T52 l0 x4_1).f1, (rd_T52 l0 x4_1).f2, (rd_T52 l0 x4_1).f3⟩ : S52)] : List (S52))).bind fun y577 => (if y577.length + t559.length < 4398046511104 then (impl_lowered.l0 k1 l0 (y577 ++ t559) t553) else (none))) else (none))) else (if x3_1.length < 4398046511104 then ((some (x3_1 ++ [(⟨(rd_T52 l0 x4_1).f0, (rd_T52 l0 x4_1).f1, (rd_T52 l0 x4_1).f2, (rd_T52 l0 x4_1).f3⟩ : S52)] : List (S52))).bind fun y583 => (if y583.length + t559.length < 4398046511104 then (impl_lowered.l0 k1 l0 (y583 ++ t559) t553) else (none))) else (none)))) else (none)) else (none)) else (none)) = some r := by first | (rw [hji7] at H; exact H) | (simp only [hji7] at H ⊢; exact H)
     (try rw [hji7] at A6)
     have hji7w : (IntKind.i64.wrap (x4_1 + 1)) = ji7 := (i64_w _).trans hji7
     by_cases c8 : 0 ≤ (ji7)
     ·rw [if_pos c8] at H
      have c8b0 := eq_true c8
      have c8b1 : decide (0 ≤ (ji7)) = true := decide_eq_true c8
      clear c8
      by_cases c9 : (ji7) ≤ t553
      ·rw [if_pos c9] at H
       have c9b0 := eq_true c9
       have c9b1 : decide ((ji7) ≤ t553) = true := decide_eq_true c9
       clear c9
       by_cases c10 : t553 ≤ (l0.length : Int)
       ·rw [if_pos c10] at H
        have c10b0 := eq_true c10
        have c10b1 : decide (t553 ≤ (l0.length : Int)) = true := decide_eq_true c10
        clear c10
        obtain ⟨y555, hy555⟩ : ∃ y_ : List (S52), y_ = ((l0.take (t553 : Int).toNat).drop ((ji7) : Int).toNat) := ⟨_, rfl⟩
        replace H : ((impl_lowered.f k1 y555).bind fun t559 => (if ((rd_T52 l0 x4_1).f1) = 11 then (if ((rd_T52 l0 x4_1).f3) = 0 then ((some (([(⟨(rd_T52 l0 x4_1).f0, 1, (rd_T52 l0 x4_1).f2, 0⟩ : S52), (⟨(rd_T52 l0 x4_1).f0, 7, 0, 0⟩ : S52)] : List (S52)) : List (S52))).bind fun y562 => (if x3_1.length + y562.length < 4398046511104 then ((some (x3_1 ++ y562 : List (S52))).bind fun y565 => (if y565.length + t559.length < 4398046511104 then ((some (y565 ++ t559 : List (S52))).bind fun y568 => ((some (([(⟨(rd_T52 l0 x4_1).f0, 10, 0, 0⟩ : S52), (⟨wrap64 (((rd_T52 l0 x4_1).f0) + 1), 1, (rd_T52 l0 x4_1).f2, 0⟩ : S52)] : List (S52)) : List (S52))).bind fun y571 => (if y568.length + y571.length < 4398046511104 then (impl_lowered.l0 k1 l0 (y568 ++ y571) t553) else (none)))) else (none))) else (none))) else (if x3_1.length < 4398046511104 then ((some (x3_1 ++ [(⟨(rd_T52 l0 x4_1).f0, (rd_T52 l0 x4_1).f1, (rd_T52 l0 x4_1).f2, (rd_T52 l0 x4_1).f3⟩ : S52)] : List (S52))).bind fun y577 => (if y577.length + t559.length < 4398046511104 then (impl_lowered.l0 k1 l0 (y577 ++ t559) t553) else (none))) else (none))) else (if x3_1.length < 4398046511104 then ((some (x3_1 ++ [(⟨(rd_T52 l0 x4_1).f0, (rd_T52 l0 x4_1).f1, (rd_T52 l0 x4_1).f2, (rd_T52 l0 x4_1).f3⟩ : S52)] : List (S52))).bind fun y583 => (if y583.length + t559.length < 4398046511104 then (impl_lowered.l0 k1 l0 (y583 ++ t559) t553) else (none))) else (none)))) = some r := by first | (rw [hy555]; with_reducible exact H) | (have H2_ := (Option.bind_some _ _).symm.trans H; rw [hy555]; with_reducible exact H2_) | (have H2_ := (Option.bind_some _ _).symm.trans H; with_reducible exact H2_) | with_reducible exact H | (rw [hy555]; exact H) | exact H
        have Ny555 := am hy555
        clear hy555
        replace H := Option.bind_eq_some_iff.mp H
        obtain ⟨t559, A110, H⟩ := H
        replace H : (if ((rd_T52 l0 x4_1).f1) = 11 then (if ((rd_T52 l0 x4_1).f3) = 0 then ((some (([(⟨(rd_T52 l0 x4_1).f0, 1, (rd_T52 l0 x4_1).f2, 0⟩ : S52), (⟨(rd_T52 l0 x4_1).f0, 7, 0, 0⟩ : S52)] : List (S52)) : List (S52))).bind fun y562 => (if x3_1.length + y562.length < 4398046511104 then ((some (x3_1 ++ y562 : List (S52))).bind fun y565 => (if y565.length + t559.length < 4398046511104 then ((some (y565 ++ t559 : List (S52))).bind fun y568 => ((some (([(⟨(rd_T52 l0 x4_1).f0, 10, 0, 0⟩ : S52), (⟨wrap64 (((rd_T52 l0 x4_1).f0) + 1), 1, (rd_T52 l0 x4_1).f2, 0⟩ : S52)] : List (S52)) : List (S52))).bind fun y571 => (if y568.length + y571.length < 4398046511104 then (impl_lowered.l0 k1 l0 (y568 ++ y571) t553) else (none)))) else (none))) else (none))) else (if x3_1.length < 4398046511104 then ((some (x3_1 ++ [(⟨(rd_T52 l0 x4_1).f0, (rd_T52 l0 x4_1).f1, (rd_T52 l0 x4_1).f2, (rd_T52 l0 x4_1).f3⟩ : S52)] : List (S52))).bind fun y577 => (if y577.length + t559.length < 4398046511104 then (impl_lowered.l0 k1 l0 (y577 ++ t559) t553) else (none))) else (none))) else (if x3_1.length < 4398046511104 then ((some (x3_1 ++ [(⟨(rd_T52 l0 x4_1).f0, (rd_T52 l0 x4_1).f1, (rd_T52 l0 x4_1).f2, (rd_T52 l0 x4_1).f3⟩ : S52)] : List (S52))).bind fun y583 => (if y583.length + t559.length < 4398046511104 then (impl_lowered.l0 k1 l0 (y583 ++ t559) t553) else (none))) else (none))) = some r := H
        have A11 := am A110
        clear A110
        by_cases c12 : ((rd_T52 l0 x4_1).f1) = 11
        ·rw [if_pos c12] at H
         have c12b0 : (((rd_T52 l0 x4_1).f1) == 11) = true := beq_iff_eq.mpr c12
         have c12b1 : (((rd_T52 l0 x4_1).f1) != 11) = false := bne_eq_false_iff_eq.mpr c12
         clear c12
         by_cases c13 : ((rd_T52 l0 x4_1).f3) = 0
         ·rw [if_pos c13] at H
          have c13b0 : (((rd_T52 l0 x4_1).f3) == 0) = true := beq_iff_eq.mpr c13
          have c13b1 : (((rd_T52 l0 x4_1).f3) != 0) = false := bne_eq_false_iff_eq.mpr c13
          clear c13
          obtain ⟨y562, hy562⟩ : ∃ y_ : List (S52), y_ = (([(⟨(rd_T52 l0 x4_1).f0, 1, (rd_T52 l0 x4_1).f2, 0⟩ : S52), (⟨(rd_T52 l0 x4_1).f0, 7, 0, 0⟩ : S52)] : List (S52))) := ⟨_, rfl⟩
          replace H : (if x3_1.length + y562.length < 4398046511104 then ((some (x3_1 ++ y562 : List (S52))).bind fun y565 => (if y565.length + t559.length < 4398046511104 then ((some (y565 ++ t559 : List (S52))).bind fun y568 => ((some (([(⟨(rd_T52 l0 x4_1).f0, 10, 0, 0⟩ : S52), (⟨wrap64 (((rd_T52 l0 x4_1).f0) + 1), 1, (rd_T52 l0 x4_1).f2, 0⟩ : S52)] : List (S52)) : List (S52))).bind fun y571 => (if y568.length + y571.length < 4398046511104 then (impl_lowered.l0 k1 l0 (y568 ++ y571) t553) else (none)))) else (none))) else (none)) = some r := by first | (rw [hy562]; with_reducible exact H) | (have H2_ := (Option.bind_some _ _).symm.trans H; rw [hy562]; with_reducible exact H2_) | (have H2_ := (Option.bind_some _ _).symm.trans H; with_reducible exact H2_) | with_reducible exact H | (rw [hy562]; exact H) | exact H
          have Ny562 := am hy562
          clear hy562
          by_cases c14 : x3_1.length + y562.length < 4398046511104
          ·rw [if_pos c14] at H
           have LMc14 := am c14
           clear c14
           obtain ⟨y565, hy565⟩ : ∃ y_ : List (S52), y_ = (x3_1 ++ y562) := ⟨_, rfl⟩
           replace H : (if y565.length + t559.length < 4398046511104 then ((some (y565 ++ t559 : List (S52))).bind fun y568 => ((some (([(⟨(rd_T52 l0 x4_1).f0, 10, 0, 0⟩ : S52), (⟨wrap64 (((rd_T52 l0 x4_1).f0) + 1), 1, (rd_T52 l0 x4_1).f2, 0⟩ : S52)] : List (S52)) : List (S52))).bind fun y571 => (if y568.length + y571.length < 4398046511104 then (impl_lowered.l0 k1 l0 (y568 ++ y571) t553) else (none)))) else (none)) = some r := by first | (rw [hy565]; with_reducible exact H) | (have H2_ := (Option.bind_some _ _).symm.trans H; rw [hy565]; with_reducible exact H2_) | (have H2_ := (Option.bind_some _ _).symm.trans H; with_reducible exact H2_) | with_reducible exact H | (rw [hy565]; exact H) | exact H
           have Ny565 := am hy565
           clear hy565
           by_cases c15 : y565.length + t559.length < 4398046511104
           ·rw [if_pos c15] at H
            have LMc15 := am c15
            clear c15
            obtain ⟨y568, hy568⟩ : ∃ y_ : List (S52), y_ = (y565 ++ t559) := ⟨_, rfl⟩
            replace H : ((some (([(⟨(rd_T52 l0 x4_1).f0, 10, 0, 0⟩ : S52), (⟨wrap64 (((rd_T52 l0 x4_1).f0) + 1), 1, (rd_T52 l0 x4_1).f2, 0⟩ : S52)] : List (S52)) : List (S52))).bind fun y571 => (if y568.length + y571.length < 4398046511104 then (impl_lowered.l0 k1 l0 (y568 ++ y571) t553) else (none))) = some r := by first | (rw [hy568]; with_reducible exact H) | (have H2_ := (Option.bind_some _ _).symm.trans H; rw [hy568]; with_reducible exact H2_) | (have H2_ := (Option.bind_some _ _).symm.trans H; with_reducible exact H2_) | with_reducible exact H | (rw [hy568]; exact H) | exact H
            have Ny568 := am hy568
            clear hy568
            obtain ⟨y571, hy571⟩ : ∃ y_ : List (S52), y_ = (([(⟨(rd_T52 l0 x4_1).f0, 10, 0, 0⟩ : S52), (⟨wrap64 (((rd_T52 l0 x4_1).f0) + 1), 1, (rd_T52 l0 x4_1).f2, 0⟩ : S52)] : List (S52))) := ⟨_, rfl⟩
            replace H : (if y568.length + y571.length < 4398046511104 then (impl_lowered.l0 k1 l0 (y568 ++ y571) t553) else (none)) = some r := by first | (rw [hy571]; with_reducible exact H) | (have H2_ := (Option.bind_some _ _).symm.trans H; rw [hy571]; with_reducible exact H2_) | (have H2_ := (Option.bind_some _ _).symm.trans H; with_reducible exact H2_) | with_reducible exact H | (rw [hy571]; exact H) | exact H
            have Ny571 := am hy571
            clear hy571
            by_cases c16 : y568.length + y571.length < 4398046511104
            ·rw [if_pos c16] at H
             have LMc16 := am c16
             clear c16
             obtain ⟨y574, hy574⟩ : ∃ y_ : List (S52), y_ = (y568 ++ y571) := ⟨_, rfl⟩
             replace H : (impl_lowered.l0 k1 l0 y574 t553) = some r := by first | (rw [hy574]; with_reducible exact H) | (have H2_ := (Option.bind_some _ _).symm.trans H; rw [hy574]; with_reducible exact H2_) | (have H2_ := (Option.bind_some _ _).symm.trans H; with_reducible exact H2_) | with_reducible exact H | (rw [hy574]; exact H) | exact H
             have Ny574 := am hy574
             clear hy574
             have H' := am H
             clear H
             try go_wp2
             replace HO_3 := am (Kd.R_drew HO_3.out)
             replace HB := am (below_drew1 HB.out)
             have p552 : 0 ≤ (x4_1 : Int) := of_decide_eq_true (uq)
             have q552 : x4_1 < (l0.length : Int) := of_decide_eq_true (uq)
             obtain ⟨ad552, e552, hx552_0, hx552_1, hx552_2, hx552_3⟩ := at_T52 HR0.out x4_1 p552 q552
             have hw552_3 := hx552_3
             have hw552_2 := hx552_2
             have hw552_1 := hx552_1
             have hw552_0 := hx552_0
             cases e552
             replace hx552_0 := cb HB.out hx552_0
             replace hx552_1 := cb HB.out hx552_1
             replace hx552_2 := cb HB.out hx552_2
             replace hx552_3 := cb HB.out hx552_3
             replace p552 := eq_true p552
             replace q552 := eq_true q552
             refine start_ (n := 10) (S := fun w' => w'.cell? (ad552.add ((x4_1).toNat * 4)) = some (.int .i64 ((rd_T52 l0 x4_1).f0)) ∧ w'.cell? ⟨(ad552.add ((x4_1).toNat * 4)).block, (ad552.add ((x4_1).toNat * 4)).off + 1, none⟩ = some (.int .i64 ((rd_T52 l0 x4_1).f1)) ∧ w'.cell? ⟨(ad552.add ((x4_1).toNat * 4)).block, (ad552.add ((x4_1).toNat * 4)).off + 2, none⟩ = some (.int .i64 ((rd_T52 l0 x4_1).f2)) ∧ w'.cell? ⟨(ad552.add ((x4_1).toNat * 4)).block, (ad552.add ((x4_1).toNat * 4)).off + 3, none⟩ = some (.int .i64 ((rd_T52 l0 x4_1).f3))) (ds := []) #[false, false, false, false, false, false, false, false, false, false] (by kernel_rfl) rfl rfl ⟨((HB.out.cell (World.block_lt_of_cell? w _ hw552_0)).trans hw552_0), ((HB.out.cell (World.block_lt_of_cell? w _ hw552_1)).trans hw552_1), ((HB.out.cell (World.block_lt_of_cell? w _ hw552_2)).trans hw552_2), ((HB.out.cell (World.block_lt_of_cell? w _ hw552_3)).trans hw552_3)⟩ (fun hHeld => ?_); refine with_tabW impl_lowered.tab4 impl_lowered.bits4 (fun HT_ HW_ => ?_)
             generalize wr.drew = w17 at HO_3 HB hx552_0 hx552_1 hx552_2 hx552_3 hHeld ⊢
             refine pq (i := 0) (N := some 13) #[true, false, false, false, false, false, false, false, false, false] ?_
             refine pq (i := 1) (N := some 14) #[true, true, false, false, false, false, false, false, false, false] ?_
             refine pq (i := 2) (N := some 15) #[true, true, true, false, false, false, false, false, false, false] ?_
             refine pq (i := 4) (N := some 17) #[true, true, true, false, true, false, false, false, false, false] ?_
             refine pq (i := 5) (N := some 18) #[true, true, true, false, true, true, false, false, false, false] ?_
             refine take_ (i := 3) (N := some 16) (v := ?_) (a' := ?_) #[true, true, true, true, true, true, false, false, false, false] rfl rfl (take_ofW HT_.out HW_.out (by kernel_rfl)) (fun _ _ _ h => h) (Or.inl ⟨by rfl, ?_⟩) hHeld ?_ ?_
             rotate_left
             ·rintro w' ⟨s0, s1, s2, s3⟩
              go_simp
              with_reducible rfl
             rotate_left
             ·exact sa
             refine join_ (σ := Nat) 2 #[true, true, true, true, true, true, true, true, false, false] (fun s_ => [(19, .int .i64 t553), (5, .pointer (some ⟨s_, 0, none⟩))]) (fun s_ w' => (w'.cell? (ad552.add ((x4_1).toNat * 4)) = some (.int .i64 ((rd_T52 l0 x4_1).f0)) ∧ w'.cell? ⟨(ad552.add ((x4_1).toNat * 4)).block, (ad552.add ((x4_1).toNat * 4)).off + 1, none⟩ = some (.int .i64 ((rd_T52 l0 x4_1).f1)) ∧ w'.cell? ⟨(ad552.add ((x4_1).toNat * 4)).block, (ad552.add ((x4_1).toNat * 4)).off + 2, none⟩ = some (.int .i64 ((rd_T52 l0 x4_1).f2)) ∧ w'.cell? ⟨(ad552.add ((x4_1).toNat * 4)).block, (ad552.add ((x4_1).toNat * 4)).off + 3, none⟩ = some (.int .i64 ((rd_T52 l0 x4_1).f3))) ∧ (Kd.R k52 52 w' w.heap.size (fun k_ => k_ ≠ s_) u3 x3_1) ∧ (w'.heap[s_]? = some (.cells #[.int .i64 0, .int .i64 0, .int .i64 0, .int .i64 0] 52 (0, 0))) ∧ (w.heap.size ≤ s_) ∧ (w.heap.size ≤ s_) ∧ (Below w.heap.size w w')) ?_ ?_
             rotate_left
             ·intro hCont
              refine two_ (i := 6) (j := 7) (Ni := some 19) (Nj := some 5) #[true, true, true, true, true, true, true, false, false, false] #[true, true, true, true, true, true, false, true, false, false] rfl rfl rfl rfl (two_of HT_.out (by kernel_rfl)) (by decide) (by decide) (fun K hK => ?_) (fun K hK => ?_)
              ·skip
               refine goes_ Try.func89 (by kernel_rfl) rfl #[.slice (some ad552) l0.length c0, .int .i64 x4_1] (by rfl) rfl rfl (aq) ?_
               with_reducible refine (impl_endOf.calls k1 _ _ l0 x4_1 t553 _ ?side1 ?side2 A6.out).mono ?_
               (case side1 => exact cq (Kd.C_below HR0.out HB.out))
               (case side2 => exact HC0.out)
               rintro e w' ⟨rfl, ⟨nd, rfl⟩⟩
               refine ⟨_, rfl, ?_⟩
               refine hK.out _ _ ⟨((HB.out.cell (World.block_lt_of_cell? w _ hw552_0)).trans hw552_0), ((HB.out.cell (World.block_lt_of_cell? w _ hw552_1)).trans hw552_1), ((HB.out.cell (World.block_lt_of_cell? w _ hw552_2)).trans hw552_2), ((HB.out.cell (World.block_lt_of_cell? w _ hw552_3)).trans hw552_3)⟩ (fun hHeld => ?_)
               clear hK K
               refine norm_ (a' := ?_) ?_ ?_
               rotate_left
               ·show Act.put _ (some 19) _ = _
                simp only [Act.put, List.setIfInBounds_toArray, List.set_cons_zero, List.set_cons_succ, i64_w, i32_w]
                rfl
               refine one_ (i := 7) (N := some 5) #[true, true, true, true, true, true, true, true, false, false] rfl rfl (one_of HT_.out (by kernel_rfl)) (by decide) (fun K hK => ?_)
               refine box_step ?hg (N := 5) ?hd (cs := #[.int .i64 0, .int .i64 0, .int .i64 0, .int .i64 0]) (t := 52) ?hr ?_; (case hd => rfl); (case hg => rfl); (case hr => exact Y5)
               intro gb554 hg w18 hbox hb
               have BK554 := am (hbox)
               have GW554 := am ((Y1 : w.heap.size ≤ gb554))
               have GE554 := am ((Y1 : w.heap.size ≤ gb554))
               replace HO_3 := am (Kd.R_below (Kd.R_elderB (rq HO_3.out) gb554 (Nat.le_of_eq hg.symm)) hb)
               replace HB := am (below_step (bq) hb)
               clear hb hbox hg
               refine hK.out _ _ ⟨((HB.out.cell (World.block_lt_of_cell? w _ hw552_0)).trans hw552_0), ((HB.out.cell (World.block_lt_of_cell? w _ hw552_1)).trans hw552_1), ((HB.out.cell (World.block_lt_of_cell? w _ hw552_2)).trans hw552_2), ((HB.out.cell (World.block_lt_of_cell? w _ hw552_3)).trans hw552_3)⟩ (fun hHeld => ?_)
               clear hK K
               refine norm_ (a' := ?_) ?_ ?_
               rotate_left
               ·show Act.put _ (some 5) _ = _
                simp only [Act.put, List.setIfInBounds_toArray, List.set_cons_zero, List.set_cons_succ, i64_w, i32_w]
                rfl
               exact norm_ (by simp only [putAll, Act.put, List.setIfInBounds_toArray, List.set_cons_zero, List.set_cons_succ]) (hCont (gb554) _ ⟨hHeld, (Y78), (kq BK554.out), GW554.out, GE554.out, (Y11)⟩)
              ·skip
               refine box_step ?hg (N := 5) ?hd (cs := #[.int .i64 0, .int .i64 0, .int .i64 0, .int .i64 0]) (t := 52) ?hr ?_; (case hd => rfl); (case hg => rfl); (case hr => exact Y5)
               intro gb554 hg w18 hbox hb
               have BK554 := am (hbox)
               have GW554 := am ((Y1 : w.heap.size ≤ gb554))
               have GE554 := am ((Y1 : w.heap.size ≤ gb554))
               replace HO_3 := am (Kd.R_below (Kd.R_elderB (rq HO_3.out) gb554 (Nat.le_of_eq hg.symm)) hb)
               replace HB := am (below_step (bq) hb)
               clear hb hbox hg
               refine hK.out _ _ ⟨((HB.out.cell (World.block_lt_of_cell? w _ hw552_0)).trans hw552_0), ((HB.out.cell (World.block_lt_of_cell? w _ hw552_1)).trans hw552_1), ((HB.out.cell (World.block_lt_of_cell? w _ hw552_2)).trans hw552_2), ((HB.out.cell (World.block_lt_of_cell? w _ hw552_3)).trans hw552_3)⟩ (fun hHeld => ?_)
               clear hK K
               refine norm_ (a' := ?_) ?_ ?_
               rotate_left
               ·show Act.put _ (some 5) _ = _
                simp only [Act.put, List.setIfInBounds_toArray, List.set_cons_zero, List.set_cons_succ, i64_w, i32_w]
                rfl
               refine one_ (i := 6) (N := some 19) #[true, true, true, true, true, true, true, true, false, false] rfl rfl (one_of HT_.out (by kernel_rfl)) (by decide) (fun K hK => ?_)
               refine goes_ Try.func89 (by kernel_rfl) rfl #[.slice (some ad552) l0.length c0, .int .i64 x4_1] (by rfl) rfl rfl (aq) ?_
               with_reducible refine (impl_endOf.calls k1 _ _ l0 x4_1 t553 _ ?side1 ?side2 A6.out).mono ?_
               (case side1 => exact cq (Kd.C_below HR0.out HB.out))
               (case side2 => exact HC0.out)
               rintro e w' ⟨rfl, ⟨nd, rfl⟩⟩
               refine ⟨_, rfl, ?_⟩
               refine hK.out _ _ ⟨((HB.out.cell (World.block_lt_of_cell? w _ hw552_0)).trans hw552_0), ((HB.out.cell (World.block_lt_of_cell? w _ hw552_1)).trans hw552_1), ((HB.out.cell (World.block_lt_of_cell? w _ hw552_2)).trans hw552_2), ((HB.out.cell (World.block_lt_of_cell? w _ hw552_3)).trans hw552_3)⟩ (fun hHeld => ?_)
               clear hK K
               refine norm_ (a' := ?_) ?_ ?_
               rotate_left
               ·show Act.put _ (some 19) _ = _
                simp only [Act.put, List.setIfInBounds_toArray, List.set_cons_zero, List.set_cons_succ, i64_w, i32_w]
                rfl
               exact norm_ (by simp only [putAll, Act.put, List.setIfInBounds_toArray, List.set_cons_zero, List.set_cons_succ]) (hCont (gb554) _ ⟨hHeld, (Y78), (kq BK554.out), GW554.out, GE554.out, (Y11)⟩)
             rintro gb554 w19 ⟨hS_, h0_, h1_, h2_, h3_, h4_⟩
             have n0_ : Aside0 (Kd.R k52 52 w19 w.heap.size (fun k_ => k_ ≠ gb554) u3 x3_1) := ⟨h0_⟩
             have n1_ : Aside0 (w19.heap[gb554]? = some (.cells #[.int .i64 0, .int .i64 0, .int .i64 0, .int .i64 0] 52 (0, 0))) := ⟨h1_⟩
             have n2_ : Aside0 (w.heap.size ≤ gb554) := ⟨h2_⟩
             have n3_ : Aside0 (w.heap.size ≤ gb554) := ⟨h3_⟩
             have n4_ : Aside0 (Below w.heap.size w w19) := ⟨h4_⟩
             clear HO_3
             clear HB
             clear h0_ h1_ h2_ h3_ h4_
             have HO_3 := n0_
             have BK554 := n1_
             have GW554 := n2_
             have GE554 := n3_
             have HB := n4_
             clear n0_ n1_ n2_ n3_ n4_
             have hHeld : w19.cell? (ad552.add ((x4_1).toNat * 4)) = some (.int .i64 ((rd_T52 l0 x4_1).f0)) ∧ w19.cell? ⟨(ad552.add ((x4_1).toNat * 4)).block, (ad552.add ((x4_1).toNat * 4)).off + 1, none⟩ = some (.int .i64 ((rd_T52 l0 x4_1).f1)) ∧ w19.cell? ⟨(ad552.add ((x4_1).toNat * 4)).block, (ad552.add ((x4_1).toNat * 4)).off + 2, none⟩ = some (.int .i64 ((rd_T52 l0 x4_1).f2)) ∧ w19.cell? ⟨(ad552.add ((x4_1).toNat * 4)).block, (ad552.add ((x4_1).toNat * 4)).off + 3, none⟩ = some (.int .i64 ((rd_T52 l0 x4_1).f3)) := hS_
             refine norm_ (a' := ?_) ?_ ?_
             rotate_left
             ·simp only [putAll, Act.put, List.setIfInBounds_toArray, List.set_cons_zero, List.set_cons_succ]
              rfl
             refine one_ (i := 8) (N := none) #[true, true, true, true, true, true, true, true, true, false] rfl rfl (one_of HT_.out (by kernel_rfl)) (by decide) (fun K hK => ?_)
             have hs20 : w19.cell? ⟨gb554, 0, none⟩ = some (.int .i64 0) := (blk_cell BK554.out 0).trans rfl
             have hfs20 := blk_frozen BK554.out 0
             have hs21 : w19.cell? ⟨gb554, 1, none⟩ = some (.int .i64 0) := (blk_cell BK554.out 1).trans rfl
             have hfs21 := blk_frozen BK554.out 1
             have hs22 : w19.cell? ⟨gb554, 2, none⟩ = some (.int .i64 0) := (blk_cell BK554.out 2).trans rfl
             have hfs22 := blk_frozen BK554.out 2
             have hs23 : w19.cell? ⟨gb554, 3, none⟩ = some (.int .i64 0) := (blk_cell BK554.out 3).trans rfl
             have hfs23 := blk_frozen BK554.out 3
             refine skip_ (w1 := ?_) (by rfl) rfl ?_ ?_
             rotate_left
             ·go_simp
              rfl
             refine hK.out _ _ ⟨((cell_far (p := ⟨gb554, _, none⟩) (Y41) _).trans (((cell_far (p := ⟨gb554, _, none⟩) (Y41) _).trans (((cell_far (p := ⟨gb554, _, none⟩) (Y41) _).trans (((cell_far (p := ⟨gb554, _, none⟩) (Y41) _).trans (hHeld.1)))))))), ((cell_far (p := ⟨gb554, _, none⟩) (Y42) _).trans (((cell_far (p := ⟨gb554, _, none⟩) (Y42) _).trans (((cell_far (p := ⟨gb554, _, none⟩) (Y42) _).trans (((cell_far (p := ⟨gb554, _, none⟩) (Y42) _).trans (hHeld.2.1)))))))), ((cell_far (p := ⟨gb554, _, none⟩) (Y43) _).trans (((cell_far (p := ⟨gb554, _, none⟩) (Y43) _).trans (((cell_far (p := ⟨gb554, _, none⟩) (Y43) _).trans (((cell_far (p := ⟨gb554, _, none⟩) (Y43) _).trans (hHeld.2.2.1)))))))), ((cell_far (p := ⟨gb554, _, none⟩) (Y44) _).trans (((cell_far (p := ⟨gb554, _, none⟩) (Y44) _).trans (((cell_far (p := ⟨gb554, _, none⟩) (Y44) _).trans (((cell_far (p := ⟨gb554, _, none⟩) (Y44) _).trans (hHeld.2.2.2))))))))⟩ (fun hHeld => ?_)
             clear hK K
             refine pq (i := 9) (N := some 6) #[true, true, true, true, true, true, true, true, true, true] ?_
             refine done_ (done_of HT_.out (by kernel_rfl)) ?_
             have n0_ : Aside0 (Kd.R k52 52 ((((w19.setCell ⟨gb554, 0, none⟩ (.int .i64 ((rd_T52 l0 x4_1).f0))).setCell ⟨gb554, 1, none⟩ (.int .i64 ((rd_T52 l0 x4_1).f1))).setCell ⟨gb554, 2, none⟩ (.int .i64 ((rd_T52 l0 x4_1).f2))).setCell ⟨gb554, 3, none⟩ (.int .i64 ((rd_T52 l0 x4_1).f3))) w.heap.size (fun k_ => k_ ≠ gb554) u3 x3_1) := ⟨by (with_reducible repeat (first | apply Kd.R_alloc | apply Kd.R_drewN | apply Kd.R_drew)); exact Kd.R_mono (Kd.R_far (p := ⟨gb554, 3, none⟩) (Kd.R_far (p := ⟨gb554, 2, none⟩) (Kd.R_far (p := ⟨gb554, 1, none⟩) (Kd.R_far (p := ⟨gb554, 0, none⟩) (Kd.R_mono HO_3.out (fun k_ hk => (⟨hk, hk⟩ : _ ∧ k_ ≠ gb554))) (fun _ hk => hk.2) (.int .i64 ((rd_T52 l0 x4_1).f0))) (fun _ hk => hk.2) (.int .i64 ((rd_T52 l0 x4_1).f1))) (fun _ hk => hk.2) (.int .i64 ((rd_T52 l0 x4_1).f2))) (fun _ hk => hk.2) (.int .i64 ((rd_T52 l0 x4_1).f3))) (fun _ hk => hk.1)⟩
             have n1_ : Aside0 (((((w19.setCell ⟨gb554, 0, none⟩ (.int .i64 ((rd_T52 l0 x4_1).f0))).setCell ⟨gb554, 1, none⟩ (.int .i64 ((rd_T52 l0 x4_1).f1))).setCell ⟨gb554, 2, none⟩ (.int .i64 ((rd_T52 l0 x4_1).f2))).setCell ⟨gb554, 3, none⟩ (.int .i64 ((rd_T52 l0 x4_1).f3))).heap[gb554]? = some (.cells #[.int .i64 ((rd_T52 l0 x4_1).f0), .int .i64 ((rd_T52 l0 x4_1).f1), .int .i64 ((rd_T52 l0 x4_1).f2), .int .i64 ((rd_T52 l0 x4_1).f3)] 52 (0, 0))) := ⟨by (with_reducible repeat (first | refine blk_drewN ?_ _ | refine blk_drew ?_ | refine blk_alloc ?_ _)); refine blk_put (cs := #[.int .i64 ((rd_T52 l0 x4_1).f0), .int .i64 ((rd_T52 l0 x4_1).f1), .int .i64 ((rd_T52 l0 x4_1).f2), .int .i64 0]) ?_ 3 _ rfl; (with_reducible repeat (first | refine blk_drewN ?_ _ | refine blk_drew ?_ | refine blk_alloc ?_ _)); refine blk_put (cs := #[.int .i64 ((rd_T52 l0 x4_1).f0), .int .i64 ((rd_T52 l0 x4_1).f1), .int .i64 0, .int .i64 0]) ?_ 2 _ rfl; (with_reducible repeat (first | refine blk_drewN ?_ _ | refine blk_drew ?_ | refine blk_alloc ?_ _)); refine blk_put (cs := #[.int .i64 ((rd_T52 l0 x4_1).f0), .int .i64 0, .int .i64 0, .int .i64 0]) ?_ 1 _ rfl; (with_reducible repeat (first | refine blk_drewN ?_ _ | refine blk_drew ?_ | refine blk_alloc ?_ _)); refine blk_put (cs := #[.int .i64 0, .int .i64 0, .int .i64 0, .int .i64 0]) ?_ 0 _ rfl; (with_reducible repeat (first | refine blk_drewN ?_ _ | refine blk_drew ?_ | refine blk_alloc ?_ _)); exact BK554.out⟩
             have n2_ : Aside0 (Below w.heap.size w ((((w19.setCell ⟨gb554, 0, none⟩ (.int .i64 ((rd_T52 l0 x4_1).f0))).setCell ⟨gb554, 1, none⟩ (.int .i64 ((rd_T52 l0 x4_1).f1))).setCell ⟨gb554, 2, none⟩ (.int .i64 ((rd_T52 l0 x4_1).f2))).setCell ⟨gb554, 3, none⟩ (.int .i64 ((rd_T52 l0 x4_1).f3)))) := ⟨Y11⟩
             (try clear HO_3)
             (try clear BK554)
             (try clear HB)
             generalize ((((w19.setCell ⟨gb554, 0, none⟩ (.int .i64 ((rd_T52 l0 x4_1).f0))).setCell ⟨gb554, 1, none⟩ (.int .i64 ((rd_T52 l0 x4_1).f1))).setCell ⟨gb554, 2, none⟩ (.int .i64 ((rd_T52 l0 x4_1).f2))).setCell ⟨gb554, 3, none⟩ (.int .i64 ((rd_T52 l0 x4_1).f3))) = w24 at n0_ n1_ n2_ ⊢
             have HO_3 := n0_
             have BK554 := n1_
             have HB := n2_
             clear n0_ n1_ n2_
             have q25 : (t553 : Int) ≤ ((l0.length : Int) : Int) := of_decide_eq_true (uq)
             obtain ⟨i025, hi025, _, hsz25, _⟩ := info_parts info52
             have hroom25 : l0.length ≤ c0 := HC0.out
             have hC25 : Kd.C k52 _ (some ad552) l0.length l0 := HR0.out
             have ql25 : ((ji7) : Int) ≤ (t553 : Int) := of_decide_eq_true (uq)
             have q025 : (0 : Int) ≤ ((ji7) : Int) := of_decide_eq_true (uq)
             have hcut25 := cut_mid (P := Try.prog) 34 52 .i64 .i64 Try.underlying34 hi025 4 hsz25 (some ad552) l0.length c0 (ji7) t553 q025 ql25 q25 hroom25
             have hr25 := Kd.C_mid (lo := ((ji7) : Int).toNat) (hi := (t553 : Int).toNat) (c := c0) hC25 (by omega) (by omega) hroom25
             obtain ⟨A25, hA25⟩ : ∃ A1, A1 = (if c0 = ((ji7) : Int).toNat then (some ad552) else ((some ad552) : Option Addr).map (·.add (((ji7) : Int).toNat * 4))) := ⟨_, rfl⟩
             obtain ⟨c25, hc25⟩ : ∃ c1, c1 = c0 - ((ji7) : Int).toNat := ⟨_, rfl⟩
             have hy25 : y555.length = (t553 : Int).toNat - ((ji7) : Int).toNat := (by rw [Ny555.out, List.length_drop, List.length_take] <;> omega)
             rw [show ((l0).take (t553 : Int).toNat).drop ((ji7) : Int).toNat = y555 from Ny555.out.symm] at hr25
             replace hr25 : Kd.C k52 _ A25 y555.length y555 := (by rw [hA25]; exact hr25)
             rw [← hy25, ← hA25, ← hc25] at hcut25
             have HR558 := am hr25
             have HC558 := am (show y555.length ≤ c25 from by rw [hy25, hc25]; exact Nat.sub_le_sub_right (Nat.le_trans (by omega) hroom25) _)
             clear hr25 hC25 hroom25 hi025 hsz25 hc25
             have KY25 := am hy25
             have KA25 := am hA25
             clear hy25 hA25
             replace q25 := eq_true q25
             try go_wp2_with (first | ((with_reducible refine gate_callee (f := 59) rfl ?_); refine gL (some 25) Try.func59 #[.slice A25 y555.length c25] ?_; (with_reducible refine (ih k1 (by have := HK1.out; omega) _ _ y555 t559 _ ?side1 ?side2 A11.out).mono ?_); (case side1 => exact cq (Kd.C_below HR558.out HB.out)); (case side2 => exact HC558.out); rintro e w26 ⟨v560, rfl, ho0, hb⟩; refine ⟨_, rfl, ?_⟩; have HO561 := am (Kd.R_lower (Kd.R_newB (Kd.R_new' ho0 (Kd.R_lt (rq HO_3.out))) (g := gb554) (o := .cells #[.int .i64 ((rd_T52 l0 x4_1).f0), .int .i64 ((rd_T52 l0 x4_1).f1), .int .i64 ((rd_T52 l0 x4_1).f2), .int .i64 ((rd_T52 l0 x4_1).f3)] 52 (0, 0)) (kq BK554.out)) (below_size (Y11))); replace HO_3 := am (Kd.R_elder' (rq HO_3.out) (Kd.R_base ho0) hb); replace BK554 := am (blk_below (g := gb554) (o := .cells #[.int .i64 ((rd_T52 l0 x4_1).f0), .int .i64 ((rd_T52 l0 x4_1).f1), .int .i64 ((rd_T52 l0 x4_1).f2), .int .i64 ((rd_T52 l0 x4_1).f3)] 52 (0, 0)) (kq BK554.out) hb); replace HB := am (below_step (Y11) hb); (try clear hb); (try clear hb2); (try clear hk); (try clear hi); (try clear ho0); have hcz27_0 := bc0 BK554.out; have hcz27_1 := bc1 BK554.out; have hcz27_2 := bc2 BK554.out; have hcz27_3 := bc3 BK554.out; have hfz27_0 := blk_frozen BK554.out 0; have hfz27_1 := blk_frozen BK554.out 1; have hfz27_2 := blk_frozen BK554.out 2; have hfz27_3 := blk_frozen BK554.out 3) | ((with_reducible refine gate_dst (N := 43) rfl ?_); refine Kd.R_lit k52 _ 52 ?hg (N := 43) ?hd (xs := ([(⟨(rd_T52 l0 x4_1).f0, 1, (rd_T52 l0 x4_1).f2, 0⟩ : S52), (⟨(rd_T52 l0 x4_1).f0, 7, 0, 0⟩ : S52)] : List (S52))) (inner := [.int .i64 ((rd_T52 l0 x4_1).f0), .int .i64 1, .int .i64 ((rd_T52 l0 x4_1).f2), .int .i64 0, .int .i64 ((rd_T52 l0 x4_1).f0), .int .i64 7, .int .i64 0, .int .i64 0]) (ok := fun _ => True) (okp := fun _ => True) ?hr ?hp (fun _ hk => hk) trivial (Below.refl _ _) (Nat.le_refl _) (by simp) ?_; (case hd => rfl); (case hg => rfl); (case hr => exact Y5); (case hp => exact (Reps.c4 (show Kd.M k52 _ _ _ (⟨(rd_T52 l0 x4_1).f0, 1, (rd_T52 l0 x4_1).f2, 0⟩ : S52) [.int .i64 ((rd_T52 l0 x4_1).f0), .int .i64 1, .int .i64 ((rd_T52 l0 x4_1).f2), .int .i64 0] from (k52_mkM _ _ _ (⟨(rd_T52 l0 x4_1).f0, 1, (rd_T52 l0 x4_1).f2, 0⟩ : S52) )) (Reps.c4 (show Kd.M k52 _ _ _ (⟨(rd_T52 l0 x4_1).f0, 7, 0, 0⟩ : S52) [.int .i64 ((rd_T52 l0 x4_1).f0), .int .i64 7, .int .i64 0, .int .i64 0] from (k52_mkM _ _ _ (⟨(rd_T52 l0 x4_1).f0, 7, 0, 0⟩ : S52) )) (Reps.none _ _)))); intro v563 w28 ho29 hb hg_ hnew_; clear hg_ hnew_; (first | rw [← Ny562.out] at ho29 | (simp only [Int.reduceToNat] at ho29; rw [← Ny562.out] at ho29)); have HO564 := am (Kd.R_lower (Kd.R_newB (Kd.R_new' (Kd.R_new' ho29 (Kd.R_lt (rq HO_3.out))) (Kd.R_lt (rq HO561.out))) (g := gb554) (o := .cells #[.int .i64 ((rd_T52 l0 x4_1).f0), .int .i64 ((rd_T52 l0 x4_1).f1), .int .i64 ((rd_T52 l0 x4_1).f2), .int .i64 ((rd_T52 l0 x4_1).f3)] 52 (0, 0)) (kq BK554.out)) (below_size (Y11))); replace HO_3 := am (Kd.R_elder' (rq HO_3.out) (Kd.R_base ho29) hb); replace HO561 := am (Kd.R_elder' (rq HO561.out) (Kd.R_base ho29) hb); replace BK554 := am (blk_below (g := gb554) (o := .cells #[.int .i64 ((rd_T52 l0 x4_1).f0), .int .i64 ((rd_T52 l0 x4_1).f1), .int .i64 ((rd_T52 l0 x4_1).f2), .int .i64 ((rd_T52 l0 x4_1).f3)] 52 (0, 0)) (kq BK554.out) hb); replace HB := am (below_step (Y11) hb); clear hb ho29; obtain ⟨Ao31, co31, eo31⟩ := Kd.R_slice HO564.out; subst eo31) | ((with_reducible refine gate_builtin (b := .append) (xs := #[.tmp 34, .tmp 43]) rfl ?_); at_builtin; refine Kd.R_append_rows k52 (w0 := w) w.heap.size rfl (.tmp 34) (.tmp 43) 34 52 (.agg #[(.int .i64 0), (.int .i64 0), (.int .i64 0), (.int .i64 0)]) 32 rfl Try.underlying34 info52 rfl (by decide) (by omega) u3 x3_1 y562 _ _ _ (fun k_ => some k_ ≠ (v560 : Value).ownBlock ∧ some k_ ≠ (.slice Ao31 y562.length co31 : Value).ownBlock ∧ k_ ≠ gb554) (fun _ => False) rfl rfl ?aO ?aR (fun _ _ h => h) (fun _ h => h.elim) ?aF ?aB ?aS ?aL ?_; (case aR => repeat (first | exact (Kd.R_reads' HO564.out).2.2 | (with_reducible refine Kd.C_alloc ?_ _) | (with_reducible refine Kd.C_drewN ?_ _) | (with_reducible refine Kd.C_drew ?_))); (case aB => exact (Y11)); (case aF => exact (fun k_ hk => ⟨Kd.fresh' (Kd.R_lt (rq HO561.out)) k_ hk, Kd.fresh' (Kd.R_lt (rq HO564.out)) k_ hk, Kd.freshB (g := gb554) (o := .cells #[.int .i64 ((rd_T52 l0 x4_1).f0), .int .i64 ((rd_T52 l0 x4_1).f1), .int .i64 ((rd_T52 l0 x4_1).f2), .int .i64 ((rd_T52 l0 x4_1).f3)] 52 (0, 0)) (kq BK554.out) k_ hk⟩)); (case aO => exact (by (with_reducible repeat (first | apply Kd.R_alloc | apply Kd.R_drewN | apply Kd.R_drew)); exact Kd.R_mono HO_3.out (fun _ hk => ⟨hk.1.2, ⟨hk.2, hk.1.1⟩⟩))); (case aS => exact (below_size (Y11))); (case aL => have := LMc14.out; omega); intro v566 w30 ho hb hg hat; rw [← Ny565.out] at ho; have n0_ := am (blk_grown (g := gb554) (o := .cells #[.int .i64 ((rd_T52 l0 x4_1).f0), .int .i64 ((rd_T52 l0 x4_1).f1), .int .i64 ((rd_T52 l0 x4_1).f2), .int .i64 ((rd_T52 l0 x4_1).f3)] 52 (0, 0)) (kq BK554.out) hg (Kd.R_away HO_3.out (fun _ hk => hk.1.1))); have n1_ := am (Kd.R_after (ok := (fun k_ => some k_ ≠ (.slice Ao31 y562.length co31 : Value).ownBlock ∧ k_ ≠ gb554)) (by (with_reducible repeat (first | apply Kd.R_alloc | apply Kd.R_drewN | apply Kd.R_drew)); exact Kd.R_mono HO561.out (fun _ hk => ⟨⟨hk.2, hk.1.2⟩, hk.1.1.2⟩)) hg hat); have n2_ := am (Kd.R_after (ok := (fun k_ => some k_ ≠ (v560 : Value).ownBlock ∧ k_ ≠ gb554)) (by (with_reducible repeat (first | apply Kd.R_alloc | apply Kd.R_drewN | apply Kd.R_drew)); exact Kd.R_mono HO564.out (fun _ hk => ⟨⟨hk.1.2, hk.2⟩, hk.1.1.2⟩)) hg hat); have n3_ := am (hb); have n4_ := am (ho); clear BK554 HO561 HO564 HB HO_3; have BK554 := n0_; have HO561 := n1_; have HO564 := n2_; have HB := n3_; have HO567 := n4_; clear n0_ n1_ n2_ n3_ n4_ ho hb hg hat; obtain ⟨Ao33, co33, eo33⟩ := Kd.R_slice HO561.out; subst eo33) | ((with_reducible refine gate_builtin (b := .append) (xs := #[.tmp 45, .tmp 46]) rfl ?_); at_builtin; refine Kd.R_append_rows k52 (w0 := w) w.heap.size rfl (.tmp 45) (.tmp 46) 34 52 (.agg #[(.int .i64 0), (.int .i64 0), (.int .i64 0), (.int .i64 0)]) 32 rfl Try.underlying34 info52 rfl (by decide) (by omega) v566 y565 t559 _ _ _ (fun k_ => some k_ ≠ (.slice Ao33 t559.length co33 : Value).ownBlock ∧ some k_ ≠ (.slice Ao31 y562.length co31 : Value).ownBlock ∧ k_ ≠ gb554) (fun _ => False) rfl rfl ?aO ?aR (fun _ _ h => h) (fun _ h => h.elim) ?aF ?aB ?aS ?aL ?_; (case aR => exact Y125); (case aB => exact (Y11)); (case aF => exact (fun k_ hk => ⟨Kd.fresh' (Kd.R_lt (rq HO561.out)) k_ hk, Kd.fresh' (Kd.R_lt (rq HO564.out)) k_ hk, Kd.freshB (g := gb554) (o := .cells #[.int .i64 ((rd_T52 l0 x4_1).f0), .int .i64 ((rd_T52 l0 x4_1).f1), .int .i64 ((rd_T52 l0 x4_1).f2), .int .i64 ((rd_T52 l0 x4_1).f3)] 52 (0, 0)) (kq BK554.out) k_ hk⟩)); (case aO => exact (rq HO567.out)); (case aS => exact (below_size (Y11))); (case aL => have := LMc15.out; omega); intro v569 w32 ho hb hg hat; rw [← Ny568.out] at ho; have n0_ := am (blk_grown (g := gb554) (o := .cells #[.int .i64 ((rd_T52 l0 x4_1).f0), .int .i64 ((rd_T52 l0 x4_1).f1), .int .i64 ((rd_T52 l0 x4_1).f2), .int .i64 ((rd_T52 l0 x4_1).f3)] 52 (0, 0)) (kq BK554.out) hg (Kd.R_away HO567.out (fun _ hk => hk.2.2))); have n1_ := am (Kd.R_after (ok := (fun k_ => some k_ ≠ (.slice Ao31 y562.length co31 : Value).ownBlock ∧ k_ ≠ gb554)) (rq HO561.out) hg hat); have n2_ := am (Kd.R_after (ok := (fun k_ => some k_ ≠ (.slice Ao33 t559.length co33 : Value).ownBlock ∧ k_ ≠ gb554)) (rq HO564.out) hg hat); have n3_ := am (hb); have n4_ := am (ho); clear BK554 HO561 HO564 HB HO567; have BK554 := n0_; have HO561 := n1_; have HO564 := n2_; have HB := n3_; have HO570 := n4_; clear n0_ n1_ n2_ n3_ n4_ ho hb hg hat; have hcz34_0 := bc0 BK554.out; have hcz34_1 := bc1 BK554.out; have hcz34_2 := bc2 BK554.out; have hcz34_3 := bc3 BK554.out; have hfz34_0 := blk_frozen BK554.out 0; have hfz34_1 := blk_frozen BK554.out 1; have hfz34_2 := blk_frozen BK554.out 2; have hfz34_3 := blk_frozen BK554.out 3) | ((with_reducible refine gate_dst (N := 58) rfl ?_); refine Kd.R_lit k52 _ 52 ?hg (N := 58) ?hd (xs := ([(⟨(rd_T52 l0 x4_1).f0, 10, 0, 0⟩ : S52), (⟨wrap64 (((rd_T52 l0 x4_1).f0) + 1), 1, (rd_T52 l0 x4_1).f2, 0⟩ : S52)] : List (S52))) (inner := [.int .i64 ((rd_T52 l0 x4_1).f0), .int .i64 10, .int .i64 0, .int .i64 0, .int .i64 (wrap64 (((rd_T52 l0 x4_1).f0) + 1)), .int .i64 1, .int .i64 ((rd_T52 l0 x4_1).f2), .int .i64 0]) (ok := fun _ => True) (okp := fun _ => True) ?hr ?hp (fun _ hk => hk) trivial (Below.refl _ _) (Nat.le_refl _) (by simp) ?_; (case hd => rfl); (case hg => rfl); (case hr => exact Y5); (case hp => exact (Reps.c4 (show Kd.M k52 _ _ _ (⟨(rd_T52 l0 x4_1).f0, 10, 0, 0⟩ : S52) [.int .i64 ((rd_T52 l0 x4_1).f0), .int .i64 10, .int .i64 0, .int .i64 0] from (k52_mkM _ _ _ (⟨(rd_T52 l0 x4_1).f0, 10, 0, 0⟩ : S52) )) (Reps.c4 (show Kd.M k52 _ _ _ (⟨wrap64 (((rd_T52 l0 x4_1).f0) + 1), 1, (rd_T52 l0 x4_1).f2, 0⟩ : S52) [.int .i64 (wrap64 (((rd_T52 l0 x4_1).f0) + 1)), .int .i64 1, .int .i64 ((rd_T52 l0 x4_1).f2), .int .i64 0] from (k52_mkM _ _ _ (⟨wrap64 (((rd_T52 l0 x4_1).f0) + 1), 1, (rd_T52 l0 x4_1).f2, 0⟩ : S52) )) (Reps.none _ _)))); intro v572 w35 ho36 hb hg_ hnew_; clear hg_ hnew_; (first | rw [← Ny571.out] at ho36 | (simp only [Int.reduceToNat] at ho36; rw [← Ny571.out] at ho36)); have HO573 := am (Kd.R_lower (Kd.R_newB (Kd.R_new' (Kd.R_new' (Kd.R_new' ho36 (Kd.R_lt (rq HO561.out))) (Kd.R_lt (rq HO564.out))) (Kd.R_lt (rq HO570.out))) (g := gb554) (o := .cells #[.int .i64 ((rd_T52 l0 x4_1).f0), .int .i64 ((rd_T52 l0 x4_1).f1), .int .i64 ((rd_T52 l0 x4_1).f2), .int .i64 ((rd_T52 l0 x4_1).f3)] 52 (0, 0)) (kq BK554.out)) (below_size (Y11))); replace HO561 := am (Kd.R_elder' (rq HO561.out) (Kd.R_base ho36) hb); replace HO564 := am (Kd.R_elder' (rq HO564.out) (Kd.R_base ho36) hb); replace HO570 := am (Kd.R_elder' (rq HO570.out) (Kd.R_base ho36) hb); replace BK554 := am (blk_below (g := gb554) (o := .cells #[.int .i64 ((rd_T52 l0 x4_1).f0), .int .i64 ((rd_T52 l0 x4_1).f1), .int .i64 ((rd_T52 l0 x4_1).f2), .int .i64 ((rd_T52 l0 x4_1).f3)] 52 (0, 0)) (kq BK554.out) hb); replace HB := am (below_step (Y11) hb); clear hb ho36; obtain ⟨Ao38, co38, eo38⟩ := Kd.R_slice HO573.out; subst eo38) | ((with_reducible refine gate_builtin (b := .append) (xs := #[.tmp 48, .tmp 58]) rfl ?_); at_builtin; refine Kd.R_append_rows k52 (w0 := w) w.heap.size rfl (.tmp 48) (.tmp 58) 34 52 (.agg #[(.int .i64 0), (.int .i64 0), (.int .i64 0), (.int .i64 0)]) 32 rfl Try.underlying34 info52 rfl (by decide) (by omega) v569 y568 y571 _ _ _ (fun k_ => some k_ ≠ (.slice Ao33 t559.length co33 : Value).ownBlock ∧ some k_ ≠ (.slice Ao31 y562.length co31 : Value).ownBlock ∧ some k_ ≠ (.slice Ao38 y571.length co38 : Value).ownBlock ∧ k_ ≠ gb554) (fun _ => False) rfl rfl ?aO ?aR (fun _ _ h => h) (fun _ h => h.elim) ?aF ?aB ?aS ?aL ?_; (case aR => repeat (first | exact (Kd.R_reads' HO573.out).2.2 | (with_reducible refine Kd.C_alloc ?_ _) | (with_reducible refine Kd.C_drewN ?_ _) | (with_reducible refine Kd.C_drew ?_))); (case aB => exact (Y11)); (case aF => exact (fun k_ hk => ⟨Kd.fresh' (Kd.R_lt (rq HO561.out)) k_ hk, Kd.fresh' (Kd.R_lt (rq HO564.out)) k_ hk, Kd.fresh' (Kd.R_lt (rq HO573.out)) k_ hk, Kd.freshB (g := gb554) (o := .cells #[.int .i64 ((rd_T52 l0 x4_1).f0), .int .i64 ((rd_T52 l0 x4_1).f1), .int .i64 ((rd_T52 l0 x4_1).f2), .int .i64 ((rd_T52 l0 x4_1).f3)] 52 (0, 0)) (kq BK554.out) k_ hk⟩)); (case aO => exact (by (with_reducible repeat (first | apply Kd.R_alloc | apply Kd.R_drewN | apply Kd.R_drew)); exact Kd.R_mono HO570.out (fun _ hk => ⟨hk.1.1, ⟨hk.1.2.1, ⟨hk.2, hk.1.2.2⟩⟩⟩))); (case aS => exact (below_size (Y11))); (case aL => have := LMc16.out; omega); intro v575 w37 ho hb hg hat; rw [← Ny574.out] at ho; have n0_ := am (blk_grown (g := gb554) (o := .cells #[.int .i64 ((rd_T52 l0 x4_1).f0), .int .i64 ((rd_T52 l0 x4_1).f1), .int .i64 ((rd_T52 l0 x4_1).f2), .int .i64 ((rd_T52 l0 x4_1).f3)] 52 (0, 0)) (kq BK554.out) hg (Kd.R_away HO570.out (fun _ hk => hk.1.2.2))); have n1_ := am (Kd.R_after (ok := (fun k_ => some k_ ≠ (.slice Ao31 y562.length co31 : Value).ownBlock ∧ some k_ ≠ (.slice Ao38 y571.length co38 : Value).ownBlock ∧ k_ ≠ gb554)) (by (with_reducible repeat (first | apply Kd.R_alloc | apply Kd.R_drewN | apply Kd.R_drew)); exact Kd.R_mono HO561.out (fun _ hk => ⟨⟨hk.1.1.1, ⟨hk.2, hk.1.1.2⟩⟩, hk.1.2⟩)) hg hat); have n2_ := am (Kd.R_after (ok := (fun k_ => some k_ ≠ (.slice Ao33 t559.length co33 : Value).ownBlock ∧ some k_ ≠ (.slice Ao38 y571.length co38 : Value).ownBlock ∧ k_ ≠ gb554)) (by (with_reducible repeat (first | apply Kd.R_alloc | apply Kd.R_drewN | apply Kd.R_drew)); exact Kd.R_mono HO564.out (fun _ hk => ⟨⟨hk.1.1.1, ⟨hk.2, hk.1.1.2⟩⟩, hk.1.2⟩)) hg hat); have n3_ := am (Kd.R_after (ok := (fun k_ => some k_ ≠ (.slice Ao33 t559.length co33 : Value).ownBlock ∧ some k_ ≠ (.slice Ao31 y562.length co31 : Value).ownBlock ∧ k_ ≠ gb554)) (by (with_reducible repeat (first | apply Kd.R_alloc | apply Kd.R_drewN | apply Kd.R_drew)); exact Kd.R_mono HO573.out (fun _ hk => ⟨⟨hk.1.1.1.2, ⟨hk.1.1.2, hk.2⟩⟩, hk.1.2⟩)) hg hat); have n4_ := am (hb); have n5_ := am (ho); clear BK554 HO561 HO564 HO573 HB HO570; have BK554 := n0_; have HO561 := n1_; have HO564 := n2_; have HO573 := n3_; have HB := n4_; have HO576 := n5_; clear n0_ n1_ n2_ n3_ n4_ n5_ ho hb hg hat))
             go_roundg k1
             case measure => have := HK1.out; omega
             case rel => exact ⟨(y574), (t553), (sq), H', ⟨by have := HK1.out; omega⟩, ⟨by (with_reducible repeat (first | apply Kd.R_alloc | apply Kd.R_drewN | apply Kd.R_drew)); exact Kd.R_mono HO576.out (fun _ hk => trivial)⟩, ⟨Y11⟩⟩
            ·rw [if_neg c16] at H
             exact absurd H (by simp)
           ·rw [if_neg c15] at H
            exact absurd H (by simp)
          ·rw [if_neg c14] at H
           exact absurd H (by simp)
         ·rw [if_neg c13] at H
          have c13b0 : (((rd_T52 l0 x4_1).f3) == 0) = false := beq_eq_false_iff_ne.mpr c13
          have c13b1 : (((rd_T52 l0 x4_1).f3) != 0) = true := bne_iff_ne.mpr c13
          by_cases c39 : x3_1.length < 4398046511104
          ·rw [if_pos c39] at H
           have LMc39 := am c39
           clear c39
           obtain ⟨y577, hy577⟩ : ∃ y_ : List (S52), y_ = (x3_1 ++ [(⟨(rd_T52 l0 x4_1).f0, (rd_T52 l0 x4_1).f1, (rd_T52 l0 x4_1).f2, (rd_T52 l0 x4_1).f3⟩ : S52)]) := ⟨_, rfl⟩
           replace H : (if y577.length + t559.length < 4398046511104 then (impl_lowered.l0 k1 l0 (y577 ++ t559) t553) else (none)) = some r := by first | (rw [hy577]; with_reducible exact H) | (have H2_ := (Option.bind_some _ _).symm.trans H; rw [hy577]; with_reducible exact H2_) | (have H2_ := (Option.bind_some _ _).symm.trans H; with_reducible exact H2_) | with_reducible exact H | (rw [hy577]; exact H) | exact H
           have Ny577 := am hy577
           clear hy577
           by_cases c40 : y577.length + t559.length < 4398046511104
           ·rw [if_pos c40] at H
            have LMc40 := am c40
            clear c40
            obtain ⟨y580, hy580⟩ : ∃ y_ : List (S52), y_ = (y577 ++ t559) := ⟨_, rfl⟩
            replace H : (impl_lowered.l0 k1 l0 y580 t553) = some r := by first | (rw [hy580]; with_reducible exact H) | (have H2_ := (Option.bind_some _ _).symm.trans H; rw [hy580]; with_reducible exact H2_) | (have H2_ := (Option.bind_some _ _).symm.trans H; with_reducible exact H2_) | with_reducible exact H | (rw [hy580]; exact H) | exact H
            have Ny580 := am hy580
            clear hy580
            have H' := am H
            clear H
            try go_wp2
            replace HO_3 := am (Kd.R_drew HO_3.out)
            replace HB := am (below_drew1 HB.out)
            have p552 : 0 ≤ (x4_1 : Int) := of_decide_eq_true (uq)
            have q552 : x4_1 < (l0.length : Int) := of_decide_eq_true (uq)
            obtain ⟨ad552, e552, hx552_0, hx552_1, hx552_2, hx552_3⟩ := at_T52 HR0.out x4_1 p552 q552
            have hw552_3 := hx552_3
            have hw552_2 := hx552_2
            have hw552_1 := hx552_1
            have hw552_0 := hx552_0
            cases e552
            replace hx552_0 := cb HB.out hx552_0
            replace hx552_1 := cb HB.out hx552_1
            replace hx552_2 := cb HB.out hx552_2
            replace hx552_3 := cb HB.out hx552_3
            replace p552 := eq_true p552
            replace q552 := eq_true q552
            refine start_ (n := 10) (S := fun w' => w'.cell? (ad552.add ((x4_1).toNat * 4)) = some (.int .i64 ((rd_T52 l0 x4_1).f0)) ∧ w'.cell? ⟨(ad552.add ((x4_1).toNat * 4)).block, (ad552.add ((x4_1).toNat * 4)).off + 1, none⟩ = some (.int .i64 ((rd_T52 l0 x4_1).f1)) ∧ w'.cell? ⟨(ad552.add ((x4_1).toNat * 4)).block, (ad552.add ((x4_1).toNat * 4)).off + 2, none⟩ = some (.int .i64 ((rd_T52 l0 x4_1).f2)) ∧ w'.cell? ⟨(ad552.add ((x4_1).toNat * 4)).block, (ad552.add ((x4_1).toNat * 4)).off + 3, none⟩ = some (.int .i64 ((rd_T52 l0 x4_1).f3))) (ds := []) #[false, false, false, false, false, false, false, false, false, false] (by kernel_rfl) rfl rfl ⟨((HB.out.cell (World.block_lt_of_cell? w _ hw552_0)).trans hw552_0), ((HB.out.cell (World.block_lt_of_cell? w _ hw552_1)).trans hw552_1), ((HB.out.cell (World.block_lt_of_cell? w _ hw552_2)).trans hw552_2), ((HB.out.cell (World.block_lt_of_cell? w _ hw552_3)).trans hw552_3)⟩ (fun hHeld => ?_); refine with_tabW impl_lowered.tab4 impl_lowered.bits4 (fun HT_ HW_ => ?_)
            generalize wr.drew = w41 at HO_3 HB hx552_0 hx552_1 hx552_2 hx552_3 hHeld ⊢
            refine pq (i := 0) (N := some 13) #[true, false, false, false, false, false, false, false, false, false] ?_
            refine pq (i := 1) (N := some 14) #[true, true, false, false, false, false, false, false, false, false] ?_
            refine pq (i := 2) (N := some 15) #[true, true, true, false, false, false, false, false, false, false] ?_
            refine pq (i := 4) (N := some 17) #[true, true, true, false, true, false, false, false, false, false] ?_
            refine pq (i := 5) (N := some 18) #[true, true, true, false, true, true, false, false, false, false] ?_
            refine take_ (i := 3) (N := some 16) (v := ?_) (a' := ?_) #[true, true, true, true, true, true, false, false, false, false] rfl rfl (take_ofW HT_.out HW_.out (by kernel_rfl)) (fun _ _ _ h => h) (Or.inl ⟨by rfl, ?_⟩) hHeld ?_ ?_
            rotate_left
            ·rintro w' ⟨s0, s1, s2, s3⟩
             go_simp
             with_reducible rfl
            rotate_left
            ·exact sa
            refine join_ (σ := Nat) 2 #[true, true, true, true, true, true, true, true, false, false] (fun s_ => [(19, .int .i64 t553), (5, .pointer (some ⟨s_, 0, none⟩))]) (fun s_ w' => (w'.cell? (ad552.add ((x4_1).toNat * 4)) = some (.int .i64 ((rd_T52 l0 x4_1).f0)) ∧ w'.cell? ⟨(ad552.add ((x4_1).toNat * 4)).block, (ad552.add ((x4_1).toNat * 4)).off + 1, none⟩ = some (.int .i64 ((rd_T52 l0 x4_1).f1)) ∧ w'.cell? ⟨(ad552.add ((x4_1).toNat * 4)).block, (ad552.add ((x4_1).toNat * 4)).off + 2, none⟩ = some (.int .i64 ((rd_T52 l0 x4_1).f2)) ∧ w'.cell? ⟨(ad552.add ((x4_1).toNat * 4)).block, (ad552.add ((x4_1).toNat * 4)).off + 3, none⟩ = some (.int .i64 ((rd_T52 l0 x4_1).f3))) ∧ (Kd.R k52 52 w' w.heap.size (fun k_ => k_ ≠ s_) u3 x3_1) ∧ (w'.heap[s_]? = some (.cells #[.int .i64 0, .int .i64 0, .int .i64 0, .int .i64 0] 52 (0, 0))) ∧ (w.heap.size ≤ s_) ∧ (w.heap.size ≤ s_) ∧ (Below w.heap.size w w')) ?_ ?_
            rotate_left
            ·intro hCont
             refine two_ (i := 6) (j := 7) (Ni := some 19) (Nj := some 5) #[true, true, true, true, true, true, true, false, false, false] #[true, true, true, true, true, true, false, true, false, false] rfl rfl rfl rfl (two_of HT_.out (by kernel_rfl)) (by decide) (by decide) (fun K hK => ?_) (fun K hK => ?_)
             ·skip
              refine goes_ Try.func89 (by kernel_rfl) rfl #[.slice (some ad552) l0.length c0, .int .i64 x4_1] (by rfl) rfl rfl (aq) ?_
              with_reducible refine (impl_endOf.calls k1 _ _ l0 x4_1 t553 _ ?side1 ?side2 A6.out).mono ?_
              (case side1 => exact cq (Kd.C_below HR0.out HB.out))
              (case side2 => exact HC0.out)
              rintro e w' ⟨rfl, ⟨nd, rfl⟩⟩
              refine ⟨_, rfl, ?_⟩
              refine hK.out _ _ ⟨((HB.out.cell (World.block_lt_of_cell? w _ hw552_0)).trans hw552_0), ((HB.out.cell (World.block_lt_of_cell? w _ hw552_1)).trans hw552_1), ((HB.out.cell (World.block_lt_of_cell? w _ hw552_2)).trans hw552_2), ((HB.out.cell (World.block_lt_of_cell? w _ hw552_3)).trans hw552_3)⟩ (fun hHeld => ?_)
              clear hK K
              refine norm_ (a' := ?_) ?_ ?_
              rotate_left
              ·show Act.put _ (some 19) _ = _
               simp only [Act.put, List.setIfInBounds_toArray, List.set_cons_zero, List.set_cons_succ, i64_w, i32_w]
               rfl
              refine one_ (i := 7) (N := some 5) #[true, true, true, true, true, true, true, true, false, false] rfl rfl (one_of HT_.out (by kernel_rfl)) (by decide) (fun K hK => ?_)
              refine box_step ?hg (N := 5) ?hd (cs := #[.int .i64 0, .int .i64 0, .int .i64 0, .int .i64 0]) (t := 52) ?hr ?_; (case hd => rfl); (case hg => rfl); (case hr => exact Y5)
              intro gb554 hg w42 hbox hb
              have BK554 := am (hbox)
              have GW554 := am ((Y1 : w.heap.size ≤ gb554))
              have GE554 := am ((Y1 : w.heap.size ≤ gb554))
              replace HO_3 := am (Kd.R_below (Kd.R_elderB (rq HO_3.out) gb554 (Nat.le_of_eq hg.symm)) hb)
              replace HB := am (below_step (bq) hb)
              clear hb hbox hg
              refine hK.out _ _ ⟨((HB.out.cell (World.block_lt_of_cell? w _ hw552_0)).trans hw552_0), ((HB.out.cell (World.block_lt_of_cell? w _ hw552_1)).trans hw552_1), ((HB.out.cell (World.block_lt_of_cell? w _ hw552_2)).trans hw552_2), ((HB.out.cell (World.block_lt_of_cell? w _ hw552_3)).trans hw552_3)⟩ (fun hHeld => ?_)
              clear hK K
              refine norm_ (a' := ?_) ?_ ?_
              rotate_left
              ·show Act.put _ (some 5) _ = _
               simp only [Act.put, List.setIfInBounds_toArray, List.set_cons_zero, List.set_cons_succ, i64_w, i32_w]
               rfl
              exact norm_ (by simp only [putAll, Act.put, List.setIfInBounds_toArray, List.set_cons_zero, List.set_cons_succ]) (hCont (gb554) _ ⟨hHeld, (Y78), (kq BK554.out), GW554.out, GE554.out, (Y11)⟩)
             ·skip
              refine box_step ?hg (N := 5) ?hd (cs := #[.int .i64 0, .int .i64 0, .int .i64 0, .int .i64 0]) (t := 52) ?hr ?_; (case hd => rfl); (case hg => rfl); (case hr => exact Y5)
              intro gb554 hg w42 hbox hb
              have BK554 := am (hbox)
              have GW554 := am ((Y1 : w.heap.size ≤ gb554))
              have GE554 := am ((Y1 : w.heap.size ≤ gb554))
              replace HO_3 := am (Kd.R_below (Kd.R_elderB (rq HO_3.out) gb554 (Nat.le_of_eq hg.symm)) hb)
              replace HB := am (below_step (bq) hb)
              clear hb hbox hg
              refine hK.out _ _ ⟨((HB.out.cell (World.block_lt_of_cell? w _ hw552_0)).trans hw552_0), ((HB.out.cell (World.block_lt_of_cell? w _ hw552_1)).trans hw552_1), ((HB.out.cell (World.block_lt_of_cell? w _ hw552_2)).trans hw552_2), ((HB.out.cell (World.block_lt_of_cell? w _ hw552_3)).trans hw552_3)⟩ (fun hHeld => ?_)
              clear hK K
              refine norm_ (a' := ?_) ?_ ?_
              rotate_left
              ·show Act.put _ (some 5) _ = _
               simp only [Act.put, List.setIfInBounds_toArray, List.set_cons_zero, List.set_cons_succ, i64_w, i32_w]
               rfl
              refine one_ (i := 6) (N := some 19) #[true, true, true, true, true, true, true, true, false, false] rfl rfl (one_of HT_.out (by kernel_rfl)) (by decide) (fun K hK => ?_)
              refine goes_ Try.func89 (by kernel_rfl) rfl #[.slice (some ad552) l0.length c0, .int .i64 x4_1] (by rfl) rfl rfl (aq) ?_
              with_reducible refine (impl_endOf.calls k1 _ _ l0 x4_1 t553 _ ?side1 ?side2 A6.out).mono ?_
              (case side1 => exact cq (Kd.C_below HR0.out HB.out))
              (case side2 => exact HC0.out)
              rintro e w' ⟨rfl, ⟨nd, rfl⟩⟩
              refine ⟨_, rfl, ?_⟩
              refine hK.out _ _ ⟨((HB.out.cell (World.block_lt_of_cell? w _ hw552_0)).trans hw552_0), ((HB.out.cell (World.block_lt_of_cell? w _ hw552_1)).trans hw552_1), ((HB.out.cell (World.block_lt_of_cell? w _ hw552_2)).trans hw552_2), ((HB.out.cell (World.block_lt_of_cell? w _ hw552_3)).trans hw552_3)⟩ (fun hHeld => ?_)
              clear hK K
              refine norm_ (a' := ?_) ?_ ?_
              rotate_left
              ·show Act.put _ (some 19) _ = _
               simp only [Act.put, List.setIfInBounds_toArray, List.set_cons_zero, List.set_cons_succ, i64_w, i32_w]
               rfl
              exact norm_ (by simp only [putAll, Act.put, List.setIfInBounds_toArray, List.set_cons_zero, List.set_cons_succ]) (hCont (gb554) _ ⟨hHeld, (Y78), (kq BK554.out), GW554.out, GE554.out, (Y11)⟩)
            rintro gb554 w43 ⟨hS_, h0_, h1_, h2_, h3_, h4_⟩
            have n0_ : Aside0 (Kd.R k52 52 w43 w.heap.size (fun k_ => k_ ≠ gb554) u3 x3_1) := ⟨h0_⟩
            have n1_ : Aside0 (w43.heap[gb554]? = some (.cells #[.int .i64 0, .int .i64 0, .int .i64 0, .int .i64 0] 52 (0, 0))) := ⟨h1_⟩
            have n2_ : Aside0 (w.heap.size ≤ gb554) := ⟨h2_⟩
            have n3_ : Aside0 (w.heap.size ≤ gb554) := ⟨h3_⟩
            have n4_ : Aside0 (Below w.heap.size w w43) := ⟨h4_⟩
            clear HO_3
            clear HB
            clear h0_ h1_ h2_ h3_ h4_
            have HO_3 := n0_
            have BK554 := n1_
            have GW554 := n2_
            have GE554 := n3_
            have HB := n4_
            clear n0_ n1_ n2_ n3_ n4_
            have hHeld : w43.cell? (ad552.add ((x4_1).toNat * 4)) = some (.int .i64 ((rd_T52 l0 x4_1).f0)) ∧ w43.cell? ⟨(ad552.add ((x4_1).toNat * 4)).block, (ad552.add ((x4_1).toNat * 4)).off + 1, none⟩ = some (.int .i64 ((rd_T52 l0 x4_1).f1)) ∧ w43.cell? ⟨(ad552.add ((x4_1).toNat * 4)).block, (ad552.add ((x4_1).toNat * 4)).off + 2, none⟩ = some (.int .i64 ((rd_T52 l0 x4_1).f2)) ∧ w43.cell? ⟨(ad552.add ((x4_1).toNat * 4)).block, (ad552.add ((x4_1).toNat * 4)).off + 3, none⟩ = some (.int .i64 ((rd_T52 l0 x4_1).f3)) := hS_
            refine norm_ (a' := ?_) ?_ ?_
            rotate_left
            ·simp only [putAll, Act.put, List.setIfInBounds_toArray, List.set_cons_zero, List.set_cons_succ]
             rfl
            refine one_ (i := 8) (N := none) #[true, true, true, true, true, true, true, true, true, false] rfl rfl (one_of HT_.out (by kernel_rfl)) (by decide) (fun K hK => ?_)
            have hs44 : w43.cell? ⟨gb554, 0, none⟩ = some (.int .i64 0) := (blk_cell BK554.out 0).trans rfl
            have hfs44 := blk_frozen BK554.out 0
            have hs45 : w43.cell? ⟨gb554, 1, none⟩ = some (.int .i64 0) := (blk_cell BK554.out 1).trans rfl
            have hfs45 := blk_frozen BK554.out 1
            have hs46 : w43.cell? ⟨gb554, 2, none⟩ = some (.int .i64 0) := (blk_cell BK554.out 2).trans rfl
            have hfs46 := blk_frozen BK554.out 2
            have hs47 : w43.cell? ⟨gb554, 3, none⟩ = some (.int .i64 0) := (blk_cell BK554.out 3).trans rfl
            have hfs47 := blk_frozen BK554.out 3
            refine skip_ (w1 := ?_) (by rfl) rfl ?_ ?_
            rotate_left
            ·go_simp
             rfl
            refine hK.out _ _ ⟨((cell_far (p := ⟨gb554, _, none⟩) (Y41) _).trans (((cell_far (p := ⟨gb554, _, none⟩) (Y41) _).trans (((cell_far (p := ⟨gb554, _, none⟩) (Y41) _).trans (((cell_far (p := ⟨gb554, _, none⟩) (Y41) _).trans (hHeld.1)))))))), ((cell_far (p := ⟨gb554, _, none⟩) (Y42) _).trans (((cell_far (p := ⟨gb554, _, none⟩) (Y42) _).trans (((cell_far (p := ⟨gb554, _, none⟩) (Y42) _).trans (((cell_far (p := ⟨gb554, _, none⟩) (Y42) _).trans (hHeld.2.1)))))))), ((cell_far (p := ⟨gb554, _, none⟩) (Y43) _).trans (((cell_far (p := ⟨gb554, _, none⟩) (Y43) _).trans (((cell_far (p := ⟨gb554, _, none⟩) (Y43) _).trans (((cell_far (p := ⟨gb554, _, none⟩) (Y43) _).trans (hHeld.2.2.1)))))))), ((cell_far (p := ⟨gb554, _, none⟩) (Y44) _).trans (((cell_far (p := ⟨gb554, _, none⟩) (Y44) _).trans (((cell_far (p := ⟨gb554, _, none⟩) (Y44) _).trans (((cell_far (p := ⟨gb554, _, none⟩) (Y44) _).trans (hHeld.2.2.2))))))))⟩ (fun hHeld => ?_)
            clear hK K
            refine pq (i := 9) (N := some 6) #[true, true, true, true, true, true, true, true, true, true] ?_
            refine done_ (done_of HT_.out (by kernel_rfl)) ?_
            have n0_ : Aside0 (Kd.R k52 52 ((((w43.setCell ⟨gb554, 0, none⟩ (.int .i64 ((rd_T52 l0 x4_1).f0))).setCell ⟨gb554, 1, none⟩ (.int .i64 ((rd_T52 l0 x4_1).f1))).setCell ⟨gb554, 2, none⟩ (.int .i64 ((rd_T52 l0 x4_1).f2))).setCell ⟨gb554, 3, none⟩ (.int .i64 ((rd_T52 l0 x4_1).f3))) w.heap.size (fun k_ => k_ ≠ gb554) u3 x3_1) := ⟨by (with_reducible repeat (first | apply Kd.R_alloc | apply Kd.R_drewN | apply Kd.R_drew)); exact Kd.R_mono (Kd.R_far (p := ⟨gb554, 3, none⟩) (Kd.R_far (p := ⟨gb554, 2, none⟩) (Kd.R_far (p := ⟨gb554, 1, none⟩) (Kd.R_far (p := ⟨gb554, 0, none⟩) (Kd.R_mono HO_3.out (fun k_ hk => (⟨hk, hk⟩ : _ ∧ k_ ≠ gb554))) (fun _ hk => hk.2) (.int .i64 ((rd_T52 l0 x4_1).f0))) (fun _ hk => hk.2) (.int .i64 ((rd_T52 l0 x4_1).f1))) (fun _ hk => hk.2) (.int .i64 ((rd_T52 l0 x4_1).f2))) (fun _ hk => hk.2) (.int .i64 ((rd_T52 l0 x4_1).f3))) (fun _ hk => hk.1)⟩
            have n1_ : Aside0 (((((w43.setCell ⟨gb554, 0, none⟩ (.int .i64 ((rd_T52 l0 x4_1).f0))).setCell ⟨gb554, 1, none⟩ (.int .i64 ((rd_T52 l0 x4_1).f1))).setCell ⟨gb554, 2, none⟩ (.int .i64 ((rd_T52 l0 x4_1).f2))).setCell ⟨gb554, 3, none⟩ (.int .i64 ((rd_T52 l0 x4_1).f3))).heap[gb554]? = some (.cells #[.int .i64 ((rd_T52 l0 x4_1).f0), .int .i64 ((rd_T52 l0 x4_1).f1), .int .i64 ((rd_T52 l0 x4_1).f2), .int .i64 ((rd_T52 l0 x4_1).f3)] 52 (0, 0))) := ⟨by (with_reducible repeat (first | refine blk_drewN ?_ _ | refine blk_drew ?_ | refine blk_alloc ?_ _)); refine blk_put (cs := #[.int .i64 ((rd_T52 l0 x4_1).f0), .int .i64 ((rd_T52 l0 x4_1).f1), .int .i64 ((rd_T52 l0 x4_1).f2), .int .i64 0]) ?_ 3 _ rfl; (with_reducible repeat (first | refine blk_drewN ?_ _ | refine blk_drew ?_ | refine blk_alloc ?_ _)); refine blk_put (cs := #[.int .i64 ((rd_T52 l0 x4_1).f0), .int .i64 ((rd_T52 l0 x4_1).f1), .int .i64 0, .int .i64 0]) ?_ 2 _ rfl; (with_reducible repeat (first | refine blk_drewN ?_ _ | refine blk_drew ?_ | refine blk_alloc ?_ _)); refine blk_put (cs := #[.int .i64 ((rd_T52 l0 x4_1).f0), .int .i64 0, .int .i64 0, .int .i64 0]) ?_ 1 _ rfl; (with_reducible repeat (first | refine blk_drewN ?_ _ | refine blk_drew ?_ | refine blk_alloc ?_ _)); refine blk_put (cs := #[.int .i64 0, .int .i64 0, .int .i64 0, .int .i64 0]) ?_ 0 _ rfl; (with_reducible repeat (first | refine blk_drewN ?_ _ | refine blk_drew ?_ | refine blk_alloc ?_ _)); exact BK554.out⟩
            have n2_ : Aside0 (Below w.heap.size w ((((w43.setCell ⟨gb554, 0, none⟩ (.int .i64 ((rd_T52 l0 x4_1).f0))).setCell ⟨gb554, 1, none⟩ (.int .i64 ((rd_T52 l0 x4_1).f1))).setCell ⟨gb554, 2, none⟩ (.int .i64 ((rd_T52 l0 x4_1).f2))).setCell ⟨gb554, 3, none⟩ (.int .i64 ((rd_T52 l0 x4_1).f3)))) := ⟨Y11⟩
            (try clear HO_3)
            (try clear BK554)
            (try clear HB)
            generalize ((((w43.setCell ⟨gb554, 0, none⟩ (.int .i64 ((rd_T52 l0 x4_1).f0))).setCell ⟨gb554, 1, none⟩ (.int .i64 ((rd_T52 l0 x4_1).f1))).setCell ⟨gb554, 2, none⟩ (.int .i64 ((rd_T52 l0 x4_1).f2))).setCell ⟨gb554, 3, none⟩ (.int .i64 ((rd_T52 l0 x4_1).f3))) = w48 at n0_ n1_ n2_ ⊢
            have HO_3 := n0_
            have BK554 := n1_
            have HB := n2_
            clear n0_ n1_ n2_
            have q49 : (t553 : Int) ≤ ((l0.length : Int) : Int) := of_decide_eq_true (uq)
            obtain ⟨i049, hi049, _, hsz49, _⟩ := info_parts info52
            have hroom49 : l0.length ≤ c0 := HC0.out
            have hC49 : Kd.C k52 _ (some ad552) l0.length l0 := HR0.out
            have ql49 : ((ji7) : Int) ≤ (t553 : Int) := of_decide_eq_true (uq)
            have q049 : (0 : Int) ≤ ((ji7) : Int) := of_decide_eq_true (uq)
            have hcut49 := cut_mid (P := Try.prog) 34 52 .i64 .i64 Try.underlying34 hi049 4 hsz49 (some ad552) l0.length c0 (ji7) t553 q049 ql49 q49 hroom49
            have hr49 := Kd.C_mid (lo := ((ji7) : Int).toNat) (hi := (t553 : Int).toNat) (c := c0) hC49 (by omega) (by omega) hroom49
            obtain ⟨A49, hA49⟩ : ∃ A1, A1 = (if c0 = ((ji7) : Int).toNat then (some ad552) else ((some ad552) : Option Addr).map (·.add (((ji7) : Int).toNat * 4))) := ⟨_, rfl⟩
            obtain ⟨c49, hc49⟩ : ∃ c1, c1 = c0 - ((ji7) : Int).toNat := ⟨_, rfl⟩
            have hy49 : y555.length = (t553 : Int).toNat - ((ji7) : Int).toNat := (by rw [Ny555.out, List.length_drop, List.length_take] <;> omega)
            rw [show ((l0).take (t553 : Int).toNat).drop ((ji7) : Int).toNat = y555 from Ny555.out.symm] at hr49
            replace hr49 : Kd.C k52 _ A49 y555.length y555 := (by rw [hA49]; exact hr49)
            rw [← hy49, ← hA49, ← hc49] at hcut49
            have HR558 := am hr49
            have HC558 := am (show y555.length ≤ c49 from by rw [hy49, hc49]; exact Nat.sub_le_sub_right (Nat.le_trans (by omega) hroom49) _)
            clear hr49 hC49 hroom49 hi049 hsz49 hc49
            have KY49 := am hy49
            have KA49 := am hA49
            clear hy49 hA49
            replace q49 := eq_true q49
            try go_wp2_with (first | ((with_reducible refine gate_callee (f := 59) rfl ?_); refine gL (some 25) Try.func59 #[.slice A49 y555.length c49] ?_; (with_reducible refine (ih k1 (by have := HK1.out; omega) _ _ y555 t559 _ ?side1 ?side2 A11.out).mono ?_); (case side1 => exact cq (Kd.C_below HR558.out HB.out)); (case side2 => exact HC558.out); rintro e w50 ⟨v560, rfl, ho0, hb⟩; refine ⟨_, rfl, ?_⟩; have HO561 := am (Kd.R_lower (Kd.R_newB (Kd.R_new' ho0 (Kd.R_lt (rq HO_3.out))) (g := gb554) (o := .cells #[.int .i64 ((rd_T52 l0 x4_1).f0), .int .i64 ((rd_T52 l0 x4_1).f1), .int .i64 ((rd_T52 l0 x4_1).f2), .int .i64 ((rd_T52 l0 x4_1).f3)] 52 (0, 0)) (kq BK554.out)) (below_size (Y11))); replace HO_3 := am (Kd.R_elder' (rq HO_3.out) (Kd.R_base ho0) hb); replace BK554 := am (blk_below (g := gb554) (o := .cells #[.int .i64 ((rd_T52 l0 x4_1).f0), .int .i64 ((rd_T52 l0 x4_1).f1), .int .i64 ((rd_T52 l0 x4_1).f2), .int .i64 ((rd_T52 l0 x4_1).f3)] 52 (0, 0)) (kq BK554.out) hb); replace HB := am (below_step (Y11) hb); (try clear hb); (try clear hb2); (try clear hk); (try clear hi); (try clear ho0); have hcz51_0 := bc0 BK554.out; have hcz51_1 := bc1 BK554.out; have hcz51_2 := bc2 BK554.out; have hcz51_3 := bc3 BK554.out; have hfz51_0 := blk_frozen BK554.out 0; have hfz51_1 := blk_frozen BK554.out 1; have hfz51_2 := blk_frozen BK554.out 2; have hfz51_3 := blk_frozen BK554.out 3) | ((with_reducible refine gate_builtin (b := .append) (xs := #[.tmp 60, .tmp 62]) rfl ?_); at_builtin; refine Kd.R_append k52 (w0 := w) w.heap.size rfl (.tmp 60) (.tmp 62) 34 52 (.agg #[(.int .i64 0), (.int .i64 0), (.int .i64 0), (.int .i64 0)]) 32 rfl Try.underlying34 info52 rfl (by decide) (by omega) u3 x3_1 (⟨(rd_T52 l0 x4_1).f0, (rd_T52 l0 x4_1).f1, (rd_T52 l0 x4_1).f2, (rd_T52 l0 x4_1).f3⟩ : S52) [.int .i64 ((rd_T52 l0 x4_1).f0), .int .i64 ((rd_T52 l0 x4_1).f1), .int .i64 ((rd_T52 l0 x4_1).f2), .int .i64 ((rd_T52 l0 x4_1).f3)] (fun k_ => some k_ ≠ (v560 : Value).ownBlock ∧ k_ ≠ gb554) (fun _ => False) rfl rfl ?aP (fun _ hk => hk.elim) ?aF ?aO ?aB ?aS ?aL ?_; (case aP => exact k52_mkM _ _ _ (⟨(rd_T52 l0 x4_1).f0, (rd_T52 l0 x4_1).f1, (rd_T52 l0 x4_1).f2, (rd_T52 l0 x4_1).f3⟩ : S52)); (case aB => exact (Y11)); (case aF => exact (fun k_ hk => ⟨Kd.fresh' (Kd.R_lt (rq HO561.out)) k_ hk, Kd.freshB (g := gb554) (o := .cells #[.int .i64 ((rd_T52 l0 x4_1).f0), .int .i64 ((rd_T52 l0 x4_1).f1), .int .i64 ((rd_T52 l0 x4_1).f2), .int .i64 ((rd_T52 l0 x4_1).f3)] 52 (0, 0)) (kq BK554.out) k_ hk⟩)); (case aO => exact (Y123)); (case aS => exact (below_size (Y11))); (case aL => have := LMc39.out; omega); intro v578 w52 ho hb hg hat; rw [← Ny577.out] at ho; have n0_ := am (blk_grown (g := gb554) (o := .cells #[.int .i64 ((rd_T52 l0 x4_1).f0), .int .i64 ((rd_T52 l0 x4_1).f1), .int .i64 ((rd_T52 l0 x4_1).f2), .int .i64 ((rd_T52 l0 x4_1).f3)] 52 (0, 0)) (kq BK554.out) hg (Kd.R_away HO_3.out (fun _ hk => hk.1))); have n1_ := am (Kd.R_after (ok := (fun k_ => k_ ≠ gb554)) (Y147) hg hat); have n2_ := am (hb); have n3_ := am (ho); clear BK554 HO561 HB HO_3; have BK554 := n0_; have HO561 := n1_; have HB := n2_; have HO579 := n3_; clear n0_ n1_ n2_ n3_ ho hb hg hat; obtain ⟨Ao54, co54, eo54⟩ := Kd.R_slice HO561.out; subst eo54) | ((with_reducible refine gate_builtin (b := .append) (xs := #[.tmp 64, .tmp 65]) rfl ?_); at_builtin; refine Kd.R_append_rows k52 (w0 := w) w.heap.size rfl (.tmp 64) (.tmp 65) 34 52 (.agg #[(.int .i64 0), (.int .i64 0), (.int .i64 0), (.int .i64 0)]) 32 rfl Try.underlying34 info52 rfl (by decide) (by omega) v578 y577 t559 _ _ _ (fun k_ => some k_ ≠ (.slice Ao54 t559.length co54 : Value).ownBlock ∧ k_ ≠ gb554) (fun _ => False) rfl rfl ?aO ?aR (fun _ _ h => h) (fun _ h => h.elim) ?aF ?aB ?aS ?aL ?_; (case aR => exact Y125); (case aB => exact (Y11)); (case aF => exact (fun k_ hk => ⟨Kd.fresh' (Kd.R_lt (rq HO561.out)) k_ hk, Kd.freshB (g := gb554) (o := .cells #[.int .i64 ((rd_T52 l0 x4_1).f0), .int .i64 ((rd_T52 l0 x4_1).f1), .int .i64 ((rd_T52 l0 x4_1).f2), .int .i64 ((rd_T52 l0 x4_1).f3)] 52 (0, 0)) (kq BK554.out) k_ hk⟩)); (case aO => exact (rq HO579.out)); (case aS => exact (below_size (Y11))); (case aL => have := LMc40.out; omega); intro v581 w53 ho hb hg hat; rw [← Ny580.out] at ho; have n0_ := am (blk_grown (g := gb554) (o := .cells #[.int .i64 ((rd_T52 l0 x4_1).f0), .int .i64 ((rd_T52 l0 x4_1).f1), .int .i64 ((rd_T52 l0 x4_1).f2), .int .i64 ((rd_T52 l0 x4_1).f3)] 52 (0, 0)) (kq BK554.out) hg (Kd.R_away HO579.out (fun _ hk => hk.2))); have n1_ := am (Kd.R_after (ok := (fun k_ => k_ ≠ gb554)) (rq HO561.out) hg hat); have n2_ := am (hb); have n3_ := am (ho); clear BK554 HO561 HB HO579; have BK554 := n0_; have HO561 := n1_; have HB := n2_; have HO582 := n3_; clear n0_ n1_ n2_ n3_ ho hb hg hat))
            go_roundg k1
            case measure => have := HK1.out; omega
            case rel => exact ⟨(y580), (t553), (sq), H', ⟨by have := HK1.out; omega⟩, ⟨by (with_reducible repeat (first | apply Kd.R_alloc | apply Kd.R_drewN | apply Kd.R_drew)); exact Kd.R_mono HO582.out (fun _ hk => trivial)⟩, ⟨Y11⟩⟩
           ·rw [if_neg c40] at H
            exact absurd H (by simp)
          ·rw [if_neg c39] at H
           exact absurd H (by simp)
        ·rw [if_neg c12] at H
         have c12b0 : (((rd_T52 l0 x4_1).f1) == 11) = false := beq_eq_false_iff_ne.mpr c12
         have c12b1 : (((rd_T52 l0 x4_1).f1) != 11) = true := bne_iff_ne.mpr c12
         by_cases c55 : x3_1.length < 4398046511104
         ·rw [if_pos c55] at H
          have LMc55 := am c55
          clear c55
          obtain ⟨y583, hy583⟩ : ∃ y_ : List (S52), y_ = (x3_1 ++ [(⟨(rd_T52 l0 x4_1).f0, (rd_T52 l0 x4_1).f1, (rd_T52 l0 x4_1).f2, (rd_T52 l0 x4_1).f3⟩ : S52)]) := ⟨_, rfl⟩
          replace H : (if y583.length + t559.length < 4398046511104 then (impl_lowered.l0 k1 l0 (y583 ++ t559) t553) else (none)) = some r := by first | (rw [hy583]; with_reducible exact H) | (have H2_ := (Option.bind_some _ _).symm.trans H; rw [hy583]; with_reducible exact H2_) | (have H2_ := (Option.bind_some _ _).symm.trans H; with_reducible exact H2_) | with_reducible exact H | (rw [hy583]; exact H) | exact H
          have Ny583 := am hy583
          clear hy583
          by_cases c56 : y583.length + t559.length < 4398046511104
          ·rw [if_pos c56] at H
           have LMc56 := am c56
           clear c56
           obtain ⟨y586, hy586⟩ : ∃ y_ : List (S52), y_ = (y583 ++ t559) := ⟨_, rfl⟩
           replace H : (impl_lowered.l0 k1 l0 y586 t553) = some r := by first | (rw [hy586]; with_reducible exact H) | (have H2_ := (Option.bind_some _ _).symm.trans H; rw [hy586]; with_reducible exact H2_) | (have H2_ := (Option.bind_some _ _).symm.trans H; with_reducible exact H2_) | with_reducible exact H | (rw [hy586]; exact H) | exact H
           have Ny586 := am hy586
           clear hy586
           have H' := am H
           clear H
           try go_wp2
           replace HO_3 := am (Kd.R_drew HO_3.out)
           replace HB := am (below_drew1 HB.out)
           have p552 : 0 ≤ (x4_1 : Int) := of_decide_eq_true (uq)
           have q552 : x4_1 < (l0.length : Int) := of_decide_eq_true (uq)
           obtain ⟨ad552, e552, hx552_0, hx552_1, hx552_2, hx552_3⟩ := at_T52 HR0.out x4_1 p552 q552
           have hw552_3 := hx552_3
           have hw552_2 := hx552_2
           have hw552_1 := hx552_1
           have hw552_0 := hx552_0
           cases e552
           replace hx552_0 := cb HB.out hx552_0
           replace hx552_1 := cb HB.out hx552_1
           replace hx552_2 := cb HB.out hx552_2
           replace hx552_3 := cb HB.out hx552_3
           replace p552 := eq_true p552
           replace q552 := eq_true q552
           refine start_ (n := 10) (S := fun w' => w'.cell? (ad552.add ((x4_1).toNat * 4)) = some (.int .i64 ((rd_T52 l0 x4_1).f0)) ∧ w'.cell? ⟨(ad552.add ((x4_1).toNat * 4)).block, (ad552.add ((x4_1).toNat * 4)).off + 1, none⟩ = some (.int .i64 ((rd_T52 l0 x4_1).f1)) ∧ w'.cell? ⟨(ad552.add ((x4_1).toNat * 4)).block, (ad552.add ((x4_1).toNat * 4)).off + 2, none⟩ = some (.int .i64 ((rd_T52 l0 x4_1).f2)) ∧ w'.cell? ⟨(ad552.add ((x4_1).toNat * 4)).block, (ad552.add ((x4_1).toNat * 4)).off + 3, none⟩ = some (.int .i64 ((rd_T52 l0 x4_1).f3))) (ds := []) #[false, false, false, false, false, false, false, false, false, false] (by kernel_rfl) rfl rfl ⟨((HB.out.cell (World.block_lt_of_cell? w _ hw552_0)).trans hw552_0), ((HB.out.cell (World.block_lt_of_cell? w _ hw552_1)).trans hw552_1), ((HB.out.cell (World.block_lt_of_cell? w _ hw552_2)).trans hw552_2), ((HB.out.cell (World.block_lt_of_cell? w _ hw552_3)).trans hw552_3)⟩ (fun hHeld => ?_); refine with_tabW impl_lowered.tab4 impl_lowered.bits4 (fun HT_ HW_ => ?_)
           generalize wr.drew = w57 at HO_3 HB hx552_0 hx552_1 hx552_2 hx552_3 hHeld ⊢
           refine pq (i := 0) (N := some 13) #[true, false, false, false, false, false, false, false, false, false] ?_
           refine pq (i := 1) (N := some 14) #[true, true, false, false, false, false, false, false, false, false] ?_
           refine pq (i := 2) (N := some 15) #[true, true, true, false, false, false, false, false, false, false] ?_
           refine pq (i := 4) (N := some 17) #[true, true, true, false, true, false, false, false, false, false] ?_
           refine pq (i := 5) (N := some 18) #[true, true, true, false, true, true, false, false, false, false] ?_
           refine take_ (i := 3) (N := some 16) (v := ?_) (a' := ?_) #[true, true, true, true, true, true, false, false, false, false] rfl rfl (take_ofW HT_.out HW_.out (by kernel_rfl)) (fun _ _ _ h => h) (Or.inl ⟨by rfl, ?_⟩) hHeld ?_ ?_
           rotate_left
           ·rintro w' ⟨s0, s1, s2, s3⟩
            go_simp
            with_reducible rfl
           rotate_left
           ·exact sa
           refine join_ (σ := Nat) 2 #[true, true, true, true, true, true, true, true, false, false] (fun s_ => [(19, .int .i64 t553), (5, .pointer (some ⟨s_, 0, none⟩))]) (fun s_ w' => (w'.cell? (ad552.add ((x4_1).toNat * 4)) = some (.int .i64 ((rd_T52 l0 x4_1).f0)) ∧ w'.cell? ⟨(ad552.add ((x4_1).toNat * 4)).block, (ad552.add ((x4_1).toNat * 4)).off + 1, none⟩ = some (.int .i64 ((rd_T52 l0 x4_1).f1)) ∧ w'.cell? ⟨(ad552.add ((x4_1).toNat * 4)).block, (ad552.add ((x4_1).toNat * 4)).off + 2, none⟩ = some (.int .i64 ((rd_T52 l0 x4_1).f2)) ∧ w'.cell? ⟨(ad552.add ((x4_1).toNat * 4)).block, (ad552.add ((x4_1).toNat * 4)).off + 3, none⟩ = some (.int .i64 ((rd_T52 l0 x4_1).f3))) ∧ (Kd.R k52 52 w' w.heap.size (fun k_ => k_ ≠ s_) u3 x3_1) ∧ (w'.heap[s_]? = some (.cells #[.int .i64 0, .int .i64 0, .int .i64 0, .int .i64 0] 52 (0, 0))) ∧ (w.heap.size ≤ s_) ∧ (w.heap.size ≤ s_) ∧ (Below w.heap.size w w')) ?_ ?_
           rotate_left
           ·intro hCont
            refine two_ (i := 6) (j := 7) (Ni := some 19) (Nj := some 5) #[true, true, true, true, true, true, true, false, false, false] #[true, true, true, true, true, true, false, true, false, false] rfl rfl rfl rfl (two_of HT_.out (by kernel_rfl)) (by decide) (by decide) (fun K hK => ?_) (fun K hK => ?_)
            ·skip
             refine goes_ Try.func89 (by kernel_rfl) rfl #[.slice (some ad552) l0.length c0, .int .i64 x4_1] (by rfl) rfl rfl (aq) ?_
             with_reducible refine (impl_endOf.calls k1 _ _ l0 x4_1 t553 _ ?side1 ?side2 A6.out).mono ?_
             (case side1 => exact cq (Kd.C_below HR0.out HB.out))
             (case side2 => exact HC0.out)
             rintro e w' ⟨rfl, ⟨nd, rfl⟩⟩
             refine ⟨_, rfl, ?_⟩
             refine hK.out _ _ ⟨((HB.out.cell (World.block_lt_of_cell? w _ hw552_0)).trans hw552_0), ((HB.out.cell (World.block_lt_of_cell? w _ hw552_1)).trans hw552_1), ((HB.out.cell (World.block_lt_of_cell? w _ hw552_2)).trans hw552_2), ((HB.out.cell (World.block_lt_of_cell? w _ hw552_3)).trans hw552_3)⟩ (fun hHeld => ?_)
             clear hK K
             refine norm_ (a' := ?_) ?_ ?_
             rotate_left
             ·show Act.put _ (some 19) _ = _
              simp only [Act.put, List.setIfInBounds_toArray, List.set_cons_zero, List.set_cons_succ, i64_w, i32_w]
              rfl
             refine one_ (i := 7) (N := some 5) #[true, true, true, true, true, true, true, true, false, false] rfl rfl (one_of HT_.out (by kernel_rfl)) (by decide) (fun K hK => ?_)
             refine box_step ?hg (N := 5) ?hd (cs := #[.int .i64 0, .int .i64 0, .int .i64 0, .int .i64 0]) (t := 52) ?hr ?_; (case hd => rfl); (case hg => rfl); (case hr => exact Y5)
             intro gb554 hg w58 hbox hb
             have BK554 := am (hbox)
             have GW554 := am ((Y1 : w.heap.size ≤ gb554))
             have GE554 := am ((Y1 : w.heap.size ≤ gb554))
             replace HO_3 := am (Kd.R_below (Kd.R_elderB (rq HO_3.out) gb554 (Nat.le_of_eq hg.symm)) hb)
             replace HB := am (below_step (bq) hb)
             clear hb hbox hg
             refine hK.out _ _ ⟨((HB.out.cell (World.block_lt_of_cell? w _ hw552_0)).trans hw552_0), ((HB.out.cell (World.block_lt_of_cell? w _ hw552_1)).trans hw552_1), ((HB.out.cell (World.block_lt_of_cell? w _ hw552_2)).trans hw552_2), ((HB.out.cell (World.block_lt_of_cell? w _ hw552_3)).trans hw552_3)⟩ (fun hHeld => ?_)
             clear hK K
             refine norm_ (a' := ?_) ?_ ?_
             rotate_left
             ·show Act.put _ (some 5) _ = _
              simp only [Act.put, List.setIfInBounds_toArray, List.set_cons_zero, List.set_cons_succ, i64_w, i32_w]
              rfl
             exact norm_ (by simp only [putAll, Act.put, List.setIfInBounds_toArray, List.set_cons_zero, List.set_cons_succ]) (hCont (gb554) _ ⟨hHeld, (Y78), (kq BK554.out), GW554.out, GE554.out, (Y11)⟩)
            ·skip
             refine box_step ?hg (N := 5) ?hd (cs := #[.int .i64 0, .int .i64 0, .int .i64 0, .int .i64 0]) (t := 52) ?hr ?_; (case hd => rfl); (case hg => rfl); (case hr => exact Y5)
             intro gb554 hg w58 hbox hb
             have BK554 := am (hbox)
             have GW554 := am ((Y1 : w.heap.size ≤ gb554))
             have GE554 := am ((Y1 : w.heap.size ≤ gb554))
             replace HO_3 := am (Kd.R_below (Kd.R_elderB (rq HO_3.out) gb554 (Nat.le_of_eq hg.symm)) hb)
             replace HB := am (below_step (bq) hb)
             clear hb hbox hg
             refine hK.out _ _ ⟨((HB.out.cell (World.block_lt_of_cell? w _ hw552_0)).trans hw552_0), ((HB.out.cell (World.block_lt_of_cell? w _ hw552_1)).trans hw552_1), ((HB.out.cell (World.block_lt_of_cell? w _ hw552_2)).trans hw552_2), ((HB.out.cell (World.block_lt_of_cell? w _ hw552_3)).trans hw552_3)⟩ (fun hHeld => ?_)
             clear hK K
             refine norm_ (a' := ?_) ?_ ?_
             rotate_left
             ·show Act.put _ (some 5) _ = _
              simp only [Act.put, List.setIfInBounds_toArray, List.set_cons_zero, List.set_cons_succ, i64_w, i32_w]
              rfl
             refine one_ (i := 6) (N := some 19) #[true, true, true, true, true, true, true, true, false, false] rfl rfl (one_of HT_.out (by kernel_rfl)) (by decide) (fun K hK => ?_)
             refine goes_ Try.func89 (by kernel_rfl) rfl #[.slice (some ad552) l0.length c0, .int .i64 x4_1] (by rfl) rfl rfl (aq) ?_
             with_reducible refine (impl_endOf.calls k1 _ _ l0 x4_1 t553 _ ?side1 ?side2 A6.out).mono ?_
             (case side1 => exact cq (Kd.C_below HR0.out HB.out))
             (case side2 => exact HC0.out)
             rintro e w' ⟨rfl, ⟨nd, rfl⟩⟩
             refine ⟨_, rfl, ?_⟩
             refine hK.out _ _ ⟨((HB.out.cell (World.block_lt_of_cell? w _ hw552_0)).trans hw552_0), ((HB.out.cell (World.block_lt_of_cell? w _ hw552_1)).trans hw552_1), ((HB.out.cell (World.block_lt_of_cell? w _ hw552_2)).trans hw552_2), ((HB.out.cell (World.block_lt_of_cell? w _ hw552_3)).trans hw552_3)⟩ (fun hHeld => ?_)
             clear hK K
             refine norm_ (a' := ?_) ?_ ?_
             rotate_left
             ·show Act.put _ (some 19) _ = _
              simp only [Act.put, List.setIfInBounds_toArray, List.set_cons_zero, List.set_cons_succ, i64_w, i32_w]
              rfl
             exact norm_ (by simp only [putAll, Act.put, List.setIfInBounds_toArray, List.set_cons_zero, List.set_cons_succ]) (hCont (gb554) _ ⟨hHeld, (Y78), (kq BK554.out), GW554.out, GE554.out, (Y11)⟩)
           rintro gb554 w59 ⟨hS_, h0_, h1_, h2_, h3_, h4_⟩
           have n0_ : Aside0 (Kd.R k52 52 w59 w.heap.size (fun k_ => k_ ≠ gb554) u3 x3_1) := ⟨h0_⟩
           have n1_ : Aside0 (w59.heap[gb554]? = some (.cells #[.int .i64 0, .int .i64 0, .int .i64 0, .int .i64 0] 52 (0, 0))) := ⟨h1_⟩
           have n2_ : Aside0 (w.heap.size ≤ gb554) := ⟨h2_⟩
           have n3_ : Aside0 (w.heap.size ≤ gb554) := ⟨h3_⟩
           have n4_ : Aside0 (Below w.heap.size w w59) := ⟨h4_⟩
           clear HO_3
           clear HB
           clear h0_ h1_ h2_ h3_ h4_
           have HO_3 := n0_
           have BK554 := n1_
           have GW554 := n2_
           have GE554 := n3_
           have HB := n4_
           clear n0_ n1_ n2_ n3_ n4_
           have hHeld : w59.cell? (ad552.add ((x4_1).toNat * 4)) = some (.int .i64 ((rd_T52 l0 x4_1).f0)) ∧ w59.cell? ⟨(ad552.add ((x4_1).toNat * 4)).block, (ad552.add ((x4_1).toNat * 4)).off + 1, none⟩ = some (.int .i64 ((rd_T52 l0 x4_1).f1)) ∧ w59.cell? ⟨(ad552.add ((x4_1).toNat * 4)).block, (ad552.add ((x4_1).toNat * 4)).off + 2, none⟩ = some (.int .i64 ((rd_T52 l0 x4_1).f2)) ∧ w59.cell? ⟨(ad552.add ((x4_1).toNat * 4)).block, (ad552.add ((x4_1).toNat * 4)).off + 3, none⟩ = some (.int .i64 ((rd_T52 l0 x4_1).f3)) := hS_
           refine norm_ (a' := ?_) ?_ ?_
           rotate_left
           ·simp only [putAll, Act.put, List.setIfInBounds_toArray, List.set_cons_zero, List.set_cons_succ]
            rfl
           refine one_ (i := 8) (N := none) #[true, true, true, true, true, true, true, true, true, false] rfl rfl (one_of HT_.out (by kernel_rfl)) (by decide) (fun K hK => ?_)
           have hs60 : w59.cell? ⟨gb554, 0, none⟩ = some (.int .i64 0) := (blk_cell BK554.out 0).trans rfl
           have hfs60 := blk_frozen BK554.out 0
           have hs61 : w59.cell? ⟨gb554, 1, none⟩ = some (.int .i64 0) := (blk_cell BK554.out 1).trans rfl
           have hfs61 := blk_frozen BK554.out 1
           have hs62 : w59.cell? ⟨gb554, 2, none⟩ = some (.int .i64 0) := (blk_cell BK554.out 2).trans rfl
           have hfs62 := blk_frozen BK554.out 2
           have hs63 : w59.cell? ⟨gb554, 3, none⟩ = some (.int .i64 0) := (blk_cell BK554.out 3).trans rfl
           have hfs63 := blk_frozen BK554.out 3
           refine skip_ (w1 := ?_) (by rfl) rfl ?_ ?_
           rotate_left
           ·go_simp
            rfl
           refine hK.out _ _ ⟨((cell_far (p := ⟨gb554, _, none⟩) (Y41) _).trans (((cell_far (p := ⟨gb554, _, none⟩) (Y41) _).trans (((cell_far (p := ⟨gb554, _, none⟩) (Y41) _).trans (((cell_far (p := ⟨gb554, _, none⟩) (Y41) _).trans (hHeld.1)))))))), ((cell_far (p := ⟨gb554, _, none⟩) (Y42) _).trans (((cell_far (p := ⟨gb554, _, none⟩) (Y42) _).trans (((cell_far (p := ⟨gb554, _, none⟩) (Y42) _).trans (((cell_far (p := ⟨gb554, _, none⟩) (Y42) _).trans (hHeld.2.1)))))))), ((cell_far (p := ⟨gb554, _, none⟩) (Y43) _).trans (((cell_far (p := ⟨gb554, _, none⟩) (Y43) _).trans (((cell_far (p := ⟨gb554, _, none⟩) (Y43) _).trans (((cell_far (p := ⟨gb554, _, none⟩) (Y43) _).trans (hHeld.2.2.1)))))))), ((cell_far (p := ⟨gb554, _, none⟩) (Y44) _).trans (((cell_far (p := ⟨gb554, _, none⟩) (Y44) _).trans (((cell_far (p := ⟨gb554, _, none⟩) (Y44) _).trans (((cell_far (p := ⟨gb554, _, none⟩) (Y44) _).trans (hHeld.2.2.2))))))))⟩ (fun hHeld => ?_)
           clear hK K
           refine pq (i := 9) (N := some 6) #[true, true, true, true, true, true, true, true, true, true] ?_
           refine done_ (done_of HT_.out (by kernel_rfl)) ?_
           have n0_ : Aside0 (Kd.R k52 52 ((((w59.setCell ⟨gb554, 0, none⟩ (.int .i64 ((rd_T52 l0 x4_1).f0))).setCell ⟨gb554, 1, none⟩ (.int .i64 ((rd_T52 l0 x4_1).f1))).setCell ⟨gb554, 2, none⟩ (.int .i64 ((rd_T52 l0 x4_1).f2))).setCell ⟨gb554, 3, none⟩ (.int .i64 ((rd_T52 l0 x4_1).f3))) w.heap.size (fun k_ => k_ ≠ gb554) u3 x3_1) := ⟨by (with_reducible repeat (first | apply Kd.R_alloc | apply Kd.R_drewN | apply Kd.R_drew)); exact Kd.R_mono (Kd.R_far (p := ⟨gb554, 3, none⟩) (Kd.R_far (p := ⟨gb554, 2, none⟩) (Kd.R_far (p := ⟨gb554, 1, none⟩) (Kd.R_far (p := ⟨gb554, 0, none⟩) (Kd.R_mono HO_3.out (fun k_ hk => (⟨hk, hk⟩ : _ ∧ k_ ≠ gb554))) (fun _ hk => hk.2) (.int .i64 ((rd_T52 l0 x4_1).f0))) (fun _ hk => hk.2) (.int .i64 ((rd_T52 l0 x4_1).f1))) (fun _ hk => hk.2) (.int .i64 ((rd_T52 l0 x4_1).f2))) (fun _ hk => hk.2) (.int .i64 ((rd_T52 l0 x4_1).f3))) (fun _ hk => hk.1)⟩
           have n1_ : Aside0 (((((w59.setCell ⟨gb554, 0, none⟩ (.int .i64 ((rd_T52 l0 x4_1).f0))).setCell ⟨gb554, 1, none⟩ (.int .i64 ((rd_T52 l0 x4_1).f1))).setCell ⟨gb554, 2, none⟩ (.int .i64 ((rd_T52 l0 x4_1).f2))).setCell ⟨gb554, 3, none⟩ (.int .i64 ((rd_T52 l0 x4_1).f3))).heap[gb554]? = some (.cells #[.int .i64 ((rd_T52 l0 x4_1).f0), .int .i64 ((rd_T52 l0 x4_1).f1), .int .i64 ((rd_T52 l0 x4_1).f2), .int .i64 ((rd_T52 l0 x4_1).f3)] 52 (0, 0))) := ⟨by (with_reducible repeat (first | refine blk_drewN ?_ _ | refine blk_drew ?_ | refine blk_alloc ?_ _)); refine blk_put (cs := #[.int .i64 ((rd_T52 l0 x4_1).f0), .int .i64 ((rd_T52 l0 x4_1).f1), .int .i64 ((rd_T52 l0 x4_1).f2), .int .i64 0]) ?_ 3 _ rfl; (with_reducible repeat (first | refine blk_drewN ?_ _ | refine blk_drew ?_ | refine blk_alloc ?_ _)); refine blk_put (cs := #[.int .i64 ((rd_T52 l0 x4_1).f0), .int .i64 ((rd_T52 l0 x4_1).f1), .int .i64 0, .int .i64 0]) ?_ 2 _ rfl; (with_reducible repeat (first | refine blk_drewN ?_ _ | refine blk_drew ?_ | refine blk_alloc ?_ _)); refine blk_put (cs := #[.int .i64 ((rd_T52 l0 x4_1).f0), .int .i64 0, .int .i64 0, .int .i64 0]) ?_ 1 _ rfl; (with_reducible repeat (first | refine blk_drewN ?_ _ | refine blk_drew ?_ | refine blk_alloc ?_ _)); refine blk_put (cs := #[.int .i64 0, .int .i64 0, .int .i64 0, .int .i64 0]) ?_ 0 _ rfl; (with_reducible repeat (first | refine blk_drewN ?_ _ | refine blk_drew ?_ | refine blk_alloc ?_ _)); exact BK554.out⟩
           have n2_ : Aside0 (Below w.heap.size w ((((w59.setCell ⟨gb554, 0, none⟩ (.int .i64 ((rd_T52 l0 x4_1).f0))).setCell ⟨gb554, 1, none⟩ (.int .i64 ((rd_T52 l0 x4_1).f1))).setCell ⟨gb554, 2, none⟩ (.int .i64 ((rd_T52 l0 x4_1).f2))).setCell ⟨gb554, 3, none⟩ (.int .i64 ((rd_T52 l0 x4_1).f3)))) := ⟨Y11⟩
           (try clear HO_3)
           (try clear BK554)
           (try clear HB)
           generalize ((((w59.setCell ⟨gb554, 0, none⟩ (.int .i64 ((rd_T52 l0 x4_1).f0))).setCell ⟨gb554, 1, none⟩ (.int .i64 ((rd_T52 l0 x4_1).f1))).setCell ⟨gb554, 2, none⟩ (.int .i64 ((rd_T52 l0 x4_1).f2))).setCell ⟨gb554, 3, none⟩ (.int .i64 ((rd_T52 l0 x4_1).f3))) = w64 at n0_ n1_ n2_ ⊢
           have HO_3 := n0_
           have BK554 := n1_
           have HB := n2_
           clear n0_ n1_ n2_
           have q65 : (t553 : Int) ≤ ((l0.length : Int) : Int) := of_decide_eq_true (uq)
           obtain ⟨i065, hi065, _, hsz65, _⟩ := info_parts info52
           have hroom65 : l0.length ≤ c0 := HC0.out
           have hC65 : Kd.C k52 _ (some ad552) l0.length l0 := HR0.out
           have ql65 : ((ji7) : Int) ≤ (t553 : Int) := of_decide_eq_true (uq)
           have q065 : (0 : Int) ≤ ((ji7) : Int) := of_decide_eq_true (uq)
           have hcut65 := cut_mid (P := Try.prog) 34 52 .i64 .i64 Try.underlying34 hi065 4 hsz65 (some ad552) l0.length c0 (ji7) t553 q065 ql65 q65 hroom65
           have hr65 := Kd.C_mid (lo := ((ji7) : Int).toNat) (hi := (t553 : Int).toNat) (c := c0) hC65 (by omega) (by omega) hroom65
           obtain ⟨A65, hA65⟩ : ∃ A1, A1 = (if c0 = ((ji7) : Int).toNat then (some ad552) else ((some ad552) : Option Addr).map (·.add (((ji7) : Int).toNat * 4))) := ⟨_, rfl⟩
           obtain ⟨c65, hc65⟩ : ∃ c1, c1 = c0 - ((ji7) : Int).toNat := ⟨_, rfl⟩
           have hy65 : y555.length = (t553 : Int).toNat - ((ji7) : Int).toNat := (by rw [Ny555.out, List.length_drop, List.length_take] <;> omega)
           rw [show ((l0).take (t553 : Int).toNat).drop ((ji7) : Int).toNat = y555 from Ny555.out.symm] at hr65
           replace hr65 : Kd.C k52 _ A65 y555.length y555 := (by rw [hA65]; exact hr65)
           rw [← hy65, ← hA65, ← hc65] at hcut65
           have HR558 := am hr65
           have HC558 := am (show y555.length ≤ c65 from by rw [hy65, hc65]; exact Nat.sub_le_sub_right (Nat.le_trans (by omega) hroom65) _)
           clear hr65 hC65 hroom65 hi065 hsz65 hc65
           have KY65 := am hy65
           have KA65 := am hA65
           clear hy65 hA65
           replace q65 := eq_true q65
           try go_wp2_with (first | ((with_reducible refine gate_callee (f := 59) rfl ?_); refine gL (some 25) Try.func59 #[.slice A65 y555.length c65] ?_; (with_reducible refine (ih k1 (by have := HK1.out; omega) _ _ y555 t559 _ ?side1 ?side2 A11.out).mono ?_); (case side1 => exact cq (Kd.C_below HR558.out HB.out)); (case side2 => exact HC558.out); rintro e w66 ⟨v560, rfl, ho0, hb⟩; refine ⟨_, rfl, ?_⟩; have HO561 := am (Kd.R_lower (Kd.R_newB (Kd.R_new' ho0 (Kd.R_lt (rq HO_3.out))) (g := gb554) (o := .cells #[.int .i64 ((rd_T52 l0 x4_1).f0), .int .i64 ((rd_T52 l0 x4_1).f1), .int .i64 ((rd_T52 l0 x4_1).f2), .int .i64 ((rd_T52 l0 x4_1).f3)] 52 (0, 0)) (kq BK554.out)) (below_size (Y11))); replace HO_3 := am (Kd.R_elder' (rq HO_3.out) (Kd.R_base ho0) hb); replace BK554 := am (blk_below (g := gb554) (o := .cells #[.int .i64 ((rd_T52 l0 x4_1).f0), .int .i64 ((rd_T52 l0 x4_1).f1), .int .i64 ((rd_T52 l0 x4_1).f2), .int .i64 ((rd_T52 l0 x4_1).f3)] 52 (0, 0)) (kq BK554.out) hb); replace HB := am (below_step (Y11) hb); (try clear hb); (try clear hb2); (try clear hk); (try clear hi); (try clear ho0); have hcz67_0 := bc0 BK554.out; have hcz67_1 := bc1 BK554.out; have hcz67_2 := bc2 BK554.out; have hcz67_3 := bc3 BK554.out; have hfz67_0 := blk_frozen BK554.out 0; have hfz67_1 := blk_frozen BK554.out 1; have hfz67_2 := blk_frozen BK554.out 2; have hfz67_3 := blk_frozen BK554.out 3) | ((with_reducible refine gate_builtin (b := .append) (xs := #[.tmp 60, .tmp 62]) rfl ?_); at_builtin; refine Kd.R_append k52 (w0 := w) w.heap.size rfl (.tmp 60) (.tmp 62) 34 52 (.agg #[(.int .i64 0), (.int .i64 0), (.int .i64 0), (.int .i64 0)]) 32 rfl Try.underlying34 info52 rfl (by decide) (by omega) u3 x3_1 (⟨(rd_T52 l0 x4_1).f0, (rd_T52 l0 x4_1).f1, (rd_T52 l0 x4_1).f2, (rd_T52 l0 x4_1).f3⟩ : S52) [.int .i64 ((rd_T52 l0 x4_1).f0), .int .i64 ((rd_T52 l0 x4_1).f1), .int .i64 ((rd_T52 l0 x4_1).f2), .int .i64 ((rd_T52 l0 x4_1).f3)] (fun k_ => some k_ ≠ (v560 : Value).ownBlock ∧ k_ ≠ gb554) (fun _ => False) rfl rfl ?aP (fun _ hk => hk.elim) ?aF ?aO ?aB ?aS ?aL ?_; (case aP => exact k52_mkM _ _ _ (⟨(rd_T52 l0 x4_1).f0, (rd_T52 l0 x4_1).f1, (rd_T52 l0 x4_1).f2, (rd_T52 l0 x4_1).f3⟩ : S52)); (case aB => exact (Y11)); (case aF => exact (fun k_ hk => ⟨Kd.fresh' (Kd.R_lt (rq HO561.out)) k_ hk, Kd.freshB (g := gb554) (o := .cells #[.int .i64 ((rd_T52 l0 x4_1).f0), .int .i64 ((rd_T52 l0 x4_1).f1), .int .i64 ((rd_T52 l0 x4_1).f2), .int .i64 ((rd_T52 l0 x4_1).f3)] 52 (0, 0)) (kq BK554.out) k_ hk⟩)); (case aO => exact (Y123)); (case aS => exact (below_size (Y11))); (case aL => have := LMc55.out; omega); intro v584 w68 ho hb hg hat; rw [← Ny583.out] at ho; have n0_ := am (blk_grown (g := gb554) (o := .cells #[.int .i64 ((rd_T52 l0 x4_1).f0), .int .i64 ((rd_T52 l0 x4_1).f1), .int .i64 ((rd_T52 l0 x4_1).f2), .int .i64 ((rd_T52 l0 x4_1).f3)] 52 (0, 0)) (kq BK554.out) hg (Kd.R_away HO_3.out (fun _ hk => hk.1))); have n1_ := am (Kd.R_after (ok := (fun k_ => k_ ≠ gb554)) (Y147) hg hat); have n2_ := am (hb); have n3_ := am (ho); clear BK554 HO561 HB HO_3; have BK554 := n0_; have HO561 := n1_; have HB := n2_; have HO585 := n3_; clear n0_ n1_ n2_ n3_ ho hb hg hat; obtain ⟨Ao70, co70, eo70⟩ := Kd.R_slice HO561.out; subst eo70) | ((with_reducible refine gate_builtin (b := .append) (xs := #[.tmp 64, .tmp 65]) rfl ?_); at_builtin; refine Kd.R_append_rows k52 (w0 := w) w.heap.size rfl (.tmp 64) (.tmp 65) 34 52 (.agg #[(.int .i64 0), (.int .i64 0), (.int .i64 0), (.int .i64 0)]) 32 rfl Try.underlying34 info52 rfl (by decide) (by omega) v584 y583 t559 _ _ _ (fun k_ => some k_ ≠ (.slice Ao70 t559.length co70 : Value).ownBlock ∧ k_ ≠ gb554) (fun _ => False) rfl rfl ?aO ?aR (fun _ _ h => h) (fun _ h => h.elim) ?aF ?aB ?aS ?aL ?_; (case aR => exact Y125); (case aB => exact (Y11)); (case aF => exact (fun k_ hk => ⟨Kd.fresh' (Kd.R_lt (rq HO561.out)) k_ hk, Kd.freshB (g := gb554) (o := .cells #[.int .i64 ((rd_T52 l0 x4_1).f0), .int .i64 ((rd_T52 l0 x4_1).f1), .int .i64 ((rd_T52 l0 x4_1).f2), .int .i64 ((rd_T52 l0 x4_1).f3)] 52 (0, 0)) (kq BK554.out) k_ hk⟩)); (case aO => exact (rq HO585.out)); (case aS => exact (below_size (Y11))); (case aL => have := LMc56.out; omega); intro v587 w69 ho hb hg hat; rw [← Ny586.out] at ho; have n0_ := am (blk_grown (g := gb554) (o := .cells #[.int .i64 ((rd_T52 l0 x4_1).f0), .int .i64 ((rd_T52 l0 x4_1).f1), .int .i64 ((rd_T52 l0 x4_1).f2), .int .i64 ((rd_T52 l0 x4_1).f3)] 52 (0, 0)) (kq BK554.out) hg (Kd.R_away HO585.out (fun _ hk => hk.2))); have n1_ := am (Kd.R_after (ok := (fun k_ => k_ ≠ gb554)) (rq HO561.out) hg hat); have n2_ := am (hb); have n3_ := am (ho); clear BK554 HO561 HB HO585; have BK554 := n0_; have HO561 := n1_; have HB := n2_; have HO588 := n3_; clear n0_ n1_ n2_ n3_ ho hb hg hat))
           go_roundg k1
           case measure => have := HK1.out; omega
           case rel => exact ⟨(y586), (t553), (sq), H', ⟨by have := HK1.out; omega⟩, ⟨by (with_reducible repeat (first | apply Kd.R_alloc | apply Kd.R_drewN | apply Kd.R_drew)); exact Kd.R_mono HO588.out (fun _ hk => trivial)⟩, ⟨Y11⟩⟩
          ·rw [if_neg c56] at H
           exact absurd H (by simp)
         ·rw [if_neg c55] at H
          exact absurd H (by simp)
       ·rw [if_neg c10] at H
        exact absurd H (by simp)
      ·rw [if_neg c9] at H
       exact absurd H (by simp)
     ·rw [if_neg c8] at H
      exact absurd H (by simp)
    ·rw [if_neg c5] at H
     exact absurd H (by simp)
   ·rw [if_neg c4] at H
    have c4b0 : decide (x4_1 < (l0.length : Int)) = false := decide_eq_false c4
    clear c4
    obtain rfl := Option.some.inj H
    go_wp2
    go_ret
    exact ⟨_, Y0, rq HO_3.out, bq⟩
def impl_LowerWith.f (k : Nat) (l0_0 : List (S87)) (l1 : List (S52)) : Option ((List (S52)) × Bool) := (impl_ValidProgram.f k l0_0 l1).bind fun t590 => (if t590 = true then ((impl_lowered.f k l1).bind fun t591 => ((impl_programMade.f k l0_0 t591).bind fun bt594 => (some (bt594.1, bt594.2)))) else (some (([] : List (S52)), false)))
def impl_LowerWith.T3 : Bool × List (List Nat × List Nat) := (true, [([], []), ([], []), ([1], [1]), ([0, 2, 2], [0, 2]), ([3], [3]), ([3], [3]), ([4, 3, 0, 1, 2, 3, 4, 5], [4]), ([5, 6, 0, 1, 2, 3, 4, 5, 6], [5])])
def impl_LowerWith.B3 : List Nat := [0, 0, 2, 7, 15, 15, 63, 127]
theorem impl_LowerWith.tab3 : rtab .any (opsOf Try.f23 3) = impl_LowerWith.T3 := by kernel_rfl
theorem impl_LowerWith.bits3 : waitsOk impl_LowerWith.T3.2 impl_LowerWith.B3 = true := by kernel_rfl
set_option maxHeartbeats 8000000 in
set_option maxRecDepth 100000 in
theorem impl_LowerWith.calls (k : Nat) (A0_0 : Option Addr) (c0_0 : Nat) (l0_0 : List (S87)) (A1 : Option Addr) (c1 : Nat) (l1 : List (S52)) (r1 : List (S52)) (r2 : Bool) (w : World) (hr0_0 : Kd.C k87 w A0_0 l0_0.length l0_0) (hc0_0 : l0_0.length ≤ c0_0) (hr1 : Kd.C k52 w A1 l1.length l1) (hc1 : l1.length ≤ c1) (h : impl_LowerWith.f k l0_0 l1 = some (r1, r2)) :
  Calls Try.prog 23 #[.agg #[.slice A0_0 l0_0.length c0_0], .slice A1 l1.length c1] w fun e w' => ∃ v0_ : Value, e = .returned (.tuple #[v0_, .bool r2]) ∧ Kd.R k52 52 w' w.heap.size (fun _ => True) v0_ r1 ∧ Below w.heap.size w w' := by
 have hu32 := Try.underlying32
 have HR0_0 := am hr0_0
 have HC0_0 := am hc0_0
 clear hr0_0 hc0_0
 have HR1 := am hr1
 have HC1 := am hc1
 clear hr1 hc1
 have HB := am (Below.refl w.heap.size w)
 have H : ((impl_ValidProgram.f k l0_0 l1).bind fun t590 => (if t590 = true then ((impl_lowered.f k l1).bind fun t591 => ((impl_programMade.f k l0_0 t591).bind fun bt594 => (some (bt594.1, bt594.2)))) else (some (([] : List (S52)), false)))) = some (r1, r2) := h
 clear h
 replace H := Option.bind_eq_some_iff.mp H
 obtain ⟨t590, A30, H⟩ := H
 replace H : (if t590 = true then ((impl_lowered.f k l1).bind fun t591 => ((impl_programMade.f k l0_0 t591).bind fun bt594 => (some (bt594.1, bt594.2)))) else (some (([] : List (S52)), false))) = some (r1, r2) := H
 have A3 := am A30
 clear A30
 by_cases c4 : t590 = true
 ·subst c4
  have H1 : ((impl_lowered.f k l1).bind fun t591 => ((impl_programMade.f k l0_0 t591).bind fun bt594 => (some (bt594.1, bt594.2)))) = some (r1, r2) := by rw [if_pos rfl] at H; exact H
  clear H
  have H := H1
  clear H1
  replace H := Option.bind_eq_some_iff.mp H
  obtain ⟨t591, A50, H⟩ := H
  replace H : ((impl_programMade.f k l0_0 t591).bind fun bt594 => (some (bt594.1, bt594.2))) = some (r1, r2) := H
  have A5 := am A50
  clear A50
  replace H := Option.bind_eq_some_iff.mp H
  obtain ⟨⟨t594, t597⟩, A60, H⟩ := H
  replace H : (some (t594, t597)) = some (r1, r2) := H
  have A6 := am A60
  clear A60
  simp only [Option.some.injEq, Prod.mk.injEq] at H
  obtain ⟨rfl, rfl⟩ := H
  go_enter Try.func23, Try.ntmps23
  try go_wp2_with (first | ((with_reducible refine gate_dst (N := 2) rfl ?_); refine bE (N := 2) (cs := #[.slice A0_0 l0_0.length c0_0]) (t := 32) ?_; intro gb589 hg w7 hbox hb; have BK589 := am (hbox); have GW589 := am ((Y1 : w.heap.size ≤ gb589)); have GE589 := am ((Y1 : w.heap.size ≤ gb589)); replace HB := am (below_step (bq) hb); clear hb hbox hg; have hcz8_0 := bc0 BK589.out; have hfz8_0 := blk_frozen BK589.out 0) | ((with_reducible refine gate_callee (f := 29) rfl ?_); refine gL (some 8) Try.func29 #[.agg #[.slice A0_0 l0_0.length c0_0], .slice A1 l1.length c1] ?_; (with_reducible refine (impl_ValidProgram.calls k _ _ l0_0 _ _ l1 true _ ?side1 ?side2 ?side3 ?side4 A3.out).mono ?_); (case side1 => exact cq (Kd.C_below HR0_0.out HB.out)); (case side2 => exact HC0_0.out); (case side3 => exact cq (Kd.C_below HR1.out HB.out)); (case side4 => exact HC1.out); rintro e w9 ⟨rfl, hb⟩; refine ⟨_, rfl, ?_⟩; replace BK589 := am (blk_below (g := gb589) (o := .cells #[.slice A0_0 l0_0.length c0_0] 32 (0, 0)) (kq BK589.out) hb); replace HB := am (below_step (Y59) hb); (try clear hb); (try clear hb2); (try clear hk); (try clear hi)))
  replace BK589 := am (blk_drew BK589.out)
  replace HB := am (below_drew1 HB.out)
  refine start_ (n := 8) (S := fun w' => w'.cell? ⟨gb589, 0, none⟩ = some (.slice A0_0 l0_0.length c0_0)) (ds := []) #[false, false, false, false, false, false, false, false] (by kernel_rfl) rfl rfl ((blk_cell BK589.out 0).trans rfl) (fun hHeld => ?_); refine with_tabW impl_LowerWith.tab3 impl_LowerWith.bits3 (fun HT_ HW_ => ?_)
  generalize w9.drew = w10 at BK589 HB hHeld ⊢
  refine pq (i := 1) (N := some 11) #[false, true, false, false, false, false, false, false] ?_
  refine take_ (i := 0) (N := some 10) (v := ?_) (a' := ?_) #[true, true, false, false, false, false, false, false] rfl rfl (take_ofW HT_.out HW_.out (by kernel_rfl)) (fun _ _ _ h => h) (Or.inl ⟨by rfl, ?_⟩) hHeld ?_ ?_
  rotate_left
  ·intro w' s0
   go_simp
   with_reducible rfl
  rotate_left
  ·exact sa
  refine one_ (i := 2) (N := some 12) #[true, true, true, false, false, false, false, false] rfl rfl (one_of HT_.out (by kernel_rfl)) (by decide) (fun K hK => ?_)
  refine goes_ Try.func59 (by kernel_rfl) rfl #[.slice A1 l1.length c1] (by rfl) rfl rfl (aq) ?_
  with_reducible refine (impl_lowered.calls k _ _ l1 t591 _ ?side1 ?side2 A5.out).mono ?_
  (case side1 => exact cq (Kd.C_below HR1.out HB.out))
  (case side2 => exact HC1.out)
  rintro e w11 ⟨v592, rfl, ho0, hb⟩
  refine ⟨_, rfl, ?_⟩
  have HO593 := am (Kd.R_lower ho0 (below_size (Y59)))
  replace BK589 := am (blk_below (g := gb589) (o := .cells #[.slice A0_0 l0_0.length c0_0] 32 (0, 0)) (kq BK589.out) hb)
  replace HB := am (below_step (Y59) hb)
  (try clear hb)
  (try clear hb2)
  (try clear hk)
  (try clear hi)
  (try clear ho0)
  obtain ⟨Ao12, co12, eo12⟩ := Kd.R_slice HO593.out
  (first | subst eo12 | (injection eo12 with f1_ f2_ f3_; have f4_ := f1_.symm; have f5_ := f3_.symm; clear f1_ f2_ f3_; subst f4_; subst f5_))
  refine hK.out _ _ ((blk_cell BK589.out 0).trans rfl) (fun hHeld => ?_)
  clear hK K
  refine norm_ (a' := ?_) ?_ ?_
  rotate_left
  ·show Act.put _ (some 12) _ = _
   simp only [Act.put, List.setIfInBounds_toArray, List.set_cons_zero, List.set_cons_succ, i64_w, i32_w]
   rfl
  refine one_ (i := 3) (N := some 13) #[true, true, true, true, false, false, false, false] rfl rfl (one_of HT_.out (by kernel_rfl)) (by decide) (fun K hK => ?_)
  refine goes_ Try.func58 (by kernel_rfl) rfl #[.agg #[.slice A0_0 l0_0.length c0_0], .slice Ao12 t591.length co12] (by rfl) rfl rfl (aq) ?_
  with_reducible refine (impl_programMade.calls k _ _ l0_0 (fun k_ => some k_ = (.slice Ao12 t591.length co12 : Value).ownBlock) (.slice Ao12 t591.length co12) t591 t594 t597 w _ ?side1 ?side2 ?side3 ?side4 A6.out).mono ?_
  (case side1 => exact Y59)
  (case side2 => exact Kd.C_kept_came k87_heap HR0_0.out (Y59) (fun k_ hs_ => (fun e_ => Kd.R_base HO593.out k_ e_.symm) hs_))
  (case side3 => exact HC0_0.out)
  (case side4 => exact Kd.R_tight rfl HO593.out)
  rintro e w13 ⟨v595, rfl, ho0, hb, hkp⟩
  refine ⟨_, rfl, ?_⟩
  have n0_ := am (blk_kept (kq BK589.out) hkp (fun hs_ => (fun e_ => (Kd.R_ne HO593.out BK589.out (by decide)) e_) hs_))
  have n1_ := am (Kd.R_mono (ok' := fun k_ => True) ho0 (fun k_ hk_ => trivial))
  have n2_ := am (hb)
  clear BK589
  clear HB
  clear HO593
  have BK589 := n0_
  have HO596 := n1_
  have HB := n2_
  clear n0_ n1_ n2_
  (try clear hb)
  (try clear hkp)
  (try clear ho0)
  refine hK.out _ _ ((blk_cell BK589.out 0).trans rfl) (fun hHeld => ?_)
  clear hK K
  refine norm_ (a' := ?_) ?_ ?_
  rotate_left
  ·show Act.put _ (some 13) _ = _
   simp only [Act.put, List.setIfInBounds_toArray, List.set_cons_zero, List.set_cons_succ, i64_w, i32_w]
   rfl
  refine pq (i := 4) (N := some 14) #[true, true, true, true, true, false, false, false] ?_
  refine pq (i := 5) (N := some 15) #[true, true, true, true, true, true, false, false] ?_
  refine pq (i := 6) (N := some 4) #[true, true, true, true, true, true, true, false] ?_
  refine pq (i := 7) (N := some 5) #[true, true, true, true, true, true, true, true] ?_
  refine done_ (done_of HT_.out (by kernel_rfl)) ?_
  try go_wp2
  go_ret2
  exact ⟨_, Y0, rq HO596.out, Y59⟩
 ·replace c4 := Bool.eq_false_iff.mpr c4
  subst c4
  have H1 : (some (([] : List (S52)), false)) = some (r1, r2) := by rw [if_neg (show ¬ (false = true) by decide)] at H; exact H
  clear H
  have H := H1
  clear H1
  simp only [Option.some.injEq, Prod.mk.injEq] at H
  obtain ⟨rfl, rfl⟩ := H
  go_enter Try.func23, Try.ntmps23
  go_wp2_with (first | ((with_reducible refine gate_dst (N := 2) rfl ?_); refine bE (N := 2) (cs := #[.slice A0_0 l0_0.length c0_0]) (t := 32) ?_; intro gb589 hg w14 hbox hb; have BK589 := am (hbox); have GW589 := am ((Y1 : w.heap.size ≤ gb589)); have GE589 := am ((Y1 : w.heap.size ≤ gb589)); replace HB := am (below_step (bq) hb); clear hb hbox hg; have hcz15_0 := bc0 BK589.out; have hfz15_0 := blk_frozen BK589.out 0) | ((with_reducible refine gate_callee (f := 29) rfl ?_); refine gL (some 8) Try.func29 #[.agg #[.slice A0_0 l0_0.length c0_0], .slice A1 l1.length c1] ?_; (with_reducible refine (impl_ValidProgram.calls k _ _ l0_0 _ _ l1 false _ ?side1 ?side2 ?side3 ?side4 A3.out).mono ?_); (case side1 => exact cq (Kd.C_below HR0_0.out HB.out)); (case side2 => exact HC0_0.out); (case side3 => exact cq (Kd.C_below HR1.out HB.out)); (case side4 => exact HC1.out); rintro e w16 ⟨rfl, hb⟩; refine ⟨_, rfl, ?_⟩; replace BK589 := am (blk_below (g := gb589) (o := .cells #[.slice A0_0 l0_0.length c0_0] 32 (0, 0)) (kq BK589.out) hb); replace HB := am (below_step (Y59) hb); (try clear hb); (try clear hb2); (try clear hk); (try clear hi)))
  go_ret2
  exact ⟨_, Y0, Y55, Y59⟩
def laws_heldLineS.l0 : Nat → List (S52) → Int → Int → Option (Int)
 | 0, _, _, _ => none
 | k + 1, x0, x1, x5 => if x5 < (x0.length : Int) then (if 0 ≤ x5 then (if ((rd_T52 x0 x5).f0) = x1 then (if ((rd_T52 x0 x5).f1) = (wrap64 (x1 + 1)) then (if ((rd_T52 x0 x5).f2) = (wrap64 ((wrap64 (x1 + 1)) + 1)) then (if ((rd_T52 x0 x5).f3) = (wrap64 ((wrap64 ((wrap64 (x1 + 1)) + 1)) + 1)) then (laws_heldLineS.l0 k x0 (wrap64 ((wrap64 ((wrap64 ((wrap64 (x1 + 1)) + 1)) + 1)) + 1)) (wrap64 (x5 + 1))) else (some (-1))) else (some (-1))) else (some (-1))) else (some (-1))) else (none)) else (some x1)
def laws_heldLineS.f (k : Nat) (l0 : List (S52)) (a1 : Int) : Option (Int) := laws_heldLineS.l0 k l0 a1 0
set_option maxHeartbeats 8000000 in
set_option maxRecDepth 100000 in
theorem laws_heldLineS.calls (k : Nat) (A0 : Option Addr) (c0 : Nat) (l0 : List (S52)) (a1 : Int) (r : Int) (w : World) (hr0 : Kd.C k52 w A0 l0.length l0) (hc0 : l0.length ≤ c0) (h : laws_heldLineS.f k l0 a1 = some r) :
  Calls Try.prog 24 #[.slice A0 l0.length c0, .int .i64 a1] w fun e w' => e = .returned (.int .i64 r) ∧ Drawn0 w w' := by
 have HR0 := am hr0
 have HC0 := am hc0
 clear hr0 hc0
 have H : (laws_heldLineS.l0 k l0 a1 0) = some r := h
 clear h
 have H' := am H
 clear H
 go_enter Try.func24, Try.ntmps24
 go_wp2
 go_loopg [1, 5] k (fun kq v1 v5 w' => ∃ (x1_1 : Int) (x5_1 : Int), v1 = .int .i64 x1_1 ∧ v5 = .int .i64 x5_1 ∧ Aside0 (laws_heldLineS.l0 kq l0 x1_1 x5_1 = some r) ∧ Aside0 (kq ≤ k) ∧ Drawn0 w w')
 case atStart => exact ⟨(a1), (0), (sq), (sq), H', ⟨Nat.le_refl _⟩, Y4⟩
 case round =>
  clear H'
  try clear c2
  try clear p2
  obtain ⟨x1_1, x5_1, rfl, rfl, HA, HK1, ⟨m1, rfl⟩⟩ := hrel
  cases gk with
  | zero => exact absurd HA.out (by simp [laws_heldLineS.l0])
  | succ k1 =>
   have H := HA.out
   clear HA
   simp only [laws_heldLineS.l0] at H
   by_cases c3 : x5_1 < (l0.length : Int)
   ·rw [if_pos c3] at H
    have c3b0 : decide (x5_1 < (l0.length : Int)) = true := decide_eq_true c3
    clear c3
    by_cases c4 : 0 ≤ x5_1
    ·rw [if_pos c4] at H
     have c4b0 : decide (0 ≤ x5_1) = true := decide_eq_true c4
     clear c4
     by_cases c5 : ((rd_T52 l0 x5_1).f0) = x1_1
     ·rw [if_pos c5] at H
      have c5b0 : (((rd_T52 l0 x5_1).f0) == x1_1) = true := beq_iff_eq.mpr c5
      have c5b1 : (((rd_T52 l0 x5_1).f0) != x1_1) = false := bne_eq_false_iff_eq.mpr c5
      clear c5
      by_cases c6 : ((rd_T52 l0 x5_1).f1) = (wrap64 (x1_1 + 1))
      ·rw [if_pos c6] at H
       have c6b0 : (((rd_T52 l0 x5_1).f1) == (wrap64 (x1_1 + 1))) = true := beq_iff_eq.mpr c6
       have c6b1 : (((rd_T52 l0 x5_1).f1) != (wrap64 (x1_1 + 1))) = false := bne_eq_false_iff_eq.mpr c6
       clear c6
       by_cases c7 : ((rd_T52 l0 x5_1).f2) = (wrap64 ((wrap64 (x1_1 + 1)) + 1))
       ·rw [if_pos c7] at H
        have c7b0 : (((rd_T52 l0 x5_1).f2) == (wrap64 ((wrap64 (x1_1 + 1)) + 1))) = true := beq_iff_eq.mpr c7
        have c7b1 : (((rd_T52 l0 x5_1).f2) != (wrap64 ((wrap64 (x1_1 + 1)) + 1))) = false := bne_eq_false_iff_eq.mpr c7
        clear c7
        by_cases c8 : ((rd_T52 l0 x5_1).f3) = (wrap64 ((wrap64 ((wrap64 (x1_1 + 1)) + 1)) + 1))
        ·rw [if_pos c8] at H
         have c8b0 : (((rd_T52 l0 x5_1).f3) == (wrap64 ((wrap64 ((wrap64 (x1_1 + 1)) + 1)) + 1))) = true := beq_iff_eq.mpr c8
         have c8b1 : (((rd_T52 l0 x5_1).f3) != (wrap64 ((wrap64 ((wrap64 (x1_1 + 1)) + 1)) + 1))) = false := bne_eq_false_iff_eq.mpr c8
         clear c8
         have H' := am H
         clear H
         have p598 : 0 ≤ (x5_1 : Int) := of_decide_eq_true (uq)
         have q598 : x5_1 < (l0.length : Int) := of_decide_eq_true (uq)
         obtain ⟨ad598, e598, hx598_0, hx598_1, hx598_2, hx598_3⟩ := at_T52 HR0.out x5_1 p598 q598
         cases e598
         replace p598 := eq_true p598
         replace q598 := eq_true q598
         have p599 : 0 ≤ (x5_1 : Int) := of_decide_eq_true (uq)
         have q599 : x5_1 < (l0.length : Int) := of_decide_eq_true (uq)
         obtain ⟨ad599, e599, hx599_0, hx599_1, hx599_2, hx599_3⟩ := at_T52 HR0.out x5_1 p599 q599
         obtain rfl : ad598 = ad599 := (by injection e599)
         replace p599 := eq_true p599
         replace q599 := eq_true q599
         have p600 : 0 ≤ (x5_1 : Int) := of_decide_eq_true (uq)
         have q600 : x5_1 < (l0.length : Int) := of_decide_eq_true (uq)
         obtain ⟨ad600, e600, hx600_0, hx600_1, hx600_2, hx600_3⟩ := at_T52 HR0.out x5_1 p600 q600
         obtain rfl : ad598 = ad600 := (by injection e600)
         replace p600 := eq_true p600
         replace q600 := eq_true q600
         have p601 : 0 ≤ (x5_1 : Int) := of_decide_eq_true (uq)
         have q601 : x5_1 < (l0.length : Int) := of_decide_eq_true (uq)
         obtain ⟨ad601, e601, hx601_0, hx601_1, hx601_2, hx601_3⟩ := at_T52 HR0.out x5_1 p601 q601
         obtain rfl : ad598 = ad601 := (by injection e601)
         replace p601 := eq_true p601
         replace q601 := eq_true q601
         go_wp2
         go_roundg k1
         case measure => have := HK1.out; omega
         case rel => exact ⟨(wrap64 ((wrap64 ((wrap64 ((wrap64 (x1_1 + 1)) + 1)) + 1)) + 1)), (wrap64 (x5_1 + 1)), (sq), (sq), H', ⟨by have := HK1.out; omega⟩, Y4⟩
        ·rw [if_neg c8] at H
         have c8b0 : (((rd_T52 l0 x5_1).f3) == (wrap64 ((wrap64 ((wrap64 (x1_1 + 1)) + 1)) + 1))) = false := beq_eq_false_iff_ne.mpr c8
         have c8b1 : (((rd_T52 l0 x5_1).f3) != (wrap64 ((wrap64 ((wrap64 (x1_1 + 1)) + 1)) + 1))) = true := bne_iff_ne.mpr c8
         obtain rfl := Option.some.inj H
         have p598 : 0 ≤ (x5_1 : Int) := of_decide_eq_true (uq)
         have q598 : x5_1 < (l0.length : Int) := of_decide_eq_true (uq)
         obtain ⟨ad598, e598, hx598_0, hx598_1, hx598_2, hx598_3⟩ := at_T52 HR0.out x5_1 p598 q598
         cases e598
         replace p598 := eq_true p598
         replace q598 := eq_true q598
         have p599 : 0 ≤ (x5_1 : Int) := of_decide_eq_true (uq)
         have q599 : x5_1 < (l0.length : Int) := of_decide_eq_true (uq)
         obtain ⟨ad599, e599, hx599_0, hx599_1, hx599_2, hx599_3⟩ := at_T52 HR0.out x5_1 p599 q599
         obtain rfl : ad598 = ad599 := (by injection e599)
         replace p599 := eq_true p599
         replace q599 := eq_true q599
         have p600 : 0 ≤ (x5_1 : Int) := of_decide_eq_true (uq)
         have q600 : x5_1 < (l0.length : Int) := of_decide_eq_true (uq)
         obtain ⟨ad600, e600, hx600_0, hx600_1, hx600_2, hx600_3⟩ := at_T52 HR0.out x5_1 p600 q600
         obtain rfl : ad598 = ad600 := (by injection e600)
         replace p600 := eq_true p600
         replace q600 := eq_true q600
         have p601 : 0 ≤ (x5_1 : Int) := of_decide_eq_true (uq)
         have q601 : x5_1 < (l0.length : Int) := of_decide_eq_true (uq)
         obtain ⟨ad601, e601, hx601_0, hx601_1, hx601_2, hx601_3⟩ := at_T52 HR0.out x5_1 p601 q601
         obtain rfl : ad598 = ad601 := (by injection e601)
         replace p601 := eq_true p601
         replace q601 := eq_true q601
         go_wp2
         go_ret
         exact ⟨sq, Y4⟩
       ·rw [if_neg c7] at H
        have c7b0 : (((rd_T52 l0 x5_1).f2) == (wrap64 ((wrap64 (x1_1 + 1)) + 1))) = false := beq_eq_false_iff_ne.mpr c7
        have c7b1 : (((rd_T52 l0 x5_1).f2) != (wrap64 ((wrap64 (x1_1 + 1)) + 1))) = true := bne_iff_ne.mpr c7
        obtain rfl := Option.some.inj H
        have p598 : 0 ≤ (x5_1 : Int) := of_decide_eq_true (uq)
        have q598 : x5_1 < (l0.length : Int) := of_decide_eq_true (uq)
        obtain ⟨ad598, e598, hx598_0, hx598_1, hx598_2, hx598_3⟩ := at_T52 HR0.out x5_1 p598 q598
        cases e598
        replace p598 := eq_true p598
        replace q598 := eq_true q598
        have p599 : 0 ≤ (x5_1 : Int) := of_decide_eq_true (uq)
        have q599 : x5_1 < (l0.length : Int) := of_decide_eq_true (uq)
        obtain ⟨ad599, e599, hx599_0, hx599_1, hx599_2, hx599_3⟩ := at_T52 HR0.out x5_1 p599 q599
        obtain rfl : ad598 = ad599 := (by injection e599)
        replace p599 := eq_true p599
        replace q599 := eq_true q599
        have p600 : 0 ≤ (x5_1 : Int) := of_decide_eq_true (uq)
        have q600 : x5_1 < (l0.length : Int) := of_decide_eq_true (uq)
        obtain ⟨ad600, e600, hx600_0, hx600_1, hx600_2, hx600_3⟩ := at_T52 HR0.out x5_1 p600 q600
        obtain rfl : ad598 = ad600 := (by injection e600)
        replace p600 := eq_true p600
        replace q600 := eq_true q600
        go_wp2
        go_ret
        exact ⟨sq, Y4⟩
      ·rw [if_neg c6] at H
       have c6b0 : (((rd_T52 l0 x5_1).f1) == (wrap64 (x1_1 + 1))) = false := beq_eq_false_iff_ne.mpr c6
       have c6b1 : (((rd_T52 l0 x5_1).f1) != (wrap64 (x1_1 + 1))) = true := bne_iff_ne.mpr c6
       obtain rfl := Option.some.inj H
       have p598 : 0 ≤ (x5_1 : Int) := of_decide_eq_true (uq)
       have q598 : x5_1 < (l0.length : Int) := of_decide_eq_true (uq)
       obtain ⟨ad598, e598, hx598_0, hx598_1, hx598_2, hx598_3⟩ := at_T52 HR0.out x5_1 p598 q598
       cases e598
       replace p598 := eq_true p598
       replace q598 := eq_true q598
       have p599 : 0 ≤ (x5_1 : Int) := of_decide_eq_true (uq)
       have q599 : x5_1 < (l0.length : Int) := of_decide_eq_true (uq)
       obtain ⟨ad599, e599, hx599_0, hx599_1, hx599_2, hx599_3⟩ := at_T52 HR0.out x5_1 p599 q599
       obtain rfl : ad598 = ad599 := (by injection e599)
       replace p599 := eq_true p599
       replace q599 := eq_true q599
       go_wp2
       go_ret
       exact ⟨sq, Y4⟩
     ·rw [if_neg c5] at H
      have c5b0 : (((rd_T52 l0 x5_1).f0) == x1_1) = false := beq_eq_false_iff_ne.mpr c5
      have c5b1 : (((rd_T52 l0 x5_1).f0) != x1_1) = true := bne_iff_ne.mpr c5
      obtain rfl := Option.some.inj H
      have p598 : 0 ≤ (x5_1 : Int) := of_decide_eq_true (uq)
      have q598 : x5_1 < (l0.length : Int) := of_decide_eq_true (uq)
      obtain ⟨ad598, e598, hx598_0, hx598_1, hx598_2, hx598_3⟩ := at_T52 HR0.out x5_1 p598 q598
      cases e598
      replace p598 := eq_true p598
      replace q598 := eq_true q598
      go_wp2
      go_ret
      exact ⟨sq, Y4⟩
    ·rw [if_neg c4] at H
     exact absurd H (by simp)
   ·rw [if_neg c3] at H
    have c3b0 : decide (x5_1 < (l0.length : Int)) = false := decide_eq_false c3
    clear c3
    obtain rfl := Option.some.inj H
    go_wp2
    go_ret
    exact ⟨sq, Y4⟩
end Go.Proofs.Ytkokajljeebgdaa.P
end
