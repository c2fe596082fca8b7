/- One part of the proofs on this program: functions of the program as plain functions, that the code comes to them, and facts on them. -/
import Derived.Test.YtbcjbcjpoddkoaaYAll1
import Derived.Test.YtbcjbcjpoddkoaaYAll2
import Derived.Test.YtbcjbcjpoddkoaaYWAuto
section
namespace Go.Proofs.Ytbcjbcjpoddkoaa.P
open Go.RowKit Go.Proofs.YtbcjbcjpoddkoaaW.PrintWords Go.Proofs.YtbcjbcjpoddkoaaW.PrintLast Go.Proofs.YtbcjbcjpoddkoaaW.PrintMore
attribute [local go_sem] max2_int min2_int max_two min_two max_three min_three max_four min_four isSome_cell_setCell
set_option linter.unusedVariables false
set_option linter.unusedSimpArgs false
mutual
def spec_tableOf.l0 : Nat → List (S59) → List (S48) → Int → Option ((List (S48)))
 | 0, _, _, _ => none
 | k + 1, x0, x3, x4 => if x4 ≥ 0 then (if 0 ≤ x4 then (if x4 < (x0.length : Int) then (if ((rd_T59 x0 x4).f1) = 11 then (spec_tableOf.j1 k x0 x3 x4 (((rd_T59 x0 x4).f3) == 1)) else (spec_tableOf.j1 k x0 x3 x4 false)) else (none)) else (none)) else (some x3)
def spec_tableOf.j1 : Nat → List (S59) → List (S48) → Int → Bool → Option ((List (S48)))
 | 0, _, _, _, _ => none
 | k + 1, x0, x3, x4, x28 => if x28 = true then ((spec_blockEnd.f k x0 x4).bind fun t162 => (if x3.length < 4398046511104 then (spec_tableOf.j2 k x0 (x3 ++ [(⟨wrap64 (x4 + 1), t162, x4, 0⟩ : S48)]) x4) else (none))) else (spec_tableOf.j2 k x0 x3 x4)
def spec_tableOf.j2 : Nat → List (S59) → List (S48) → Int → Option ((List (S48)))
 | 0, _, _, _ => none
 | k + 1, x0, x3, x4 => if 0 ≤ x4 then (if x4 < (x0.length : Int) then (if ((rd_T59 x0 x4).f1) = 7 then ((spec_chainOf.f k x0 x4).bind fun t167 => (spec_tableOf.l1 k x0 x3 x4 t167 1)) else (spec_tableOf.l0 k x0 x3 (wrap64 (x4 - 1)))) else (none)) else (none)
def spec_tableOf.l1 : Nat → List (S59) → List (S48) → Int → List Int → Int → Option ((List (S48)))
 | 0, _, _, _, _, _ => none
 | k + 1, x0, x3, x4, x5, x6 => if x6 < (x5.length : Int) then (if 0 ≤ x6 then (if 0 ≤ (rd x5 x6) then (if (rd x5 x6) < (x0.length : Int) then (if ((rd_T59 x0 (rd x5 x6)).f1) = 8 then ((spec_blockEnd.f k x0 x4).bind fun t172 => (if x3.length < 4398046511104 then (spec_tableOf.l1 k x0 (x3 ++ [(⟨wrap64 (x4 + 1), t172, rd x5 x6, (rd_T59 x0 (rd x5 x6)).f2⟩ : S48)]) x4 x5 (wrap64 (x6 + 1))) else (none))) else (spec_tableOf.l1 k x0 x3 x4 x5 (wrap64 (x6 + 1)))) else (none)) else (none)) else (none)) else (spec_tableOf.l0 k x0 x3 (wrap64 (x4 - 1)))
end
def spec_tableOf.f (k : Nat) (l0 : List (S59)) : Option ((List (S48))) := spec_tableOf.l0 k l0 (([] : List (S48))) (wrap64 ((l0.length : Int) - 1))
def spec_tableOf.T13 : Bool × List (List Nat × List Nat) := (true, [([], []), ([], []), ([1], [1]), ([], []), ([], []), ([3, 4], [3, 4]), ([], []), ([], []), ([6, 7], [6, 7]), ([8], [8]), ([], []), ([], []), ([], []), ([11, 12], [11, 12]), ([13], [13]), ([10, 14], [10, 14]), ([15], [15]), ([16], [16]), ([2, 5, 9, 17], [2, 5, 9, 17]), ([18], [18]), ([0, 19, 5], [0, 19]), ([20, 20, 0, 1, 2, 3, 4, 5, 6, 7, 8, 9, 10, 11, 12, 13, 14, 15, 16, 17, 18, 19, 20], [0, 20])])
def spec_tableOf.B13 : List Nat := [0, 0, 2, 0, 0, 24, 0, 0, 192, 448, 0, 0, 0, 6144, 14336, 31744, 64512, 130048, 262142, 524286, 1048575, 2097151]
theorem spec_tableOf.tab13 : rtab .any (opsOf Try.f30 13) = spec_tableOf.T13 := by kernel_rfl
theorem spec_tableOf.bits13 : waitsOk spec_tableOf.T13.2 spec_tableOf.B13 = true := by kernel_rfl
set_option maxHeartbeats 8000000 in
set_option maxRecDepth 100000 in
theorem spec_tableOf.calls (k : Nat) (A0 : Option Addr) (c0 : Nat) (l0 : List (S59)) (r : List (S48)) (w : World) (hr0 : Kd.C k59 w A0 l0.length l0) (hc0 : l0.length ≤ c0) (h : spec_tableOf.f k l0 = some r) :
  Calls Try.prog 30 #[.slice A0 l0.length c0] w fun e w' => ∃ v0_ : Value, e = .returned (v0_) ∧ Kd.R k48 48 w' w.heap.size (fun _ => True) v0_ r ∧ Below w.heap.size w w' := by
 have hu48 := Try.underlying48
 have HR0 := am hr0
 have HC0 := am hc0
 clear hr0 hc0
 have HB := am (Below.refl w.heap.size w)
 have H : (spec_tableOf.l0 k l0 (([] : List (S48))) (wrap64 ((l0.length : Int) - 1))) = some r := h
 clear h
 obtain ⟨y157, hy157⟩ : ∃ y_ : List (S48), y_ = (([] : List (S48))) := ⟨_, rfl⟩
 replace H : (spec_tableOf.l0 k l0 y157 (wrap64 ((l0.length : Int) - 1))) = some r := by first | (rw [hy157]; with_reducible exact H) | (have H2_ := (Option.bind_some _ _).symm.trans H; rw [hy157]; with_reducible exact H2_) | (have H2_ := (Option.bind_some _ _).symm.trans H; with_reducible exact H2_) | with_reducible exact H | (rw [hy157]; exact H) | exact H
 have Ny157 := am hy157
 clear hy157
 have H' := am H
 clear H
 go_enter Try.func30, Try.ntmps30
 go_wp2_with (first | ((with_reducible refine gate_dst (N := 7) rfl ?_); refine Kd.R_lit k48 _ 48 ?hg (N := 7) ?hd (xs := ([] : List (S48))) (inner := []) (ok := fun _ => True) (okp := fun _ => True) ?hr ?hp (fun _ hk => hk) trivial (Below.refl _ _) (Nat.le_refl _) (by simp) ?_; (case hd => rfl); (case hg => rfl); (case hr => exact Y5); (case hp => exact (Reps.none _ _)); intro v158 w2 ho3 hb hg_ hnew_; clear hg_ hnew_; (first | rw [← Ny157.out] at ho3 | (simp only [Int.reduceToNat] at ho3; rw [← Ny157.out] at ho3)); have HO159 := am (Kd.R_lower ho3 (below_size (bq))); replace HB := am (below_step (bq) hb); clear hb ho3))
 go_loopg [3, 4] k (fun kq v3 v4 w' => ∃ (x3_1 : List (S48)) (x4_1 : Int), v4 = .int .i64 x4_1 ∧ Aside0 (spec_tableOf.l0 kq l0 x3_1 x4_1 = some r) ∧ Aside0 (kq ≤ k) ∧ Aside0 (Kd.R k48 48 w' w.heap.size (fun _ => True) v3 x3_1) ∧ Aside0 (Below w.heap.size w w'))
 case atStart => exact ⟨(y157), (wrap64 ((l0.length : Int) - 1)), (sq), H', ⟨Nat.le_refl _⟩, ⟨rq HO159.out⟩, ⟨bq⟩⟩
 case round =>
  clear H'
  try clear p2
  try clear c3
  obtain ⟨x3_1, x4_1, rfl, HA, HK1, HO_3, HB⟩ := hrel
  cases gk with
  | zero => exact absurd HA.out (by simp [spec_tableOf.l0])
  | succ k1 =>
   have H := HA.out
   clear HA
   simp only [spec_tableOf.l0] at H
   by_cases c4 : x4_1 ≥ 0
   ·rw [if_pos c4] at H
    have c4b0 : decide (0 ≤ x4_1) = true := decide_eq_true c4
    clear c4
    have HC5 := am H
    clear H
    go_upto_region 5 with (fail)
    go_cut [28] (fun v28 wc => ∃ (kq : Nat) (x28_4 : Bool), v28 = .bool x28_4 ∧ Aside0 (spec_tableOf.j1 kq l0 x3_1 x4_1 x28_4 = some r) ∧ Aside0 (kq ≤ k1) ∧ Aside0 (Kd.R k48 48 wc w.heap.size (fun _ => True) u3 x3_1) ∧ Aside0 (Below w.heap.size w wc))
    case first =>
     have H := HC5.out
     clear HC5
     by_cases c6 : 0 ≤ x4_1
     ·rw [if_pos c6] at H
      have c6b0 : decide (0 ≤ x4_1) = true := decide_eq_true c6
      clear c6
      (first | rw [c6b0] | (simp only [i64_w, i32_w]; rw [c6b0]) | skip)
      by_cases c7 : x4_1 < (l0.length : Int)
      ·rw [if_pos c7] at H
       have c7b0 : decide (x4_1 < (l0.length : Int)) = true := decide_eq_true c7
       clear c7
       by_cases c8 : ((rd_T59 l0 x4_1).f1) = 11
       ·rw [if_pos c8] at H
        have c8b0 : (((rd_T59 l0 x4_1).f1) == 11) = true := beq_iff_eq.mpr c8
        have c8b1 : (((rd_T59 l0 x4_1).f1) != 11) = false := bne_eq_false_iff_eq.mpr c8
        clear c8
        have H' := am H
        clear H
        have p160 : 0 ≤ (x4_1 : Int) := of_decide_eq_true (uq)
        have q160 : x4_1 < (l0.length : Int) := of_decide_eq_true (uq)
        obtain ⟨ad160, e160, hx160_0, hx160_1, hx160_2, hx160_3⟩ := at_T59 HR0.out x4_1 p160 q160
        cases e160
        replace hx160_0 := cb HB.out hx160_0
        replace hx160_1 := cb HB.out hx160_1
        replace hx160_2 := cb HB.out hx160_2
        replace hx160_3 := cb HB.out hx160_3
        replace p160 := eq_true p160
        replace q160 := eq_true q160
        have p161 : 0 ≤ (x4_1 : Int) := of_decide_eq_true (uq)
        have q161 : x4_1 < (l0.length : Int) := of_decide_eq_true (uq)
        obtain ⟨ad161, e161, hx161_0, hx161_1, hx161_2, hx161_3⟩ := at_T59 HR0.out x4_1 p161 q161
        obtain rfl : ad160 = ad161 := (by injection e161)
        replace hx161_0 := cb HB.out hx161_0
        replace hx161_1 := cb HB.out hx161_1
        replace hx161_2 := cb HB.out hx161_2
        replace hx161_3 := cb HB.out hx161_3
        replace p161 := eq_true p161
        replace q161 := eq_true q161
        go_wp2
        go_meet
        case rel => exact ⟨_, ((((rd_T59 l0 x4_1).f3) == 1)), (sq), H', ⟨by have := HK1.out; first | omega | exact Nat.le_refl _⟩, ⟨rq HO_3.out⟩, ⟨bq⟩⟩
       ·rw [if_neg c8] at H
        have c8b0 : (((rd_T59 l0 x4_1).f1) == 11) = false := beq_eq_false_iff_ne.mpr c8
        have c8b1 : (((rd_T59 l0 x4_1).f1) != 11) = true := bne_iff_ne.mpr c8
        have H' := am H
        clear H
        have p160 : 0 ≤ (x4_1 : Int) := of_decide_eq_true (uq)
        have q160 : x4_1 < (l0.length : Int) := of_decide_eq_true (uq)
        obtain ⟨ad160, e160, hx160_0, hx160_1, hx160_2, hx160_3⟩ := at_T59 HR0.out x4_1 p160 q160
        cases e160
        replace hx160_0 := cb HB.out hx160_0
        replace hx160_1 := cb HB.out hx160_1
        replace hx160_2 := cb HB.out hx160_2
        replace hx160_3 := cb HB.out hx160_3
        replace p160 := eq_true p160
        replace q160 := eq_true q160
        go_wp2
        go_meet
        case rel => exact ⟨_, (false), (sq), H', ⟨by have := HK1.out; first | omega | exact Nat.le_refl _⟩, ⟨rq HO_3.out⟩, ⟨bq⟩⟩
      ·rw [if_neg c7] at H
       exact absurd H (by simp)
     ·rw [if_neg c6] at H
      exact absurd H (by simp)
    case rest =>
     clear HC5
     try clear p1
     try clear q1
     try clear hx1
     try clear p2
     try clear c3
     try clear c4
     try clear c4b0
     try clear c6
     try clear c6b0
     try clear p6
     try clear c7
     try clear c7b0
     try clear c8
     try clear c8b0
     try clear c8b1
     try clear hx160_0
     try clear hx160_1
     try clear hx160_2
     try clear hx160_3
     try clear hx161_0
     try clear hx161_1
     try clear hx161_2
     try clear hx161_3
     try clear p160
     try clear p161
     try clear p2
     try clear q160
     try clear q161
     obtain ⟨kq, x28_4, rfl, HA, HJ4, HO_3, HB⟩ := hcut
     cases kq with
     | zero => exact absurd HA.out (by simp [spec_tableOf.j1])
     | succ kj4 =>
      have H := HA.out
      clear HA
      simp only [spec_tableOf.j1] at H
      have HC9 := am H
      clear H
      go_upto_if 28 with (fail)
      go_cut [3] (fun v3 wc => ∃ (kq : Nat) (x3_8 : List (S48)), Aside0 (spec_tableOf.j2 kq l0 x3_8 x4_1 = some r) ∧ Aside0 (kq ≤ kj4) ∧ Aside0 (Kd.R k48 48 wc w.heap.size (fun _ => True) v3 x3_8) ∧ Aside0 (Below w.heap.size w wc))
      case first =>
       have H := HC9.out
       clear HC9
       by_cases c10 : x28_4 = true
       ·subst c10
        have H1 : ((spec_blockEnd.f kj4 l0 x4_1).bind fun t162 => (if x3_1.length < 4398046511104 then (spec_tableOf.j2 kj4 l0 (x3_1 ++ [(⟨wrap64 (x4_1 + 1), t162, x4_1, 0⟩ : S48)]) x4_1) else (none))) = some r := by rw [if_pos rfl] at H; exact H
        clear H
        have H := H1
        clear H1
        replace H := Option.bind_eq_some_iff.mp H
        obtain ⟨t162, A110, H⟩ := H
        replace H : (if x3_1.length < 4398046511104 then (spec_tableOf.j2 kj4 l0 (x3_1 ++ [(⟨wrap64 (x4_1 + 1), t162, x4_1, 0⟩ : S48)]) x4_1) else (none)) = some r := H
        have A11 := am A110
        clear A110
        by_cases c12 : x3_1.length < 4398046511104
        ·rw [if_pos c12] at H
         have LMc12 := am c12
         clear c12
         obtain ⟨y163, hy163⟩ : ∃ y_ : List (S48), y_ = (x3_1 ++ [(⟨wrap64 (x4_1 + 1), t162, x4_1, 0⟩ : S48)]) := ⟨_, rfl⟩
         replace H : (spec_tableOf.j2 kj4 l0 y163 x4_1) = some r := by first | (rw [hy163]; with_reducible exact H) | (have H2_ := (Option.bind_some _ _).symm.trans H; rw [hy163]; with_reducible exact H2_) | (have H2_ := (Option.bind_some _ _).symm.trans H; with_reducible exact H2_) | with_reducible exact H | (rw [hy163]; exact H) | exact H
         have Ny163 := am hy163
         clear hy163
         have H' := am H
         clear H
         go_wp2_with (first | ((with_reducible refine gate_callee (f := 65) rfl ?_); refine gL (some 34) Try.func65 #[.slice A0 l0.length c0, .int .i64 x4_1] ?_; (with_reducible refine (spec_blockEnd.calls kj4 _ _ l0 x4_1 t162 _ ?side1 ?side2 A11.out).mono ?_); (case side1 => exact cq (Kd.C_below HR0.out HB.out)); (case side2 => exact HC0.out); rintro e w' ⟨rfl, ⟨nd, rfl⟩⟩; refine ⟨_, rfl, ?_⟩) | ((with_reducible refine gate_builtin (b := .append) (xs := #[.tmp 29, .tmp 37]) rfl ?_); at_builtin; refine Kd.R_append k48 (w0 := w) w.heap.size rfl (.tmp 29) (.tmp 37) 28 48 (.agg #[(.int .i64 0), (.int .i64 0), (.int .i64 0), (.int .i64 0)]) 32 rfl Try.underlying28 info48 rfl (by decide) (by omega) u3 x3_1 (⟨wrap64 (x4_1 + 1), t162, x4_1, 0⟩ : S48) [.int .i64 (wrap64 (x4_1 + 1)), .int .i64 t162, .int .i64 x4_1, .int .i64 0] (fun _ => True) (fun _ => False) rfl rfl ?aP (fun _ hk => hk.elim) ?aF ?aO ?aB ?aS ?aL ?_; (case aP => exact k48_mkM _ _ _ (⟨wrap64 (x4_1 + 1), t162, x4_1, 0⟩ : S48)); (case aB => exact (bq)); (case aF => exact (fun _ _ => trivial)); (case aO => exact (rq HO_3.out)); (case aS => exact (below_size (bq))); (case aL => have := LMc12.out; omega); intro v164 w13 ho hb hg hat; rw [← Ny163.out] at ho; have n0_ := am (hb); have n1_ := am (ho); clear HB HO_3; have HB := n0_; have HO165 := n1_; clear n0_ n1_ ho hb hg hat))
         go_meet
         case rel => exact ⟨_, (y163), H', ⟨by have := HK1.out; have := HJ4.out; first | omega | exact Nat.le_refl _⟩, ⟨rq HO165.out⟩, ⟨bq⟩⟩
        ·rw [if_neg c12] at H
         exact absurd H (by simp)
       ·replace c10 := Bool.eq_false_iff.mpr c10
        subst c10
        have H1 : (spec_tableOf.j2 kj4 l0 x3_1 x4_1) = some r := by rw [if_neg (show ¬ (false = true) by decide)] at H; exact H
        clear H
        have H := H1
        clear H1
        have H' := am H
        clear H
        go_wp2
        go_meet
        case rel => exact ⟨_, (x3_1), H', ⟨by have := HK1.out; have := HJ4.out; first | omega | exact Nat.le_refl _⟩, ⟨rq HO_3.out⟩, ⟨bq⟩⟩
      case rest =>
       clear HC9
       try clear c1
       try clear p1
       try clear q1
       try clear hx1
       try clear p2
       try clear c3
       try clear c4
       try clear c4b0
       try clear c6
       try clear c6b0
       try clear p6
       try clear c7
       try clear c7b0
       try clear c8
       try clear c8b0
       try clear c8b1
       try clear c10
       try clear c12
       try clear hx160_0
       try clear hx160_1
       try clear hx160_2
       try clear hx160_3
       try clear hx161_0
       try clear hx161_1
       try clear hx161_2
       try clear hx161_3
       try clear p1
       try clear p160
       try clear p161
       try clear p2
       try clear p6
       try clear q1
       try clear q160
       try clear q161
       obtain ⟨kq, x3_8, HA, HJ8, HO_3, HB⟩ := hcut
       cases kq with
       | zero => exact absurd HA.out (by simp [spec_tableOf.j2])
       | succ kj8 =>
        have H := HA.out
        clear HA
        simp only [spec_tableOf.j2] at H
        by_cases c14 : 0 ≤ x4_1
        ·rw [if_pos c14] at H
         have c14b0 : decide (0 ≤ x4_1) = true := decide_eq_true c14
         clear c14
         by_cases c15 : x4_1 < (l0.length : Int)
         ·rw [if_pos c15] at H
          have c15b0 : decide (x4_1 < (l0.length : Int)) = true := decide_eq_true c15
          clear c15
          by_cases c16 : ((rd_T59 l0 x4_1).f1) = 7
          ·rw [if_pos c16] at H
           have c16b0 : (((rd_T59 l0 x4_1).f1) == 7) = true := beq_iff_eq.mpr c16
           have c16b1 : (((rd_T59 l0 x4_1).f1) != 7) = false := bne_eq_false_iff_eq.mpr c16
           clear c16
           replace H := Option.bind_eq_some_iff.mp H
           obtain ⟨t167, A170, H⟩ := H
           replace H : (spec_tableOf.l1 kj8 l0 x3_8 x4_1 t167 1) = some r := H
           have A17 := am A170
           clear A170
           have H' := am H
           clear H
           have p166 : 0 ≤ (x4_1 : Int) := of_decide_eq_true (uq)
           have q166 : x4_1 < (l0.length : Int) := of_decide_eq_true (uq)
           obtain ⟨ad166, e166, hx166_0, hx166_1, hx166_2, hx166_3⟩ := at_T59 HR0.out x4_1 p166 q166
           cases e166
           replace hx166_0 := cb HB.out hx166_0
           replace hx166_1 := cb HB.out hx166_1
           replace hx166_2 := cb HB.out hx166_2
           replace hx166_3 := cb HB.out hx166_3
           replace p166 := eq_true p166
           replace q166 := eq_true q166
           go_wp2_with (first | ((with_reducible refine gate_callee (f := 66) rfl ?_); refine gL (some 47) Try.func66 #[.slice (some ad166) l0.length c0, .int .i64 x4_1] ?_; (with_reducible refine (spec_chainOf.calls kj8 _ _ l0 x4_1 t167 _ ?side1 ?side2 A17.out).mono ?_); (case side1 => exact cq (Kd.C_below HR0.out HB.out)); (case side2 => exact HC0.out); rintro e w18 ⟨v168, rfl, ho0, hb⟩; refine ⟨_, rfl, ?_⟩; have HO169 := am (Kd.R_lower ho0 (below_size (bq))); replace HO_3 := am (Kd.R_below (rq HO_3.out) hb); replace HB := am (below_step (bq) hb); (try clear hb); (try clear hb2); (try clear hk); (try clear hi); (try clear ho0)))
           go_loopg [3, 6] kj8 (fun kq v3 v6 w' => ∃ (x3_4 : List (S48)) (x6_4 : Int), v6 = .int .i64 x6_4 ∧ Aside0 (spec_tableOf.l1 kq l0 x3_4 x4_1 t167 x6_4 = some r) ∧ Aside0 (kq ≤ kj8) ∧ Aside0 (Kd.R k48 48 w' w.heap.size (fun _ => True) v3 x3_4) ∧ Aside0 (Kd.R (Kd.int .i64) 3 w' w.heap.size (fun _ => True) v168 t167) ∧ Aside0 (Below w.heap.size w w'))
           case atStart => exact ⟨(x3_8), (1), (sq), H', ⟨Nat.le_refl _⟩, ⟨rq HO_3.out⟩, ⟨rq HO169.out⟩, ⟨bq⟩⟩
           case round =>
            clear H'
            try clear c1
            try clear p1
            try clear q1
            try clear hx1
            try clear p2
            try clear c3
            try clear c4
            try clear c4b0
            try clear c6
            try clear c6b0
            try clear p6
            try clear c7
            try clear c7b0
            try clear c8
            try clear c8b0
            try clear c8b1
            try clear c10
            try clear c12
            try clear c14
            try clear c14b0
            try clear c15
            try clear c15b0
            try clear c16
            try clear c16b0
            try clear c16b1
            try clear p16
            try clear q16
            try clear hx16
            try clear hx160_0
            try clear hx160_1
            try clear hx160_2
            try clear hx160_3
            try clear hx161_0
            try clear hx161_1
            try clear hx161_2
            try clear hx161_3
            try clear hx166_0
            try clear hx166_1
            try clear hx166_2
            try clear hx166_3
            try clear p1
            try clear p160
            try clear p161
            try clear p166
            try clear p2
            try clear p6
            try clear q1
            try clear q160
            try clear q161
            try clear q166
            obtain ⟨x3_4, x6_4, rfl, HA, HK4, HO_3, HO_5, HB⟩ := hrel
            cases gk with
            | zero => exact absurd HA.out (by simp [spec_tableOf.l1])
            | succ k4 =>
             have H := HA.out
             clear HA
             simp only [spec_tableOf.l1] at H
             by_cases c19 : x6_4 < (t167.length : Int)
             ·rw [if_pos c19] at H
              have c19b0 : decide (x6_4 < (t167.length : Int)) = true := decide_eq_true c19
              clear c19
              by_cases c20 : 0 ≤ x6_4
              ·rw [if_pos c20] at H
               have c20b0 : decide (0 ≤ x6_4) = true := decide_eq_true c20
               clear c20
               by_cases c21 : 0 ≤ (rd t167 x6_4)
               ·rw [if_pos c21] at H
                have c21b0 : decide (0 ≤ (rd t167 x6_4)) = true := decide_eq_true c21
                clear c21
                by_cases c22 : (rd t167 x6_4) < (l0.length : Int)
                ·rw [if_pos c22] at H
                 have c22b0 : decide ((rd t167 x6_4) < (l0.length : Int)) = true := decide_eq_true c22
                 clear c22
                 by_cases c23 : ((rd_T59 l0 (rd t167 x6_4)).f1) = 8
                 ·rw [if_pos c23] at H
                  have c23b0 : (((rd_T59 l0 (rd t167 x6_4)).f1) == 8) = true := beq_iff_eq.mpr c23
                  have c23b1 : (((rd_T59 l0 (rd t167 x6_4)).f1) != 8) = false := bne_eq_false_iff_eq.mpr c23
                  clear c23
                  replace H := Option.bind_eq_some_iff.mp H
                  obtain ⟨t172, A240, H⟩ := H
                  replace H : (if x3_4.length < 4398046511104 then (spec_tableOf.l1 k4 l0 (x3_4 ++ [(⟨wrap64 (x4_1 + 1), t172, rd t167 x6_4, (rd_T59 l0 (rd t167 x6_4)).f2⟩ : S48)]) x4_1 t167 (wrap64 (x6_4 + 1))) else (none)) = some r := H
                  have A24 := am A240
                  clear A240
                  by_cases c25 : x3_4.length < 4398046511104
                  ·rw [if_pos c25] at H
                   have LMc25 := am c25
                   clear c25
                   obtain ⟨y176, hy176⟩ : ∃ y_ : List (S48), y_ = (x3_4 ++ [(⟨wrap64 (x4_1 + 1), t172, rd t167 x6_4, (rd_T59 l0 (rd t167 x6_4)).f2⟩ : S48)]) := ⟨_, rfl⟩
                   replace H : (spec_tableOf.l1 k4 l0 y176 x4_1 t167 (wrap64 (x6_4 + 1))) = some r := by first | (rw [hy176]; with_reducible exact H) | (have H2_ := (Option.bind_some _ _).symm.trans H; rw [hy176]; with_reducible exact H2_) | (have H2_ := (Option.bind_some _ _).symm.trans H; with_reducible exact H2_) | with_reducible exact H | (rw [hy176]; exact H) | exact H
                   have Ny176 := am hy176
                   clear hy176
                   have H' := am H
                   clear H
                   obtain ⟨Ao26, co26, eo26⟩ := Kd.R_slice HO_5.out
                   subst eo26
                   have p170 : 0 ≤ (x6_4 : Int) := of_decide_eq_true (uq)
                   have q170 : x6_4 < (t167.length : Int) := of_decide_eq_true (uq)
                   obtain ⟨ad170, e170, hx170_0⟩ := Kd.at_int (Kd.R_reads' HO_5.out).2.2 x6_4 p170 q170
                   cases e170
                   replace p170 := eq_true p170
                   replace q170 := eq_true q170
                   have p171 : 0 ≤ ((rd t167 x6_4) : Int) := of_decide_eq_true (uq)
                   have q171 : (rd t167 x6_4) < (l0.length : Int) := of_decide_eq_true (uq)
                   obtain ⟨ad171, e171, hx171_0, hx171_1, hx171_2, hx171_3⟩ := at_T59 HR0.out (rd t167 x6_4) p171 q171
                   obtain rfl : ad166 = ad171 := (by injection e171)
                   replace hx171_0 := cb HB.out hx171_0
                   replace hx171_1 := cb HB.out hx171_1
                   replace hx171_2 := cb HB.out hx171_2
                   replace hx171_3 := cb HB.out hx171_3
                   replace p171 := eq_true p171
                   replace q171 := eq_true q171
                   try go_wp2
                   replace HO_3 := am (Kd.R_drew HO_3.out)
                   replace HO_5 := am (Kd.R_drew HO_5.out)
                   replace HB := am (below_drew1 HB.out)
                   have p173 : 0 ≤ (x6_4 : Int) := of_decide_eq_true (uq)
                   have q173 : x6_4 < (t167.length : Int) := of_decide_eq_true (uq)
                   obtain ⟨ad173, e173, hx173_0⟩ := Kd.at_int (Kd.R_reads' HO_5.out).2.2 x6_4 p173 q173
                   obtain rfl : ad170 = ad173 := (by injection e173)
                   replace p173 := eq_true p173
                   replace q173 := eq_true q173
                   have p174 : 0 ≤ (x6_4 : Int) := of_decide_eq_true (uq)
                   have q174 : x6_4 < (t167.length : Int) := of_decide_eq_true (uq)
                   obtain ⟨ad174, e174, hx174_0⟩ := Kd.at_int (Kd.R_reads' HO_5.out).2.2 x6_4 p174 q174
                   obtain rfl : ad170 = ad174 := (by injection e174)
                   replace p174 := eq_true p174
                   replace q174 := eq_true q174
                   have p175 : 0 ≤ ((rd t167 x6_4) : Int) := of_decide_eq_true (uq)
                   have q175 : (rd t167 x6_4) < (l0.length : Int) := of_decide_eq_true (uq)
                   obtain ⟨ad175, e175, hx175_0, hx175_1, hx175_2, hx175_3⟩ := at_T59 HR0.out (rd t167 x6_4) p175 q175
                   have hw175_3 := hx175_3
                   have hw175_2 := hx175_2
                   have hw175_1 := hx175_1
                   have hw175_0 := hx175_0
                   obtain rfl : ad166 = ad175 := (by injection e175)
                   replace hx175_0 := cb HB.out hx175_0
                   replace hx175_1 := cb HB.out hx175_1
                   replace hx175_2 := cb HB.out hx175_2
                   replace hx175_3 := cb HB.out hx175_3
                   replace p175 := eq_true p175
                   replace q175 := eq_true q175
                   refine start_ (n := 22) (S := fun w' => w'.cell? (ad170.add (x6_4).toNat) = some (.int .i64 (rd t167 x6_4)) ∧ w'.cell? (ad170.add (x6_4).toNat) = some (.int .i64 (rd t167 x6_4)) ∧ w'.cell? (ad166.add (((rd t167 x6_4)).toNat * 4)) = some (.int .i64 ((rd_T59 l0 (rd t167 x6_4)).f0)) ∧ w'.cell? ⟨(ad166.add (((rd t167 x6_4)).toNat * 4)).block, (ad166.add (((rd t167 x6_4)).toNat * 4)).off + 1, none⟩ = some (.int .i64 ((rd_T59 l0 (rd t167 x6_4)).f1)) ∧ w'.cell? ⟨(ad166.add (((rd t167 x6_4)).toNat * 4)).block, (ad166.add (((rd t167 x6_4)).toNat * 4)).off + 2, none⟩ = some (.int .i64 ((rd_T59 l0 (rd t167 x6_4)).f2)) ∧ w'.cell? ⟨(ad166.add (((rd t167 x6_4)).toNat * 4)).block, (ad166.add (((rd t167 x6_4)).toNat * 4)).off + 3, none⟩ = some (.int .i64 ((rd_T59 l0 (rd t167 x6_4)).f3))) (ds := [19, 20]) #[false, false, false, false, false, false, false, false, false, false, false, false, false, false, false, false, false, false, false, false, false, false] (by kernel_rfl) rfl rfl ⟨hx173_0, hx174_0, ((HB.out.cell (World.block_lt_of_cell? w _ hw175_0)).trans hw175_0), ((HB.out.cell (World.block_lt_of_cell? w _ hw175_1)).trans hw175_1), ((HB.out.cell (World.block_lt_of_cell? w _ hw175_2)).trans hw175_2), ((HB.out.cell (World.block_lt_of_cell? w _ hw175_3)).trans hw175_3)⟩ (fun hHeld => ?_); refine with_tabW spec_tableOf.tab13 spec_tableOf.bits13 (fun HT_ HW_ => ?_)
                   generalize wr.drew = w27 at HO_3 HO_5 HB hx173_0 hx174_0 hx175_0 hx175_1 hx175_2 hx175_3 hHeld ⊢
                   refine pq (i := 0) (N := some 63) #[true, false, false, false, false, false, false, false, false, false, false, false, false, false, false, false, false, false, false, false, false, false] ?_
                   refine pq (i := 1) (N := some 64) #[true, true, false, false, false, false, false, false, false, false, false, false, false, false, false, false, false, false, false, false, false, false] ?_
                   refine pq (i := 2) (N := some 65) #[true, true, true, false, false, false, false, false, false, false, false, false, false, false, false, false, false, false, false, false, false, false] ?_
                   refine pq (i := 3) (N := some 66) #[true, true, true, true, false, false, false, false, false, false, false, false, false, false, false, false, false, false, false, false, false, false] ?_
                   refine pq (i := 4) (N := some 67) #[true, true, true, true, true, false, false, false, false, false, false, false, false, false, false, false, false, false, false, false, false, false] ?_
                   refine pq (i := 6) (N := some 69) #[true, true, true, true, true, false, true, false, false, false, false, false, false, false, false, false, false, false, false, false, false, false] ?_
                   refine pq (i := 7) (N := some 70) #[true, true, true, true, true, false, true, true, false, false, false, false, false, false, false, false, false, false, false, false, false, false] ?_
                   refine pq (i := 8) (N := some 71) #[true, true, true, true, true, false, true, true, true, false, false, false, false, false, false, false, false, false, false, false, false, false] ?_
                   refine pq (i := 10) (N := some 73) #[true, true, true, true, true, false, true, true, true, false, true, false, false, false, false, false, false, false, false, false, false, false] ?_
                   refine pq (i := 11) (N := some 74) #[true, true, true, true, true, false, true, true, true, false, true, true, false, false, false, false, false, false, false, false, false, false] ?_
                   refine pq (i := 12) (N := some 75) #[true, true, true, true, true, false, true, true, true, false, true, true, true, false, false, false, false, false, false, false, false, false] ?_
                   refine pq (i := 13) (N := some 76) #[true, true, true, true, true, false, true, true, true, false, true, true, true, true, false, false, false, false, false, false, false, false] ?_
                   refine take_ (i := 9) (N := some 72) (v := ?_) (a' := ?_) #[true, true, true, true, true, false, true, true, true, true, true, true, true, true, false, false, false, false, false, false, false, false] rfl rfl (take_ofW HT_.out HW_.out (by kernel_rfl)) (fun _ _ _ h => h) (Or.inl ⟨by rfl, ?_⟩) hHeld ?_ ?_
                   rotate_left
                   ·rintro w' ⟨s0, s1, s2, s3, s4, s5⟩
                    go_simp
                    with_reducible rfl
                   rotate_left
                   ·exact sa
                   refine take_ (i := 14) (N := some 77) (v := ?_) (a' := ?_) #[true, true, true, true, true, false, true, true, true, true, true, true, true, true, true, false, false, false, false, false, false, false] rfl rfl (take_ofW HT_.out HW_.out (by kernel_rfl)) (fun _ _ _ h => h) (Or.inl ⟨by rfl, ?_⟩) hHeld ?_ ?_
                   rotate_left
                   ·rintro w' ⟨s0, s1, s2, s3, s4, s5⟩
                    go_simp
                    with_reducible rfl
                   rotate_left
                   ·exact sa
                   refine pq (i := 15) (N := some 78) #[true, true, true, true, true, false, true, true, true, true, true, true, true, true, true, true, false, false, false, false, false, false] ?_
                   refine pq (i := 16) (N := some 79) #[true, true, true, true, true, false, true, true, true, true, true, true, true, true, true, true, true, false, false, false, false, false] ?_
                   refine take_ (i := 17) (N := some 80) (v := ?_) (a' := ?_) #[true, true, true, true, true, false, true, true, true, true, true, true, true, true, true, true, true, true, false, false, false, false] rfl rfl (take_ofW HT_.out HW_.out (by kernel_rfl)) (fun _ _ _ h => h) (Or.inl ⟨by rfl, ?_⟩) hHeld ?_ ?_
                   rotate_left
                   ·rintro w' ⟨s0, s1, s2, s3, s4, s5⟩
                    go_simp
                    with_reducible rfl
                   rotate_left
                   ·exact sa
                   refine one_ (i := 5) (N := some 68) #[true, true, true, true, true, true, true, true, true, true, true, true, true, true, true, true, true, true, false, false, false, false] rfl rfl (one_of HT_.out (by kernel_rfl)) (by decide) (fun K hK => ?_)
                   refine goes_ Try.func65 (by kernel_rfl) rfl #[.slice (some ad166) l0.length c0, .int .i64 x4_1] (by rfl) rfl rfl (aq) ?_
                   with_reducible refine (spec_blockEnd.calls k4 _ _ l0 x4_1 t172 _ ?side1 ?side2 A24.out).mono ?_
                   (case side1 => exact cq (Kd.C_below HR0.out HB.out))
                   (case side2 => exact HC0.out)
                   rintro e w' ⟨rfl, ⟨nd, rfl⟩⟩
                   refine ⟨_, rfl, ?_⟩
                   refine hK.out _ _ ⟨hHeld.1, hHeld.2.1, ((HB.out.cell (World.block_lt_of_cell? w _ hw175_0)).trans hw175_0), ((HB.out.cell (World.block_lt_of_cell? w _ hw175_1)).trans hw175_1), ((HB.out.cell (World.block_lt_of_cell? w _ hw175_2)).trans hw175_2), ((HB.out.cell (World.block_lt_of_cell? w _ hw175_3)).trans hw175_3)⟩ (fun hHeld => ?_)
                   clear hK K
                   refine norm_ (a' := ?_) ?_ ?_
                   rotate_left
                   ·show Act.put _ (some 68) _ = _
                    simp only [Act.put, List.setIfInBounds_toArray, List.set_cons_zero, List.set_cons_succ, i64_w, i32_w]
                    rfl
                   refine pq (i := 18) (N := some 81) #[true, true, true, true, true, true, true, true, true, true, true, true, true, true, true, true, true, true, true, false, false, false] ?_
                   refine last_ (i := 19) (N := some 82) #[true, true, true, true, true, true, true, true, true, true, true, true, true, true, true, true, true, true, true, true, false, false] rfl rfl (one_of HT_.out (by kernel_rfl)) (by decide) (fun K hK => ?_)
                   refine value_ (w1 := ?_) (v := ?_) (by rfl) rfl ?_ ?_
                   rotate_left 2
                   ·go_simp
                    constructor
                    ·rfl
                    ·rfl
                   refine hK.out _ _ ?_
                   clear hK K
                   refine norm_ (a' := ?_) ?_ ?_
                   rotate_left
                   ·show Act.put _ (some 82) _ = _
                    simp only [Act.put, List.setIfInBounds_toArray, List.set_cons_zero, List.set_cons_succ, i64_w, i32_w]
                    rfl
                   refine last_ (i := 20) (N := some 83) #[true, true, true, true, true, true, true, true, true, true, true, true, true, true, true, true, true, true, true, true, true, false] rfl rfl (one_of HT_.out (by kernel_rfl)) (by decide) (fun K hK => ?_)
                   refine Kd.R_append_step k48 (w0 := w) w.heap.size (by rfl) (.tmp 63) (.tmp 82) 28 48 (.agg #[(.int .i64 0), (.int .i64 0), (.int .i64 0), (.int .i64 0)]) 32 rfl Try.underlying28 info48 rfl (by decide) (by omega) u3 x3_4 (⟨wrap64 (x4_1 + 1), t172, rd t167 x6_4, (rd_T59 l0 (rd t167 x6_4)).f2⟩ : S48) [.int .i64 (wrap64 (x4_1 + 1)), .int .i64 t172, .int .i64 (rd t167 x6_4), .int .i64 ((rd_T59 l0 (rd t167 x6_4)).f2)] (fun _ => True) (fun _ => False) rfl rfl ?aP (fun _ hk => hk.elim) ?aF ?aO ?aB ?aS ?aL ?_
                   (case aP => exact k48_mkM _ _ _ (⟨wrap64 (x4_1 + 1), t172, rd t167 x6_4, (rd_T59 l0 (rd t167 x6_4)).f2⟩ : S48))
                   (case aB => exact (bq))
                   (case aF => exact (fun _ _ => trivial))
                   (case aO => exact (rq HO_3.out))
                   (case aS => exact (below_size (bq)))
                   (case aL => have := LMc25.out; omega)
                   intro v177 w28 ho hb hg hat
                   rw [← Ny176.out] at ho
                   have n0_ := am (Kd.R_over' (rq HO_5.out) (Kd.R_typed (rq HO_3.out)) (by decide) hg)
                   have n1_ := am (hb)
                   have n2_ := am (ho)
                   clear HO_5
                   clear HB
                   clear HO_3
                   have HO_5 := n0_
                   have HB := n1_
                   have HO178 := n2_
                   clear n0_ n1_ n2_
                   clear ho hb hg hat
                   refine hK.out _ _ ?_
                   clear hK K
                   refine norm_ (a' := ?_) ?_ ?_
                   rotate_left
                   ·show Act.put _ (some 83) _ = _
                    simp only [Act.put, List.setIfInBounds_toArray, List.set_cons_zero, List.set_cons_succ, i64_w, i32_w]
                    rfl
                   refine pq (i := 21) (N := some 3) #[true, true, true, true, true, true, true, true, true, true, true, true, true, true, true, true, true, true, true, true, true, true] ?_
                   refine done_ (done_of HT_.out (by kernel_rfl)) ?_
                   try go_wp2
                   go_roundg k4
                   case measure => have := HK1.out; have := HJ4.out; have := HJ8.out; have := HK4.out; omega
                   case rel => exact ⟨(y176), (wrap64 (x6_4 + 1)), (sq), H', ⟨by have := HK1.out; have := HJ4.out; have := HJ8.out; have := HK4.out; omega⟩, ⟨rq HO178.out⟩, ⟨rq HO_5.out⟩, ⟨bq⟩⟩
                  ·rw [if_neg c25] at H
                   exact absurd H (by simp)
                 ·rw [if_neg c23] at H
                  have c23b0 : (((rd_T59 l0 (rd t167 x6_4)).f1) == 8) = false := beq_eq_false_iff_ne.mpr c23
                  have c23b1 : (((rd_T59 l0 (rd t167 x6_4)).f1) != 8) = true := bne_iff_ne.mpr c23
                  have H' := am H
                  clear H
                  obtain ⟨Ao29, co29, eo29⟩ := Kd.R_slice HO_5.out
                  subst eo29
                  have p170 : 0 ≤ (x6_4 : Int) := of_decide_eq_true (uq)
                  have q170 : x6_4 < (t167.length : Int) := of_decide_eq_true (uq)
                  obtain ⟨ad170, e170, hx170_0⟩ := Kd.at_int (Kd.R_reads' HO_5.out).2.2 x6_4 p170 q170
                  cases e170
                  replace p170 := eq_true p170
                  replace q170 := eq_true q170
                  have p171 : 0 ≤ ((rd t167 x6_4) : Int) := of_decide_eq_true (uq)
                  have q171 : (rd t167 x6_4) < (l0.length : Int) := of_decide_eq_true (uq)
                  obtain ⟨ad171, e171, hx171_0, hx171_1, hx171_2, hx171_3⟩ := at_T59 HR0.out (rd t167 x6_4) p171 q171
                  obtain rfl : ad166 = ad171 := (by injection e171)
                  replace hx171_0 := cb HB.out hx171_0
                  replace hx171_1 := cb HB.out hx171_1
                  replace hx171_2 := cb HB.out hx171_2
                  replace hx171_3 := cb HB.out hx171_3
                  replace p171 := eq_true p171
                  replace q171 := eq_true q171
                  go_wp2
                  go_roundg k4
                  case measure => have := HK1.out; have := HJ4.out; have := HJ8.out; have := HK4.out; omega
                  case rel => exact ⟨(x3_4), (wrap64 (x6_4 + 1)), (sq), H', ⟨by have := HK1.out; have := HJ4.out; have := HJ8.out; have := HK4.out; omega⟩, ⟨rq HO_3.out⟩, ⟨rq HO_5.out⟩, ⟨bq⟩⟩
                ·rw [if_neg c22] at H
                 exact absurd H (by simp)
               ·rw [if_neg c21] at H
                exact absurd H (by simp)
              ·rw [if_neg c20] at H
               exact absurd H (by simp)
             ·rw [if_neg c19] at H
              have c19b0 : decide (x6_4 < (t167.length : Int)) = false := decide_eq_false c19
              clear c19
              have H' := am H
              clear H
              obtain ⟨Ao30, co30, eo30⟩ := Kd.R_slice HO_5.out
              subst eo30
              go_wp2
              go_roundg k4
              case measure => have := HK1.out; have := HJ4.out; have := HJ8.out; have := HK4.out; omega
              case rel => exact ⟨(x3_4), (wrap64 (x4_1 - 1)), (sq), H', ⟨by have := HK1.out; have := HJ4.out; have := HJ8.out; have := HK4.out; omega⟩, ⟨rq HO_3.out⟩, ⟨bq⟩⟩
          ·rw [if_neg c16] at H
           have c16b0 : (((rd_T59 l0 x4_1).f1) == 7) = false := beq_eq_false_iff_ne.mpr c16
           have c16b1 : (((rd_T59 l0 x4_1).f1) != 7) = true := bne_iff_ne.mpr c16
           have H' := am H
           clear H
           have p166 : 0 ≤ (x4_1 : Int) := of_decide_eq_true (uq)
           have q166 : x4_1 < (l0.length : Int) := of_decide_eq_true (uq)
           obtain ⟨ad166, e166, hx166_0, hx166_1, hx166_2, hx166_3⟩ := at_T59 HR0.out x4_1 p166 q166
           cases e166
           replace hx166_0 := cb HB.out hx166_0
           replace hx166_1 := cb HB.out hx166_1
           replace hx166_2 := cb HB.out hx166_2
           replace hx166_3 := cb HB.out hx166_3
           replace p166 := eq_true p166
           replace q166 := eq_true q166
           go_wp2
           go_roundg kj8
           case measure => have := HK1.out; have := HJ4.out; have := HJ8.out; omega
           case rel => exact ⟨(x3_8), (wrap64 (x4_1 - 1)), (sq), H', ⟨by have := HK1.out; have := HJ4.out; have := HJ8.out; omega⟩, ⟨rq HO_3.out⟩, ⟨bq⟩⟩
         ·rw [if_neg c15] at H
          exact absurd H (by simp)
        ·rw [if_neg c14] at H
         exact absurd H (by simp)
   ·rw [if_neg c4] at H
    have c4b0 : decide (0 ≤ x4_1) = false := decide_eq_false c4
    clear c4
    obtain rfl := Option.some.inj H
    go_wp2
    go_ret
    exact ⟨_, Y0, rq HO_3.out, bq⟩
def IsS106 (w0 W : World) (g : Nat) (f0 : List Int) (f1 : Int) : Prop := ∃ A0 c0, W.heap[g]? = some (.cells #[.slice A0 f0.length c0, .int .i64 f1] 106 (0, 0)) ∧ w0.heap.size ≤ g ∧ Kd.C (Kd.int .u8) w0 A0 f0.length f0
theorem IsS106.grown {w0 W : World} {g : Nat} {f0 : List Int} {f1 : Int} {W1 : World} {row : Option Nat} (h : IsS106 w0 W g f0 f1) (hw : W.grownBy W1 row) (hne : some g ≠ row) : IsS106 w0 W1 g f0 f1 := by
 obtain ⟨A0, c0, hb, hg, hr0⟩ := h
 exact ⟨A0, c0, blk_grown hb hw hne, hg, hr0⟩
theorem IsS106.kept {w0 W : World} {g : Nat} {f0 : List Int} {f1 : Int} {W1 : World} {S : Nat → Prop} (h : IsS106 w0 W g f0 f1) (hk : Kept W W1 S) (hne : ¬ S g) : IsS106 w0 W1 g f0 f1 := by
 obtain ⟨A0, c0, hb, hg, hr0⟩ := h
 exact ⟨A0, c0, blk_kept hb hk hne, hg, hr0⟩
theorem IsS106.below {w0 W : World} {g : Nat} {f0 : List Int} {f1 : Int} {W1 : World} (h : IsS106 w0 W g f0 f1) (hw : Below W.heap.size W W1) : IsS106 w0 W1 g f0 f1 := h.grown (grown_of_below hw none) (by simp)
theorem IsS106.alloc {w0 W : World} {g : Nat} {f0 : List Int} {f1 : Int} (h : IsS106 w0 W g f0 f1) (o : Obj) : IsS106 w0 (W.alloc o) g f0 f1 := h.below (below_alloc (Below.refl _ _) o)
theorem IsS106.drewN {w0 W : World} {g : Nat} {f0 : List Int} {f1 : Int} (h : IsS106 w0 W g f0 f1) (m : Nat) : IsS106 w0 (W.drewN m) g f0 f1 := h
theorem IsS106.drew {w0 W : World} {g : Nat} {f0 : List Int} {f1 : Int} (h : IsS106 w0 W g f0 f1) : IsS106 w0 W.drew g f0 f1 := h
theorem IsS106.at_ {w0 W : World} {g : Nat} {f0 : List Int} {f1 : Int} {w' : World} {m : Nat} (hq : W.drewN m = w') (h : IsS106 w0 W g f0 f1) : IsS106 w0 w' g f0 f1 := by subst hq; exact IsS106.drewN h m
theorem IsS106.apart {w0 W : World} {g : Nat} {f0 : List Int} {f1 : Int} {α : Type} {d : Kd α} {e : Nat} {base : Nat} {ok : Nat → Prop} {v : Value} {xs : List α} (h : IsS106 w0 W g f0 f1) (ho : d.R e W base ok v xs) (ht : ∀ q, q ∈ e :: d.E → q ≠ 106) : d.R e W base (fun k => ok k ∧ k ≠ g) v xs := by
 obtain ⟨A0, c0, hb, hg, hr0⟩ := h
 exact Kd.R_types ho hb ht
theorem IsS106.own_ne {w0 W : World} {g : Nat} {f0 : List Int} {f1 : Int} {α : Type} {d : Kd α} {e : Nat} {base : Nat} {ok : Nat → Prop} {v : Value} {xs : List α} (h : IsS106 w0 W g f0 f1) (ho : d.R e W base ok v xs) (ht : e ≠ 106) : some g ≠ v.ownBlock := by
 obtain ⟨A0, c0, hb, hg, hr0⟩ := h
 exact Kd.R_ne ho hb ht
theorem IsS106.apartQ {w0 W : World} {g : Nat} {f0 : List Int} {f1 : Int} {α : Type} {d : Kd α} {e : Nat} {base : Nat} {ok : Nat → Prop} {v : Value} {xs : List α} (h : IsS106 w0 W g f0 f1) (ho : d.Q e W base ok v xs) (ht : ∀ q, q ∈ e :: d.E → q ≠ 106) : d.Q e W base (fun k => ok k ∧ k ≠ g) v xs := by
 obtain ⟨A0, c0, hb, hg, hr0⟩ := h
 exact Kd.Q_types ho hb ht
theorem IsS106.lt {w0 W : World} {g : Nat} {f0 : List Int} {f1 : Int} (h : IsS106 w0 W g f0 f1) : g < W.heap.size := by
 obtain ⟨A0, c0, hb, hg, hr0⟩ := h
 exact blk_lt hb
theorem IsS106.ge {w0 W : World} {g : Nat} {f0 : List Int} {f1 : Int} (h : IsS106 w0 W g f0 f1) : w0.heap.size ≤ g := by
 obtain ⟨A0, c0, hb, hg, hr0⟩ := h
 exact hg
theorem IsS106.ne_blk {w0 W : World} {g : Nat} {f0 : List Int} {f1 : Int} {a : Nat} {cs : Array Value} {t : TypeId} {fr : Nat × Nat} (h : IsS106 w0 W g f0 f1) (hb2 : W.heap[a]? = some (.cells cs t fr)) (ht : t ≠ 106) : g ≠ a := by
 obtain ⟨A0, c0, hb, hg, hr0⟩ := h
 rintro rfl
 rw [hb] at hb2
 injection hb2 with hb2
 injection hb2 with _ ht2
 exact ht ht2.symm
theorem IsS106.far {w0 W : World} {g : Nat} {f0 : List Int} {f1 : Int} {p : Addr} (h : IsS106 w0 W g f0 f1) (hne : g ≠ p.block) (u : Value) : IsS106 w0 (W.setCell p u) g f0 f1 := by
 obtain ⟨A0, c0, hb, hg, hr0⟩ := h
 exact ⟨A0, c0, blk_far hb hne u, hg, hr0⟩
theorem cellS106_0 {W : World} {g : Nat} {A0 : Option Addr} {c0 : Nat} {f0 : List Int} {f1 : Int} (h : W.heap[g]? = some (.cells #[.slice A0 f0.length c0, .int .i64 f1] 106 (0, 0))) : W.cell? ⟨g, 0, none⟩ = some (.slice A0 f0.length c0) := (blk_cell h 0).trans rfl
theorem cellS106_1 {W : World} {g : Nat} {A0 : Option Addr} {c0 : Nat} {f0 : List Int} {f1 : Int} (h : W.heap[g]? = some (.cells #[.slice A0 f0.length c0, .int .i64 f1] 106 (0, 0))) : W.cell? ⟨g, 1, none⟩ = some (.int .i64 f1) := (blk_cell h 1).trans rfl
theorem IsS106.set_1 {w0 W : World} {g : Nat} {f0 : List Int} {f1 : Int} (h : IsS106 w0 W g f0 f1) (x : Int) : IsS106 w0 (W.setCell ⟨g, 1, none⟩ (.int .i64 x)) g f0 x := by
 obtain ⟨A0, c0, hb, hg, hr0⟩ := h
 exact ⟨A0, c0, by simpa using blk_set hb 1 (.int .i64 x), hg, hr0⟩
theorem IsS106.new (w0 W : World) (A0 : Option Addr) (c0 : Nat) (f0 : List Int) (f1 : Int) (hB : Below w0.heap.size w0 W) (hr0 : Kd.C (Kd.int .u8) w0 A0 f0.length f0) : IsS106 w0 (W.alloc (.cells #[.slice A0 f0.length c0, .int .i64 f1] 106)) W.heap.size f0 f1 := ⟨A0, c0, by simpa using heap_alloc_new W _, hB.size, hr0⟩
def spec_reader_pick.j0 : Nat → Int → Bool → List Int → Int → Option (Int × Int)
 | 0, _, _, _, _ => none
 | k + 1, x1, x24, x1000, x1001 => if x24 = true then (some (0, x1001)) else (if (wrap64 (x1001 - 1)) < (x1000.length : Int) then (if 0 ≤ (wrap64 (x1001 - 1)) then (if x1 = 0 then (none) else (some (Int.tmod (wrap64 (rd x1000 (wrap64 (x1001 - 1)))) x1, x1001))) else (none)) else (if (x1000.length : Int) = 0 then (none) else (if 0 ≤ (Int.tmod (wrap64 (x1001 - 1)) (x1000.length : Int)) then (if (Int.tmod (wrap64 (x1001 - 1)) (x1000.length : Int)) < (x1000.length : Int) then (if 0 ≤ (Int.tmod (wrap64 ((wrap64 ((wrap64 (x1001 - 1)) * 7)) + 3)) (x1000.length : Int)) then (if (Int.tmod (wrap64 ((wrap64 ((wrap64 (x1001 - 1)) * 7)) + 3)) (x1000.length : Int)) < (x1000.length : Int) then (if x1 = 0 then (none) else (some (Int.tmod (Go.bits .xor .i64 (wrap64 ((wrap64 ((wrap64 ((wrap64 ((wrap64 (rd x1000 (Int.tmod (wrap64 (x1001 - 1)) (x1000.length : Int)))) * 131)) + (wrap64 ((wrap64 (rd x1000 (Int.tmod (wrap64 ((wrap64 ((wrap64 (x1001 - 1)) * 7)) + 3)) (x1000.length : Int)))) * 1117)))) + (wrap64 ((wrap64 (x1001 - 1)) * 29)))) + (wrap64 ((wrap64 (Int.tdiv (wrap64 (x1001 - 1)) (x1000.length : Int))) * 53)))) (wrap64 (Int.tdiv (wrap64 ((wrap64 ((wrap64 ((wrap64 ((wrap64 (rd x1000 (Int.tmod (wrap64 (x1001 - 1)) (x1000.length : Int)))) * 131)) + (wrap64 ((wrap64 (rd x1000 (Int.tmod (wrap64 ((wrap64 ((wrap64 (x1001 - 1)) * 7)) + 3)) (x1000.length : Int)))) * 1117)))) + (wrap64 ((wrap64 (x1001 - 1)) * 29)))) + (wrap64 ((wrap64 (Int.tdiv (wrap64 (x1001 - 1)) (x1000.length : Int))) * 53)))) 64))) x1, x1001))) else (none)) else (none)) else (none)) else (none))))
def spec_reader_pick.f (k : Nat) (s0_0 : List Int) (s0_1 : Int) (a1 : Int) : Option (Int × Int) := if a1 < 1 then (spec_reader_pick.j0 k a1 true s0_0 (wrap64 (s0_1 + 1))) else (spec_reader_pick.j0 k a1 ((s0_0.length : Int) == 0) s0_0 (wrap64 (s0_1 + 1)))
set_option maxHeartbeats 8000000 in
set_option maxRecDepth 100000 in
theorem spec_reader_pick.calls (k : Nat) (g : Nat) (s0_0 : List Int) (s0_1 : Int) (a1 : Int) (r1 : Int) (r2 : Int) (w0 w : World) (hI : IsS106 w0 w g s0_0 s0_1) (hB : Below w0.heap.size w0 w) (h : spec_reader_pick.f k s0_0 s0_1 a1 = some (r1, r2)) :
  Calls Try.prog 55 #[.pointer (some ⟨g, 0, none⟩), .int .i64 a1] w fun e w' => e = .returned (.int .i64 r1) ∧ IsS106 w0 w' g s0_0 r2 ∧ Below w0.heap.size w0 w' ∧ KeepBut w w' g none := by
 have HI0 := am hI
 have HK := am (KeepBut.refl w g none)
 have HL := am hB.size
 clear hI
 have HW0 := am hB.size
 have HB := am hB
 clear hB
 have H : (if a1 < 1 then (spec_reader_pick.j0 k a1 true s0_0 (wrap64 (s0_1 + 1))) else (spec_reader_pick.j0 k a1 ((s0_0.length : Int) == 0) s0_0 (wrap64 (s0_1 + 1)))) = some (r1, r2) := h
 clear h
 have HC3 := am H
 clear H
 obtain ⟨ASz4_0, cSz4_0, HGz4, hgz4, HSz4_0⟩ := HI0.out
 have hcz4_0 := cellS106_0 HGz4
 have hcz4_1 := cellS106_1 HGz4
 have hfz4_1 := blk_frozen HGz4 1
 clear HGz4 hgz4
 go_enter Try.func55, Try.ntmps55
 go_upto_region 2 with (fail)
 repeat (go_quiet (fail); go_upto_region 2 with (fail))
 go_cut [24] (fun v24 wc => ∃ (kq : Nat) (x24_2 : Bool), v24 = .bool x24_2 ∧ Aside0 (spec_reader_pick.j0 kq a1 x24_2 s0_0 (wrap64 (s0_1 + 1)) = some (r1, r2)) ∧ Aside0 (kq ≤ k) ∧ Aside0 (IsS106 w0 wc g s0_0 (wrap64 (s0_1 + 1))) ∧ Aside0 (KeepBut w wc g none) ∧ Aside0 (Below w0.heap.size w0 wc))
 case first =>
  have H := HC3.out
  clear HC3
  by_cases c5 : a1 < 1
  ·rw [if_pos c5] at H
   have c5b0 : decide (a1 < 1) = true := decide_eq_true c5
   clear c5
   (first | rw [c5b0] | (simp only [i64_w, i32_w]; rw [c5b0]) | skip)
   have H' := am H
   clear H
   go_wp2
   repeat (go_quiet (fail); try go_wp2)
   go_meet
   case rel => exact ⟨_, (true), (sq), H', ⟨Y36⟩, ⟨Y13⟩, ⟨Y14⟩, ⟨Y15⟩⟩
  ·rw [if_neg c5] at H
   have c5b0 : decide (a1 < 1) = false := decide_eq_false c5
   clear c5
   (first | rw [c5b0] | (simp only [i64_w, i32_w]; rw [c5b0]) | skip)
   have H' := am H
   clear H
   obtain ⟨ASz6_0, cSz6_0, HGz6, hgz6, HSz6_0⟩ := HI0.out
   have hcz6_0 := cellS106_0 HGz6
   have hcz6_1 := cellS106_1 HGz6
   have hfz6_1 := blk_frozen HGz6 1
   clear HGz6 hgz6
   go_wp2
   repeat (go_quiet (fail); try go_wp2)
   go_meet
   case rel => exact ⟨_, (((s0_0.length : Int) == 0)), (sq), H', ⟨Y36⟩, ⟨Y13⟩, ⟨Y14⟩, ⟨Y15⟩⟩
 case rest =>
  clear HC3
  try clear p2
  try clear c5
  try clear c5b0
  try clear p6
  try clear hcz4_0
  try clear hcz4_1
  try clear hcz6_0
  try clear hcz6_1
  try clear hfz4_1
  try clear hfz6_1
  obtain ⟨kq, x24_2, rfl, HA, HJ2, HI0, HK, HB⟩ := hcut
  cases kq with
  | zero => exact absurd HA.out (by simp [spec_reader_pick.j0])
  | succ kj2 =>
   have H := HA.out
   clear HA
   simp only [spec_reader_pick.j0] at H
   by_cases c7 : x24_2 = true
   ·subst c7
    have H1 : (some (0, (wrap64 (s0_1 + 1)))) = some (r1, r2) := by rw [if_pos rfl] at H; exact H
    clear H
    have H := H1
    clear H1
    simp only [Option.some.injEq, Prod.mk.injEq] at H
    obtain ⟨rfl, rfl⟩ := H
    go_wp2
    repeat (go_quiet (fail); try go_wp2)
    go_ret
    exact ⟨Y0, Y13, Y15, Y14⟩
   ·replace c7 := Bool.eq_false_iff.mpr c7
    subst c7
    have H1 : (if (wrap64 ((wrap64 (s0_1 + 1)) - 1)) < (s0_0.length : Int) then (if 0 ≤ (wrap64 ((wrap64 (s0_1 + 1)) - 1)) then (if a1 = 0 then (none) else (some (Int.tmod (wrap64 (rd s0_0 (wrap64 ((wrap64 (s0_1 + 1)) - 1)))) a1, (wrap64 (s0_1 + 1))))) else (none)) else (if (s0_0.length : Int) = 0 then (none) else (if 0 ≤ (Int.tmod (wrap64 ((wrap64 (s0_1 + 1)) - 1)) (s0_0.length : Int)) then (if (Int.tmod (wrap64 ((wrap64 (s0_1 + 1)) - 1)) (s0_0.length : Int)) < (s0_0.length : Int) then (if 0 ≤ (Int.tmod (wrap64 ((wrap64 ((wrap64 ((wrap64 (s0_1 + 1)) - 1)) * 7)) + 3)) (s0_0.length : Int)) then (if (Int.tmod (wrap64 ((wrap64 ((wrap64 ((wrap64 (s0_1 + 1)) - 1)) * 7)) + 3)) (s0_0.length : Int)) < (s0_0.length : Int) then (if a1 = 0 then (none) else (some (Int.tmod (Go.bits .xor .i64 (wrap64 ((wrap64 ((wrap64 ((wrap64 ((wrap64 (rd s0_0 (Int.tmod (wrap64 ((wrap64 (s0_1 + 1)) - 1)) (s0_0.length : Int)))) * 131)) + (wrap64 ((wrap64 (rd s0_0 (Int.tmod (wrap64 ((wrap64 ((wrap64 ((wrap64 (s0_1 + 1)) - 1)) * 7)) + 3)) (s0_0.length : Int)))) * 1117)))) + (wrap64 ((wrap64 ((wrap64 (s0_1 + 1)) - 1)) * 29)))) + (wrap64 ((wrap64 (Int.tdiv (wrap64 ((wrap64 (s0_1 + 1)) - 1)) (s0_0.length : Int))) * 53)))) (wrap64 (Int.tdiv (wrap64 ((wrap64 ((wrap64 ((wrap64 ((wrap64 (rd s0_0 (Int.tmod (wrap64 ((wrap64 (s0_1 + 1)) - 1)) (s0_0.length : Int)))) * 131)) + (wrap64 ((wrap64 (rd s0_0 (Int.tmod (wrap64 ((wrap64 ((wrap64 ((wrap64 (s0_1 + 1)) - 1)) * 7)) + 3)) (s0_0.length : Int)))) * 1117)))) + (wrap64 ((wrap64 ((wrap64 (s0_1 + 1)) - 1)) * 29)))) + (wrap64 ((wrap64 (Int.tdiv (wrap64 ((wrap64 (s0_1 + 1)) - 1)) (s0_0.length : Int))) * 53)))) 64))) a1, (wrap64 (s0_1 + 1))))) else (none)) else (none)) else (none)) else (none)))) = some (r1, r2) := by rw [if_neg (show ¬ (false = true) by decide)] at H; exact H
    clear H
    have H := H1
    clear H1
    by_cases c8 : (wrap64 ((wrap64 (s0_1 + 1)) - 1)) < (s0_0.length : Int)
    ·rw [if_pos c8] at H
     have c8b0 : decide ((wrap64 ((wrap64 (s0_1 + 1)) - 1)) < (s0_0.length : Int)) = true := decide_eq_true c8
     clear c8
     obtain ⟨ji9, hji9⟩ : ∃ j_ : Int, (wrap64 ((wrap64 (s0_1 + 1)) - 1)) = j_ := ⟨_, rfl⟩
     replace H : (if 0 ≤ (ji9) then (if a1 = 0 then (none) else (some (Int.tmod (wrap64 (rd s0_0 (ji9))) a1, (wrap64 (s0_1 + 1))))) else (none)) = some (r1, r2) := by first | (rw [hji9] at H; exact H) | (simp only [hji9] at H ⊢; exact H)
     (try rw [hji9] at c8b0)
     have hji9w : (IntKind.i64.wrap ((wrap64 (s0_1 + 1)) - 1)) = ji9 := (i64_w _).trans hji9
     by_cases c10 : 0 ≤ (ji9)
     ·rw [if_pos c10] at H
      have c10b0 : decide (0 ≤ (ji9)) = true := decide_eq_true c10
      clear c10
      by_cases c11 : a1 = 0
      ·rw [if_pos c11] at H
       exact absurd H (by simp)
      ·rw [if_neg c11] at H
       have c11b0 : (a1 == 0) = false := beq_eq_false_iff_ne.mpr c11
       have c11b1 : (a1 != 0) = true := bne_iff_ne.mpr c11
       simp only [Option.some.injEq, Prod.mk.injEq] at H
       obtain ⟨rfl, rfl⟩ := H
       obtain ⟨ASz12_0, cSz12_0, HGz12, hgz12, HSz12_0⟩ := HI0.out
       have hcz12_0 := cellS106_0 HGz12
       have hcz12_1 := cellS106_1 HGz12
       have hfz12_1 := blk_frozen HGz12 1
       clear HGz12 hgz12
       have p334 : 0 ≤ ((ji9) : Int) := of_decide_eq_true (uq)
       have q334 : (ji9) < (s0_0.length : Int) := of_decide_eq_true (uq)
       obtain ⟨ad334, e334, hx334_0⟩ := Kd.at_int HSz12_0 (ji9) p334 q334
       cases e334
       replace hx334_0 := pw_cell_below HB.out hx334_0
       replace p334 := eq_true p334
       replace q334 := eq_true q334
       go_wp2
       repeat (go_quiet (fail); try go_wp2)
       go_ret
       exact ⟨by first | rfl | (simp [errW_none, errW_some] <;> rfl) | (simp only [← hji9]; first | rfl | (simp [errW_none, errW_some] <;> rfl)) | (simp [*, errW_none, errW_some] <;> rfl), Y13, Y15, Y14⟩
     ·rw [if_neg c10] at H
      exact absurd H (by simp)
    ·rw [if_neg c8] at H
     have c8b0 : decide ((wrap64 ((wrap64 (s0_1 + 1)) - 1)) < (s0_0.length : Int)) = false := decide_eq_false c8
     clear c8
     by_cases c13 : (s0_0.length : Int) = 0
     ·rw [if_pos c13] at H
      exact absurd H (by simp)
     ·rw [if_neg c13] at H
      have c13b0 : ((s0_0.length : Int) == 0) = false := beq_eq_false_iff_ne.mpr c13
      have c13b1 : ((s0_0.length : Int) != 0) = true := bne_iff_ne.mpr c13
      have c13b2 : ¬ (s0_0 = []) := fun h_ => c13 (by rw [h_]; rfl)
      obtain ⟨ji14, hji14⟩ : ∃ j_ : Int, (Int.tmod (wrap64 ((wrap64 (s0_1 + 1)) - 1)) (s0_0.length : Int)) = j_ := ⟨_, rfl⟩
      replace H : (if 0 ≤ (ji14) then (if (ji14) < (s0_0.length : Int) then (if 0 ≤ (Int.tmod (wrap64 ((wrap64 ((wrap64 ((wrap64 (s0_1 + 1)) - 1)) * 7)) + 3)) (s0_0.length : Int)) then (if (Int.tmod (wrap64 ((wrap64 ((wrap64 ((wrap64 (s0_1 + 1)) - 1)) * 7)) + 3)) (s0_0.length : Int)) < (s0_0.length : Int) then (if a1 = 0 then (none) else (some (Int.tmod (Go.bits .xor .i64 (wrap64 ((wrap64 ((wrap64 ((wrap64 ((wrap64 (rd s0_0 (ji14))) * 131)) + (wrap64 ((wrap64 (rd s0_0 (Int.tmod (wrap64 ((wrap64 ((wrap64 ((wrap64 (s0_1 + 1)) - 1)) * 7)) + 3)) (s0_0.length : Int)))) * 1117)))) + (wrap64 ((wrap64 ((wrap64 (s0_1 + 1)) - 1)) * 29)))) + (wrap64 ((wrap64 (Int.tdiv (wrap64 ((wrap64 (s0_1 + 1)) - 1)) (s0_0.length : Int))) * 53)))) (wrap64 (Int.tdiv (wrap64 ((wrap64 ((wrap64 ((wrap64 ((wrap64 (rd s0_0 (ji14))) * 131)) + (wrap64 ((wrap64 (rd s0_0 (Int.tmod (wrap64 ((wrap64 ((wrap64 ((wrap64 (s0_1 + 1)) - 1)) * 7)) + 3)) (s0_0.length : Int)))) * 1117)))) + (wrap64 ((wrap64 ((wrap64 (s0_1 + 1)) - 1)) * 29)))) + (wrap64 ((wrap64 (Int.tdiv (wrap64 ((wrap64 (s0_1 + 1)) - 1)) (s0_0.length : Int))) * 53)))) 64))) a1, (wrap64 (s0_1 + 1))))) else (none)) else (none)) else (none)) else (none)) = some (r1, r2) := by first | (rw [hji14] at H; exact H) | (simp only [hji14] at H ⊢; exact H)
      by_cases c15 : 0 ≤ (ji14)
      ·rw [if_pos c15] at H
       have c15b0 : decide (0 ≤ (ji14)) = true := decide_eq_true c15
       clear c15
       by_cases c16 : (ji14) < (s0_0.length : Int)
       ·rw [if_pos c16] at H
        have c16b0 : decide ((ji14) < (s0_0.length : Int)) = true := decide_eq_true c16
        clear c16
        obtain ⟨ji17, hji17⟩ : ∃ j_ : Int, (Int.tmod (wrap64 ((wrap64 ((wrap64 ((wrap64 (s0_1 + 1)) - 1)) * 7)) + 3)) (s0_0.length : Int)) = j_ := ⟨_, rfl⟩
        replace H : (if 0 ≤ (ji17) then (if (ji17) < (s0_0.length : Int) then (if a1 = 0 then (none) else (some (Int.tmod (Go.bits .xor .i64 (wrap64 ((wrap64 ((wrap64 ((wrap64 ((wrap64 (rd s0_0 (ji14))) * 131)) + (wrap64 ((wrap64 (rd s0_0 (ji17))) * 1117)))) + (wrap64 ((wrap64 ((wrap64 (s0_1 + 1)) - 1)) * 29)))) + (wrap64 ((wrap64 (Int.tdiv (wrap64 ((wrap64 (s0_1 + 1)) - 1)) (s0_0.length : Int))) * 53)))) (wrap64 (Int.tdiv (wrap64 ((wrap64 ((wrap64 ((wrap64 ((wrap64 (rd s0_0 (ji14))) * 131)) + (wrap64 ((wrap64 (rd s0_0 (ji17))) * 1117)))) + (wrap64 ((wrap64 ((wrap64 (s0_1 + 1)) - 1)) * 29)))) + (wrap64 ((wrap64 (Int.tdiv (wrap64 ((wrap64 (s0_1 + 1)) - 1)) (s0_0.length : Int))) * 53)))) 64))) a1, (wrap64 (s0_1 + 1))))) else (none)) else (none)) = some (r1, r2) := by first | (rw [hji17] at H; exact H) | (simp only [hji17] at H ⊢; exact H)
        by_cases c18 : 0 ≤ (ji17)
        ·rw [if_pos c18] at H
         have c18b0 : decide (0 ≤ (ji17)) = true := decide_eq_true c18
         clear c18
         by_cases c19 : (ji17) < (s0_0.length : Int)
         ·rw [if_pos c19] at H
          have c19b0 : decide ((ji17) < (s0_0.length : Int)) = true := decide_eq_true c19
          clear c19
          by_cases c20 : a1 = 0
          ·rw [if_pos c20] at H
           exact absurd H (by simp)
          ·rw [if_neg c20] at H
           have c20b0 : (a1 == 0) = false := beq_eq_false_iff_ne.mpr c20
           have c20b1 : (a1 != 0) = true := bne_iff_ne.mpr c20
           simp only [Option.some.injEq, Prod.mk.injEq] at H
           obtain ⟨rfl, rfl⟩ := H
           obtain ⟨ASz21_0, cSz21_0, HGz21, hgz21, HSz21_0⟩ := HI0.out
           have hcz21_0 := cellS106_0 HGz21
           have hcz21_1 := cellS106_1 HGz21
           have hfz21_1 := blk_frozen HGz21 1
           clear HGz21 hgz21
           have p335 : 0 ≤ ((ji14) : Int) := of_decide_eq_true (uq)
           have q335 : (ji14) < (s0_0.length : Int) := of_decide_eq_true (uq)
           obtain ⟨ad335, e335, hx335_0⟩ := Kd.at_int HSz21_0 (ji14) p335 q335
           cases e335
           replace hx335_0 := pw_cell_below HB.out hx335_0
           replace p335 := eq_true p335
           replace q335 := eq_true q335
           have p336 : 0 ≤ ((ji17) : Int) := of_decide_eq_true (uq)
           have q336 : (ji17) < (s0_0.length : Int) := of_decide_eq_true (uq)
           obtain ⟨ad336, e336, hx336_0⟩ := Kd.at_int HSz21_0 (ji17) p336 q336
           obtain rfl : ad335 = ad336 := (by injection e336)
           replace hx336_0 := pw_cell_below HB.out hx336_0
           replace p336 := eq_true p336
           replace q336 := eq_true q336
           go_wp2
           repeat (go_quiet (fail); try go_wp2)
           go_ret
           exact ⟨by first | rfl | (simp [errW_none, errW_some] <;> rfl) | (simp only [← hji14, ← hji17]; first | rfl | (simp [errW_none, errW_some] <;> rfl)) | (simp [*, errW_none, errW_some] <;> rfl), Y13, Y15, Y14⟩
         ·rw [if_neg c19] at H
          exact absurd H (by simp)
        ·rw [if_neg c18] at H
         exact absurd H (by simp)
       ·rw [if_neg c16] at H
        exact absurd H (by simp)
      ·rw [if_neg c15] at H
       exact absurd H (by simp)
def spec_reader_one.f (k : Nat) (s0_0 : List Int) (s0_1 : Int) (l1 : List Int) : Option (Int × Int) := (spec_reader_pick.f k s0_0 s0_1 (l1.length : Int)).bind fun bt337 => (if 0 ≤ bt337.1 then (if bt337.1 < (l1.length : Int) then (some (rd l1 bt337.1, bt337.2)) else (none)) else (none))
set_option maxHeartbeats 8000000 in
set_option maxRecDepth 100000 in
theorem spec_reader_one.calls (k : Nat) (g : Nat) (s0_0 : List Int) (s0_1 : Int) (A1 : Option Addr) (c1 : Nat) (l1 : List Int) (r1 : Int) (r2 : Int) (w0 w : World) (hI : IsS106 w0 w g s0_0 s0_1) (hB : Below w0.heap.size w0 w) (hr1 : Kd.C (Kd.int .i64) w A1 l1.length l1) (hc1 : l1.length ≤ c1) (hf1 : ∀ ad, A1 = some ad → 0 < l1.length → ad.block ≠ g) (h : spec_reader_one.f k s0_0 s0_1 l1 = some (r1, r2)) :
  Calls Try.prog 56 #[.pointer (some ⟨g, 0, none⟩), .slice A1 l1.length c1] w fun e w' => e = .returned (.int .i64 r1) ∧ IsS106 w0 w' g s0_0 r2 ∧ Below w0.heap.size w0 w' ∧ KeepBut w w' g none := by
 have HR1 := am hr1
 have HC1 := am hc1
 clear hr1 hc1
 have HI0 := am hI
 have HK := am (KeepBut.refl w g none)
 have HL := am hB.size
 clear hI
 have HW0 := am hB.size
 have HB := am hB
 clear hB
 have H : ((spec_reader_pick.f k s0_0 s0_1 (l1.length : Int)).bind fun bt337 => (if 0 ≤ bt337.1 then (if bt337.1 < (l1.length : Int) then (some (rd l1 bt337.1, bt337.2)) else (none)) else (none))) = some (r1, r2) := h
 clear h
 replace H := Option.bind_eq_some_iff.mp H
 obtain ⟨⟨t337, t338⟩, A30, H⟩ := H
 replace H : (if 0 ≤ t337 then (if t337 < (l1.length : Int) then (some (rd l1 t337, t338)) else (none)) else (none)) = some (r1, r2) := H
 have A3 := am A30
 clear A30
 by_cases c4 : 0 ≤ t337
 ·rw [if_pos c4] at H
  have c4b0 : decide (0 ≤ t337) = true := decide_eq_true c4
  clear c4
  by_cases c5 : t337 < (l1.length : Int)
  ·rw [if_pos c5] at H
   have c5b0 : decide (t337 < (l1.length : Int)) = true := decide_eq_true c5
   clear c5
   simp only [Option.some.injEq, Prod.mk.injEq] at H
   obtain ⟨rfl, rfl⟩ := H
   go_enter Try.func56, Try.ntmps56
   go_wp2_with (first | ((with_reducible refine gate_callee (f := 55) rfl ?_); refine gL (some 9) Try.func55 #[.pointer (some ⟨g, 0, none⟩), .int .i64 (l1.length : Int)] ?_; (with_reducible refine (spec_reader_pick.calls k g s0_0 s0_1 (l1.length : Int) t337 t338 w0 _ ?side1 ?side2 A3.out).mono ?_); (case side1 => exact Y13); (case side2 => exact Y15); rintro e w6 ⟨rfl, hi, hb, hk⟩; refine ⟨_, rfl, ?_⟩; replace HK := am (KeepBut.trans (Y14) hk (.inl rfl)); replace HB := am (hb); replace HI0 := am (hi); (try clear hb); (try clear hb2); (try clear hk); (try clear hi); have p339 : 0 ≤ (t337 : Int) := of_decide_eq_true (uq); have q339 : t337 < (l1.length : Int) := of_decide_eq_true (uq); obtain ⟨ad339, e339, hx339_0⟩ := Kd.at_int HR1.out t337 p339 q339; cases e339; replace hx339_0 := keep_cell HK.out hx339_0 (by first | (rw [add_block]; exact hf1 _ rfl (by omega)) | exact hf1 _ rfl (by omega) | exact hf1 ad339 rfl (by omega)); replace p339 := eq_true p339; replace q339 := eq_true q339))
   go_ret
   exact ⟨Y0, Y13, Y15, Y14⟩
  ·rw [if_neg c5] at H
   exact absurd H (by simp)
 ·rw [if_neg c4] at H
  exact absurd H (by simp)
def spec_goodTree.l0 : Nat → List ByteArray → Int → Int → List Int → Int → List (S98) → Option ((List (S98)) × Int)
 | 0, _, _, _, _, _, _ => none
 | k + 1, x3, x5, x6, x1000, x1001, x348000 => if x6 < x5 then (if 0 ≤ x6 then (if x6 < (x3.length : Int) then ((spec_reader_pick.f k x1000 x1001 x6).bind fun bt354 => ((spec_reader_one.f k x1000 bt354.2 (([0, bt354.1, wrap64 (x6 - 1)] : List Int))).bind fun bt359 => (if x348000.length < 5864062014805 then (spec_goodTree.l0 k x3 x5 (wrap64 (x6 + 1)) x1000 bt359.2 (x348000 ++ [(⟨rdOf ByteArray.empty x3 x6, bt359.1⟩ : S98)])) else (none)))) else (none)) else (none)) else (some (x348000, x1001))
def spec_goodTree.f (k : Nat) (s0_0 : List Int) (s0_1 : Int) : Option ((List (S98)) × Int) := (spec_reader_one.f k s0_0 s0_1 (([4, 5, 3, 6, 2, 1, 8] : List Int))).bind fun bt351 => (spec_goodTree.l0 k (([(⟨#[97, 110, 121]⟩ : ByteArray), (⟨#[105, 111]⟩ : ByteArray), (⟨#[107, 101, 121]⟩ : ByteArray), (⟨#[116, 105, 109, 101]⟩ : ByteArray), (⟨#[110, 101, 116]⟩ : ByteArray), (⟨#[100, 105, 115, 107]⟩ : ByteArray), (⟨#[116, 121, 112, 101]⟩ : ByteArray), (⟨#[111, 100, 100]⟩ : ByteArray)] : List ByteArray)) bt351.1 1 s0_0 bt351.2 (([(⟨(⟨#[97, 110, 121]⟩ : ByteArray), (-1)⟩ : S98)] : List (S98))))
def spec_goodTree.T7 : Bool × List (List Nat × List Nat) := (true, [([], []), ([0], [0]), ([], []), ([], []), ([2, 3], [2, 3]), ([4], [4]), ([], []), ([], []), ([], []), ([7, 8], [7, 8]), ([], []), ([10], [10]), ([9, 11], [9, 11]), ([6, 12, 9], [6, 12]), ([5, 13], [5, 13]), ([14], [14]), ([1, 15, 13], [1, 15]), ([0, 1, 2, 3, 4, 5, 6, 7, 8, 9, 10, 11, 12, 13, 14, 15, 16], []), ([17, 16, 16, 0, 1, 2, 3, 4, 5, 6, 7, 8, 9, 10, 11, 12, 13, 14, 15, 16], [16, 17])])
def spec_goodTree.B7 : List Nat := [0, 1, 0, 0, 12, 28, 0, 0, 0, 384, 0, 1024, 3968, 8128, 16380, 32764, 65535, 131071, 262143]
theorem spec_goodTree.tab7 : rtab .any (opsOf Try.f95 7) = spec_goodTree.T7 := by kernel_rfl
theorem spec_goodTree.bits7 : waitsOk spec_goodTree.T7.2 spec_goodTree.B7 = true := by kernel_rfl
set_option maxHeartbeats 8000000 in
set_option maxRecDepth 100000 in
theorem spec_goodTree.calls (k : Nat) (g : Nat) (s0_0 : List Int) (s0_1 : Int) (r1 : List (S98)) (r2 : Int) (w0 w : World) (hI : IsS106 w0 w g s0_0 s0_1) (hB : Below w0.heap.size w0 w) (h : spec_goodTree.f k s0_0 s0_1 = some (r1, r2)) :
  Calls Try.prog 95 #[.pointer (some ⟨g, 0, none⟩)] w fun e w' => ∃ v0_ : Value, e = .returned (.agg #[v0_]) ∧ Kd.R k98 98 w' w.heap.size (fun _ => True) v0_ r1 ∧ IsS106 w0 w' g s0_0 r2 ∧ Below w0.heap.size w0 w' ∧ KeepBut w w' g none := by
 have hu32 := Try.underlying32
 have hu98 := Try.underlying98
 have HI0 := am hI
 have HK := am (KeepBut.refl w g none)
 have HL := am hB.size
 clear hI
 have HW0 := am hB.size
 have HB := am hB
 clear hB
 have H : ((spec_reader_one.f k s0_0 s0_1 (([4, 5, 3, 6, 2, 1, 8] : List Int))).bind fun bt351 => (spec_goodTree.l0 k (([(⟨#[97, 110, 121]⟩ : ByteArray), (⟨#[105, 111]⟩ : ByteArray), (⟨#[107, 101, 121]⟩ : ByteArray), (⟨#[116, 105, 109, 101]⟩ : ByteArray), (⟨#[110, 101, 116]⟩ : ByteArray), (⟨#[100, 105, 115, 107]⟩ : ByteArray), (⟨#[116, 121, 112, 101]⟩ : ByteArray), (⟨#[111, 100, 100]⟩ : ByteArray)] : List ByteArray)) bt351.1 1 s0_0 bt351.2 (([(⟨(⟨#[97, 110, 121]⟩ : ByteArray), (-1)⟩ : S98)] : List (S98))))) = some (r1, r2) := h
 clear h
 obtain ⟨y341, hy341⟩ : ∃ y_ : List ByteArray, y_ = (([(⟨#[97, 110, 121]⟩ : ByteArray), (⟨#[105, 111]⟩ : ByteArray), (⟨#[107, 101, 121]⟩ : ByteArray), (⟨#[116, 105, 109, 101]⟩ : ByteArray), (⟨#[110, 101, 116]⟩ : ByteArray), (⟨#[100, 105, 115, 107]⟩ : ByteArray), (⟨#[116, 121, 112, 101]⟩ : ByteArray), (⟨#[111, 100, 100]⟩ : ByteArray)] : List ByteArray)) := ⟨_, rfl⟩
 replace H : ((spec_reader_one.f k s0_0 s0_1 (([4, 5, 3, 6, 2, 1, 8] : List Int))).bind fun bt351 => (spec_goodTree.l0 k y341 bt351.1 1 s0_0 bt351.2 (([(⟨(⟨#[97, 110, 121]⟩ : ByteArray), (-1)⟩ : S98)] : List (S98))))) = some (r1, r2) := by first | (rw [hy341]; with_reducible exact H) | (have H2_ := (Option.bind_some _ _).symm.trans H; rw [hy341]; with_reducible exact H2_) | (have H2_ := (Option.bind_some _ _).symm.trans H; with_reducible exact H2_) | with_reducible exact H | (rw [hy341]; exact H) | exact H
 have Ny341 := am hy341
 clear hy341
 obtain ⟨y344, hy344⟩ : ∃ y_ : List (S98), y_ = (([(⟨(⟨#[97, 110, 121]⟩ : ByteArray), (-1)⟩ : S98)] : List (S98))) := ⟨_, rfl⟩
 replace H : ((spec_reader_one.f k s0_0 s0_1 (([4, 5, 3, 6, 2, 1, 8] : List Int))).bind fun bt351 => (spec_goodTree.l0 k y341 bt351.1 1 s0_0 bt351.2 y344)) = some (r1, r2) := by first | (rw [hy344]; with_reducible exact H) | (have H2_ := (Option.bind_some _ _).symm.trans H; rw [hy344]; with_reducible exact H2_) | (have H2_ := (Option.bind_some _ _).symm.trans H; with_reducible exact H2_) | with_reducible exact H | (rw [hy344]; exact H) | exact H
 have Ny344 := am hy344
 clear hy344
 obtain ⟨y348, hy348⟩ : ∃ y_ : List Int, y_ = (([4, 5, 3, 6, 2, 1, 8] : List Int)) := ⟨_, rfl⟩
 replace H : ((spec_reader_one.f k s0_0 s0_1 y348).bind fun bt351 => (spec_goodTree.l0 k y341 bt351.1 1 s0_0 bt351.2 y344)) = some (r1, r2) := by first | (rw [hy348]; with_reducible exact H) | (have H2_ := (Option.bind_some _ _).symm.trans H; rw [hy348]; with_reducible exact H2_) | (have H2_ := (Option.bind_some _ _).symm.trans H; with_reducible exact H2_) | with_reducible exact H | (rw [hy348]; exact H) | exact H
 have Ny348 := am hy348
 clear hy348
 replace H := Option.bind_eq_some_iff.mp H
 obtain ⟨⟨t351, t352⟩, A20, H⟩ := H
 replace H : (spec_goodTree.l0 k y341 t351 1 s0_0 t352 y344) = some (r1, r2) := H
 have A2 := am A20
 clear A20
 have H' := am H
 clear H
 go_enter Try.func95, Try.ntmps95
 go_wp2_with (first | ((with_reducible refine gate_dst (N := 2) rfl ?_); refine bE (N := 2) (cs := #[.slice none 0 0]) (t := 32) ?_; intro gb340 hg w3 hbox hb; have BK340 := am (hbox); have GW340 := am ((Y10 : w.heap.size ≤ gb340)); have GE340 := am ((Nat.le_trans HW0.out (Y10 : w.heap.size ≤ gb340) : w0.heap.size ≤ gb340)); have NB0_340 := am ((Y22 : g ≠ gb340)); have NB340_0 := am ((Y23 : gb340 ≠ g)); replace HK := am (KeepBut.trans (Y14) (KeepBut.of_below hb g none) (.inl rfl)); replace HB := am (below_step (Y15) hb); replace HI0 := am (IsS106.below (Y13) hb); clear hb hbox hg) | ((with_reducible refine gate_dst (N := 7) rfl ?_); refine Kd.R_lit Kd.string _ 9 ?hg (N := 7) ?hd (xs := ([(⟨#[97, 110, 121]⟩ : ByteArray), (⟨#[105, 111]⟩ : ByteArray), (⟨#[107, 101, 121]⟩ : ByteArray), (⟨#[116, 105, 109, 101]⟩ : ByteArray), (⟨#[110, 101, 116]⟩ : ByteArray), (⟨#[100, 105, 115, 107]⟩ : ByteArray), (⟨#[116, 121, 112, 101]⟩ : ByteArray), (⟨#[111, 100, 100]⟩ : ByteArray)] : List ByteArray)) (inner := [.string (⟨#[97, 110, 121]⟩ : ByteArray), .string (⟨#[105, 111]⟩ : ByteArray), .string (⟨#[107, 101, 121]⟩ : ByteArray), .string (⟨#[116, 105, 109, 101]⟩ : ByteArray), .string (⟨#[110, 101, 116]⟩ : ByteArray), .string (⟨#[100, 105, 115, 107]⟩ : ByteArray), .string (⟨#[116, 121, 112, 101]⟩ : ByteArray), .string (⟨#[111, 100, 100]⟩ : ByteArray)]) (ok := fun _ => True) (okp := fun _ => True) ?hr ?hp (fun _ hk => hk) trivial (Below.refl _ _) (Nat.le_refl _) (by simp) ?_; (case hd => rfl); (case hg => rfl); (case hr => exact Y5); (case hp => exact (Reps.one (show Kd.M Kd.string _ _ _ (⟨#[97, 110, 121]⟩ : ByteArray) [.string (⟨#[97, 110, 121]⟩ : ByteArray)] from rfl) (Reps.one (show Kd.M Kd.string _ _ _ (⟨#[105, 111]⟩ : ByteArray) [.string (⟨#[105, 111]⟩ : ByteArray)] from rfl) (Reps.one (show Kd.M Kd.string _ _ _ (⟨#[107, 101, 121]⟩ : ByteArray) [.string (⟨#[107, 101, 121]⟩ : ByteArray)] from rfl) (Reps.one (show Kd.M Kd.string _ _ _ (⟨#[116, 105, 109, 101]⟩ : ByteArray) [.string (⟨#[116, 105, 109, 101]⟩ : ByteArray)] from rfl) (Reps.one (show Kd.M Kd.string _ _ _ (⟨#[110, 101, 116]⟩ : ByteArray) [.string (⟨#[110, 101, 116]⟩ : ByteArray)] from rfl) (Reps.one (show Kd.M Kd.string _ _ _ (⟨#[100, 105, 115, 107]⟩ : ByteArray) [.string (⟨#[100, 105, 115, 107]⟩ : ByteArray)] from rfl) (Reps.one (show Kd.M Kd.string _ _ _ (⟨#[116, 121, 112, 101]⟩ : ByteArray) [.string (⟨#[116, 121, 112, 101]⟩ : ByteArray)] from rfl) (Reps.one (show Kd.M Kd.string _ _ _ (⟨#[111, 100, 100]⟩ : ByteArray) [.string (⟨#[111, 100, 100]⟩ : ByteArray)] from rfl) (Reps.none _ _)))))))))); intro v342 w4 ho5 hb hg_ hnew_; clear hg_ hnew_; (first | rw [← Ny341.out] at ho5 | (simp only [Int.reduceToNat] at ho5; rw [← Ny341.out] at ho5)); have HO343 := am (Kd.R_lower ho5 (keep_size (w := w) (g := g) (row := none) (Y78))); replace BK340 := am (blk_below (g := gb340) (o := .cells #[.slice none 0 0] 32 (0, 0)) (kq BK340.out) hb); replace HK := am (KeepBut.trans (Y78) (KeepBut.of_below hb g none) (.inl rfl)); replace HB := am (below_step (Y100) hb); replace HI0 := am (IsS106.below (Y101) hb); clear hb ho5) | ((with_reducible refine gate_dst (N := 9) rfl ?_); refine Kd.R_lit k98 _ 98 ?hg (N := 9) ?hd (xs := ([(⟨(⟨#[97, 110, 121]⟩ : ByteArray), (-1)⟩ : S98)] : List (S98))) (inner := [.string (⟨#[97, 110, 121]⟩ : ByteArray), .int .i64 (-1)]) (ok := fun _ => True) (okp := fun _ => True) ?hr ?hp (fun _ hk => hk) trivial (Below.refl _ _) (Nat.le_refl _) (by simp) ?_; (case hd => rfl); (case hg => rfl); (case hr => exact Y5); (case hp => exact (Reps.c2 (show Kd.M k98 _ _ _ (⟨(⟨#[97, 110, 121]⟩ : ByteArray), (-1)⟩ : S98) [.string (⟨#[97, 110, 121]⟩ : ByteArray), .int .i64 (-1)] from (k98_mkM _ _ _ (⟨(⟨#[97, 110, 121]⟩ : ByteArray), (-1)⟩ : S98) )) (Reps.none _ _))); intro v345 w6 ho7 hb hg_ hnew_; clear hg_ hnew_; (first | rw [← Ny344.out] at ho7 | (simp only [Int.reduceToNat] at ho7; rw [← Ny344.out] at ho7)); have HO346 := am (Kd.R_lower ho7 (keep_size (w := w) (g := g) (row := none) (Y78))); replace HO343 := am (Kd.R_below (rq HO343.out) hb); replace BK340 := am (blk_below (g := gb340) (o := .cells #[.slice none 0 0] 32 (0, 0)) (kq BK340.out) hb); replace HK := am (KeepBut.trans (Y78) (KeepBut.of_below hb g none) (.inl rfl)); replace HB := am (below_step (Y100) hb); replace HI0 := am (IsS106.below (Y101) hb); clear hb ho7; obtain ⟨Ao8, co8, eo8⟩ := Kd.R_slice HO346.out; subst eo8) | ((with_reducible refine gate_dst (N := 4) rfl ?_); refine bE (N := 4) (cs := #[.slice none 0 0]) (t := 32) ?_; intro gb347 hg w9 hbox hb; have BK347 := am (hbox); have GW347 := am ((Y108 : w.heap.size ≤ gb347)); have GE347 := am ((Nat.le_trans HW0.out (Y108 : w.heap.size ≤ gb347) : w0.heap.size ≤ gb347)); have NB340_347 := am ((by rw [hg]; exact Nat.ne_of_lt (blk_lt (g := gb340) (o := .cells #[.slice none 0 0] 32 (0, 0)) (kq BK340.out)) : gb340 ≠ gb347)); have NB347_340 := am ((by rw [hg]; exact Nat.ne_of_gt (blk_lt (g := gb340) (o := .cells #[.slice none 0 0] 32 (0, 0)) (kq BK340.out)) : gb347 ≠ gb340)); have NB0_347 := am ((by rw [hg]; exact Nat.ne_of_lt (IsS106.lt (show IsS106 w0 _ g s0_0 s0_1 from by repeat (first | (with_reducible first | exact HI0.out | apply IsS106.alloc | apply IsS106.drewN | apply IsS106.drew | apply IsS106.set_1 | refine IsS106.far ?_ NB0_340.out _) | exact HI0.out))) : g ≠ gb347)); have NB347_0 := am ((by rw [hg]; exact Nat.ne_of_gt (IsS106.lt (show IsS106 w0 _ g s0_0 s0_1 from by repeat (first | (with_reducible first | exact HI0.out | apply IsS106.alloc | apply IsS106.drewN | apply IsS106.drew | apply IsS106.set_1 | refine IsS106.far ?_ NB0_340.out _) | exact HI0.out))) : gb347 ≠ g)); replace HO343 := am (Kd.R_below (rq HO343.out) hb); replace HO346 := am (Kd.R_below (rq HO346.out) hb); replace BK340 := am (blk_below (g := gb340) (o := .cells #[.slice none 0 0] 32 (0, 0)) (kq BK340.out) hb); replace HK := am (KeepBut.trans (Y78) (KeepBut.of_below hb g none) (.inl rfl)); replace HB := am (below_step (Y100) hb); replace HI0 := am (IsS106.below (Y101) hb); clear hb hbox hg; have hnb10 := NB347_340.out; have hnc10 := NB340_347.out; have hnb11 := NB347_0.out; have hnc11 := NB0_347.out; have hcz12_0 := bc0 BK347.out; have hfz12_0 := blk_frozen BK347.out 0) | ((with_reducible refine gate_dst (N := 12) rfl ?_); refine Kd.R_lit (Kd.int .i64) _ 3 ?hg (N := 12) ?hd (xs := ([4, 5, 3, 6, 2, 1, 8] : List Int)) (inner := [.int .i64 4, .int .i64 5, .int .i64 3, .int .i64 6, .int .i64 2, .int .i64 1, .int .i64 8]) (ok := fun _ => True) (okp := fun _ => True) ?hr ?hp (fun _ hk => hk) trivial (Below.refl _ _) (Nat.le_refl _) (by simp) ?_; (case hd => rfl); (case hg => rfl); (case hr => exact Y5); (case hp => exact (Reps.one (show Kd.M (Kd.int .i64) _ _ _ 4 [.int .i64 4] from rfl) (Reps.one (show Kd.M (Kd.int .i64) _ _ _ 5 [.int .i64 5] from rfl) (Reps.one (show Kd.M (Kd.int .i64) _ _ _ 3 [.int .i64 3] from rfl) (Reps.one (show Kd.M (Kd.int .i64) _ _ _ 6 [.int .i64 6] from rfl) (Reps.one (show Kd.M (Kd.int .i64) _ _ _ 2 [.int .i64 2] from rfl) (Reps.one (show Kd.M (Kd.int .i64) _ _ _ 1 [.int .i64 1] from rfl) (Reps.one (show Kd.M (Kd.int .i64) _ _ _ 8 [.int .i64 8] from rfl) (Reps.none _ _))))))))); intro v349 w13 ho14 hb hg_ hnew_; clear hg_ hnew_; (first | rw [← Ny348.out] at ho14 | (simp only [Int.reduceToNat] at ho14; rw [← Ny348.out] at ho14)); have HO350 := am (Kd.R_lower ho14 (keep_size (w := w) (g := g) (row := none) (Y38))); replace HO343 := am (Kd.R_below (by (with_reducible repeat (first | apply Kd.R_alloc | apply Kd.R_drewN | apply Kd.R_drew)); exact (Kd.R_mono (Kd.R_far (p := ⟨gb347, 0, none⟩) (Kd.R_types HO343.out BK347.out (by decide)) (fun _ hk => hk.2) (.slice Ao8 y344.length co8)) (fun _ h_ => h_.1))) hb); replace HO346 := am (Kd.R_below (by (with_reducible repeat (first | apply Kd.R_alloc | apply Kd.R_drewN | apply Kd.R_drew)); exact (Kd.R_mono (Kd.R_far (p := ⟨gb347, 0, none⟩) (Kd.R_types HO346.out BK347.out (by decide)) (fun _ hk => hk.2) (.slice Ao8 y344.length co8)) (fun _ h_ => h_.1))) hb); replace BK340 := am (blk_below (g := gb340) (o := .cells #[.slice none 0 0] 32 (0, 0)) (by (with_reducible repeat (first | refine blk_drewN ?_ _ | refine blk_drew ?_ | refine blk_alloc ?_ _)); refine blk_far ?_ NB340_347.out _; (with_reducible repeat (first | refine blk_drewN ?_ _ | refine blk_drew ?_ | refine blk_alloc ?_ _)); exact BK340.out) hb); replace BK347 := am (blk_below (g := gb347) (o := .cells #[.slice Ao8 y344.length co8] 32 (0, 0)) (by (with_reducible repeat (first | refine blk_drewN ?_ _ | refine blk_drew ?_ | refine blk_alloc ?_ _)); refine blk_put (cs := #[.slice none 0 0]) ?_ 0 _ rfl; (with_reducible repeat (first | refine blk_drewN ?_ _ | refine blk_drew ?_ | refine blk_alloc ?_ _)); exact BK347.out) hb); replace HK := am (KeepBut.trans (Y38) (KeepBut.of_below hb g none) (.inl rfl)); replace HB := am (below_step (Y45) hb); replace HI0 := am (IsS106.below (show IsS106 w0 (w9.setCell ⟨gb347, 0, none⟩ (.slice Ao8 y344.length co8)) g s0_0 s0_1 from Y29) hb); clear hb ho14; obtain ⟨Ao15, co15, eo15⟩ := Kd.R_slice HO350.out; subst eo15) | ((with_reducible refine gate_callee (f := 56) rfl ?_); refine gL (some 13) Try.func56 #[.pointer (some ⟨g, 0, none⟩), .slice Ao15 y348.length co15] ?_; (with_reducible refine (spec_reader_one.calls k g s0_0 s0_1 _ _ y348 t351 t352 w0 _ ?side1 ?side2 ?side3 ?side4 ?side5 A2.out).mono ?_); (case side1 => exact Y29); (case side2 => exact Y45); (case side3 => exact cq (Kd.R_reads' HO350.out).2.2); (case side4 => exact (Kd.R_reads' HO350.out).2.1); (case side5 => exact far_slice (IsS106.own_ne HI0.out HO350.out (by decide))); rintro e w16 ⟨rfl, hi, hb, hk⟩; refine ⟨_, rfl, ?_⟩; replace BK340 := am (KeepBut.blk hk (g' := gb340) (o := .cells #[.slice none 0 0] 32 (0, 0)) (kq BK340.out) NB340_0.out (by simp)); replace HO343 := am (Kd.R_mono (Kd.R_keep (IsS106.apart (show IsS106 w0 _ g s0_0 s0_1 from Y29) (rq HO343.out) (by decide)) hk (fun _ h => h.2)) (fun _ h => h.1)); replace HO346 := am (Kd.R_mono (Kd.R_keep (IsS106.apart (show IsS106 w0 _ g s0_0 s0_1 from Y29) (rq HO346.out) (by decide)) hk (fun _ h => h.2)) (fun _ h => h.1)); replace BK347 := am (KeepBut.blk hk (g' := gb347) (o := .cells #[.slice Ao8 y344.length co8] 32 (0, 0)) (kq BK347.out) NB347_0.out (by simp)); replace HO350 := am (Kd.R_mono (Kd.R_keep (IsS106.apart (show IsS106 w0 _ g s0_0 s0_1 from Y29) (rq HO350.out) (by decide)) hk (fun _ h => h.2)) (fun _ h => h.1)); replace HK := am (KeepBut.trans (Y38) hk (.inl rfl)); replace HB := am (hb); replace HI0 := am (hi); (try clear hb); (try clear hb2); (try clear hk); (try clear hi)))
 go_loopg [6] k (fun kq v6 w' => ∃ (x6_1 : Int) (x1001_1 : Int) (x348000_1 : List (S98)) (u348000 : Value), v6 = .int .i64 x6_1 ∧ Aside0 (spec_goodTree.l0 kq y341 t351 x6_1 s0_0 x1001_1 x348000_1 = some (r1, r2)) ∧ Aside0 (kq ≤ k) ∧ Aside0 (Kd.R Kd.string 9 w' w.heap.size (fun _ => True) v342 y341) ∧ Aside0 (Kd.R k98 98 w' w.heap.size (fun _ => True) u348000 x348000_1) ∧ Aside0 (w'.heap[gb340]? = some (.cells #[(.slice none 0 0)] 32 (0, 0))) ∧ Aside0 (w'.heap[gb347]? = some (.cells #[u348000] 32 (0, 0))) ∧ Aside0 (IsS106 w0 w' g s0_0 x1001_1) ∧ Aside0 (KeepBut w w' g none) ∧ Aside0 (Below w0.heap.size w0 w'))
 case atStart => exact ⟨(1), (t352), (y344), (.slice Ao8 y344.length co8), (sq), H', ⟨Nat.le_refl _⟩, ⟨rq HO343.out⟩, ⟨rq HO346.out⟩, ⟨kq BK340.out⟩, ⟨kq BK347.out⟩, ⟨Y29⟩, ⟨Y38⟩, ⟨Y45⟩⟩
 case round =>
  clear H'
  try clear c1
  try clear c2
  try clear p2
  try clear c5
  try clear c9
  try clear c10
  try clear c11
  try clear hcz12_0
  try clear hfz12_0
  obtain ⟨x6_1, x1001_1, x348000_1, u348000, rfl, HA, HK1, HO_3, HO_348000, BK340, BK347, HI0, HK, HB⟩ := hrel
  cases gk with
  | zero => exact absurd HA.out (by simp [spec_goodTree.l0])
  | succ k1 =>
   have H := HA.out
   clear HA
   simp only [spec_goodTree.l0] at H
   by_cases c17 : x6_1 < t351
   ·rw [if_pos c17] at H
    have c17b0 : decide (x6_1 < t351) = true := decide_eq_true c17
    clear c17
    by_cases c18 : 0 ≤ x6_1
    ·rw [if_pos c18] at H
     have c18b0 : decide (0 ≤ x6_1) = true := decide_eq_true c18
     clear c18
     by_cases c19 : x6_1 < (y341.length : Int)
     ·rw [if_pos c19] at H
      have c19b0 : decide (x6_1 < (y341.length : Int)) = true := decide_eq_true c19
      clear c19
      replace H := Option.bind_eq_some_iff.mp H
      obtain ⟨⟨t354, t355⟩, A200, H⟩ := H
      replace H : ((spec_reader_one.f k1 s0_0 t355 (([0, t354, wrap64 (x6_1 - 1)] : List Int))).bind fun bt359 => (if x348000_1.length < 5864062014805 then (spec_goodTree.l0 k1 y341 t351 (wrap64 (x6_1 + 1)) s0_0 bt359.2 (x348000_1 ++ [(⟨rdOf ByteArray.empty y341 x6_1, bt359.1⟩ : S98)])) else (none))) = some (r1, r2) := H
      have A20 := am A200
      clear A200
      obtain ⟨y356, hy356⟩ : ∃ y_ : List Int, y_ = (([0, t354, wrap64 (x6_1 - 1)] : List Int)) := ⟨_, rfl⟩
      replace H : ((spec_reader_one.f k1 s0_0 t355 y356).bind fun bt359 => (if x348000_1.length < 5864062014805 then (spec_goodTree.l0 k1 y341 t351 (wrap64 (x6_1 + 1)) s0_0 bt359.2 (x348000_1 ++ [(⟨rdOf ByteArray.empty y341 x6_1, bt359.1⟩ : S98)])) else (none))) = some (r1, r2) := by first | (rw [hy356]; with_reducible exact H) | (have H2_ := (Option.bind_some _ _).symm.trans H; rw [hy356]; with_reducible exact H2_) | (have H2_ := (Option.bind_some _ _).symm.trans H; with_reducible exact H2_) | with_reducible exact H | (rw [hy356]; exact H) | exact H
      have Ny356 := am hy356
      clear hy356
      replace H := Option.bind_eq_some_iff.mp H
      obtain ⟨⟨t359, t360⟩, A210, H⟩ := H
      replace H : (if x348000_1.length < 5864062014805 then (spec_goodTree.l0 k1 y341 t351 (wrap64 (x6_1 + 1)) s0_0 t360 (x348000_1 ++ [(⟨rdOf ByteArray.empty y341 x6_1, t359⟩ : S98)])) else (none)) = some (r1, r2) := H
      have A21 := am A210
      clear A210
      by_cases c22 : x348000_1.length < 5864062014805
      ·rw [if_pos c22] at H
       have LMc22 := am c22
       clear c22
       obtain ⟨y361, hy361⟩ : ∃ y_ : List (S98), y_ = (x348000_1 ++ [(⟨rdOf ByteArray.empty y341 x6_1, t359⟩ : S98)]) := ⟨_, rfl⟩
       replace H : (spec_goodTree.l0 k1 y341 t351 (wrap64 (x6_1 + 1)) s0_0 t360 y361) = some (r1, r2) := by first | (rw [hy361]; with_reducible exact H) | (have H2_ := (Option.bind_some _ _).symm.trans H; rw [hy361]; with_reducible exact H2_) | (have H2_ := (Option.bind_some _ _).symm.trans H; with_reducible exact H2_) | with_reducible exact H | (rw [hy361]; exact H) | exact H
       have Ny361 := am hy361
       clear hy361
       have H' := am H
       clear H
       try go_wp2
       replace HO_3 := am (Kd.R_drew HO_3.out)
       replace HO_348000 := am (Kd.R_drew HO_348000.out)
       replace BK340 := am (blk_drew BK340.out)
       replace BK347 := am (blk_drew BK347.out)
       replace HI0 := am (IsS106.drew HI0.out)
       replace HK := am (keep_drew HK.out)
       replace HB := am (below_drew1 HB.out)
       obtain ⟨Ao24, co24, eo24⟩ := Kd.R_slice HO_3.out
       (first | subst eo24 | (injection eo24 with f1_ f2_ f3_; have f4_ := f1_.symm; have f5_ := f3_.symm; clear f1_ f2_ f3_; subst f4_; subst f5_))
       have p353 : 0 ≤ (x6_1 : Int) := of_decide_eq_true (uq)
       have q353 : x6_1 < (y341.length : Int) := of_decide_eq_true (uq)
       obtain ⟨ad353, e353, hx353_0⟩ := Kd.at_string (Kd.R_reads' HO_3.out).2.2 x6_1 p353 q353
       cases e353
       replace p353 := eq_true p353
       replace q353 := eq_true q353
       refine start_ (n := 19) (S := fun w' => w'.cell? ⟨gb347, 0, none⟩ = some (u348000) ∧ w'.cell? (ad353.add (x6_1).toNat) = some (.string (rdOf ByteArray.empty y341 x6_1))) (ds := [16, 18]) #[false, false, false, false, false, false, false, false, false, false, false, false, false, false, false, false, false, false, false] (by kernel_rfl) rfl rfl ⟨(blk_cell BK347.out 0).trans rfl, hx353_0⟩ (fun hHeld => ?_); refine with_tabW spec_goodTree.tab7 spec_goodTree.bits7 (fun HT_ HW_ => ?_)
       generalize wr.drew = w23 at HO_3 HO_348000 BK340 BK347 HI0 HK HB hx353_0 hHeld ⊢
       refine pq (i := 0) (N := some 19) #[true, false, false, false, false, false, false, false, false, false, false, false, false, false, false, false, false, false, false] ?_
       refine pq (i := 2) (N := some 21) #[true, false, true, false, false, false, false, false, false, false, false, false, false, false, false, false, false, false, false] ?_
       refine pq (i := 3) (N := some 22) #[true, false, true, true, false, false, false, false, false, false, false, false, false, false, false, false, false, false, false] ?_
       refine pq (i := 4) (N := some 23) #[true, false, true, true, true, false, false, false, false, false, false, false, false, false, false, false, false, false, false] ?_
       refine pq (i := 6) (N := some 25) #[true, false, true, true, true, false, true, false, false, false, false, false, false, false, false, false, false, false, false] ?_
       refine pq (i := 7) (N := some 26) #[true, false, true, true, true, false, true, true, false, false, false, false, false, false, false, false, false, false, false] ?_
       refine pq (i := 8) (N := some 27) #[true, false, true, true, true, false, true, true, true, false, false, false, false, false, false, false, false, false, false] ?_
       refine pq (i := 10) (N := some 29) #[true, false, true, true, true, false, true, true, true, false, true, false, false, false, false, false, false, false, false] ?_
       refine pq (i := 11) (N := some 30) #[true, false, true, true, true, false, true, true, true, false, true, true, false, false, false, false, false, false, false] ?_
       refine take_ (i := 1) (N := some 20) (v := ?_) (a' := ?_) #[true, true, true, true, true, false, true, true, true, false, true, true, false, false, false, false, false, false, false] rfl rfl (take_ofW HT_.out HW_.out (by kernel_rfl)) (fun _ _ _ h => h) (Or.inl ⟨by rfl, ?_⟩) hHeld ?_ ?_
       rotate_left
       ·rintro w' ⟨s0, s1⟩
        go_simp
        with_reducible rfl
       rotate_left
       ·exact sa
       refine take_ (i := 5) (N := some 24) (v := ?_) (a' := ?_) #[true, true, true, true, true, true, true, true, true, false, true, true, false, false, false, false, false, false, false] rfl rfl (take_ofW HT_.out HW_.out (by kernel_rfl)) (fun _ _ _ h => h) (Or.inl ⟨by rfl, ?_⟩) hHeld ?_ ?_
       rotate_left
       ·rintro w' ⟨s0, s1⟩
        go_simp
        with_reducible rfl
       rotate_left
       ·exact sa
       refine one_ (i := 9) (N := some 28) #[true, true, true, true, true, true, true, true, true, true, true, true, false, false, false, false, false, false, false] rfl rfl (one_of HT_.out (by kernel_rfl)) (by decide) (fun K hK => ?_)
       refine goes_ Try.func55 (by kernel_rfl) rfl #[.pointer (some ⟨g, 0, none⟩), .int .i64 x6_1] (by rfl) rfl rfl (aq) ?_
       with_reducible refine (spec_reader_pick.calls k1 g s0_0 x1001_1 x6_1 t354 t355 w0 _ ?side1 ?side2 A20.out).mono ?_
       (case side1 => exact Y29)
       (case side2 => exact Y45)
       rintro e w25 ⟨rfl, hi, hb, hk⟩
       have HS1_ := keep_cell hk (hHeld.2) (Y109)
       refine ⟨_, rfl, ?_⟩
       replace HO_3 := am (Kd.R_mono (Kd.R_keep (IsS106.apart (show IsS106 w0 _ g s0_0 x1001_1 from Y29) (rq HO_3.out) (by decide)) hk (fun _ h => h.2)) (fun _ h => h.1))
       replace HO_348000 := am (Kd.R_mono (Kd.R_keep (IsS106.apart (show IsS106 w0 _ g s0_0 x1001_1 from Y29) (rq HO_348000.out) (by decide)) hk (fun _ h => h.2)) (fun _ h => h.1))
       replace BK340 := am (KeepBut.blk hk (g' := gb340) (o := .cells #[.slice none 0 0] 32 (0, 0)) (kq BK340.out) NB340_0.out (by simp))
       replace BK347 := am (KeepBut.blk hk (g' := gb347) (o := .cells #[u348000] 32 (0, 0)) (kq BK347.out) NB347_0.out (by simp))
       replace HK := am (KeepBut.trans (Y38) hk (.inl rfl))
       replace HB := am (hb)
       replace HI0 := am (hi)
       (try clear hb)
       (try clear hb2)
       (try clear hk)
       (try clear hi)
       refine hK.out _ _ ⟨(blk_cell BK347.out 0).trans rfl, HS1_⟩ (fun hHeld => ?_)
       clear hK K
       refine norm_ (a' := ?_) ?_ ?_
       rotate_left
       ·show Act.put _ (some 28) _ = _
        simp only [Act.put, List.setIfInBounds_toArray, List.set_cons_zero, List.set_cons_succ, i64_w, i32_w]
        rfl
       refine one_ (i := 12) (N := some 31) #[true, true, true, true, true, true, true, true, true, true, true, true, true, false, false, false, false, false, false] rfl rfl (one_of HT_.out (by kernel_rfl)) (by decide) (fun K hK => ?_)
       refine Kd.R_lit_step (Kd.int .i64) _ 3 ?hg (N := 31) ?hd (xs := ([0, t354, wrap64 (x6_1 - 1)] : List Int)) (inner := [.int .i64 0, .int .i64 t354, .int .i64 (wrap64 (x6_1 - 1))]) (ok := fun _ => True) (okp := fun _ => True) ?hr ?hp (fun _ hk => hk) trivial (Below.refl _ _) (Nat.le_refl _) (by simp) ?_; (case hd => rfl); (case hg => rfl); (case hr => exact Y5); (case hp => exact (Reps.one (show Kd.M (Kd.int .i64) _ _ _ 0 [.int .i64 0] from rfl) (Reps.one (show Kd.M (Kd.int .i64) _ _ _ t354 [.int .i64 t354] from rfl) (Reps.one (show Kd.M (Kd.int .i64) _ _ _ (wrap64 (x6_1 - 1)) [.int .i64 (wrap64 (x6_1 - 1))] from rfl) (Reps.none _ _)))))
       intro v357 w26 ho27 hb hg_ hnew_
       have HS1_ := (hb.cell (World.block_lt_of_cell? _ _ (hHeld.2))).trans (hHeld.2)
       clear hg_ hnew_
       (first | rw [← Ny356.out] at ho27 | (simp only [Int.reduceToNat] at ho27; rw [← Ny356.out] at ho27))
       have HO358 := am (Kd.R_lower ho27 (keep_size (w := w) (g := g) (row := none) (Y38)))
       replace HO_3 := am (Kd.R_below (rq HO_3.out) hb)
       replace HO_348000 := am (Kd.R_below (rq HO_348000.out) hb)
       replace BK340 := am (blk_below (g := gb340) (o := .cells #[.slice none 0 0] 32 (0, 0)) (kq BK340.out) hb)
       replace BK347 := am (blk_below (g := gb347) (o := .cells #[u348000] 32 (0, 0)) (kq BK347.out) hb)
       replace HK := am (KeepBut.trans (Y38) (KeepBut.of_below hb g none) (.inl rfl))
       replace HB := am (below_step (Y45) hb)
       replace HI0 := am (IsS106.below (Y29) hb)
       clear hb ho27
       obtain ⟨Ao28, co28, eo28⟩ := Kd.R_slice HO358.out
       (first | subst eo28 | (injection eo28 with f1_ f2_ f3_; have f4_ := f1_.symm; have f5_ := f3_.symm; clear f1_ f2_ f3_; subst f4_; subst f5_))
       refine hK.out _ _ ⟨(blk_cell BK347.out 0).trans rfl, HS1_⟩ (fun hHeld => ?_)
       clear hK K
       refine norm_ (a' := ?_) ?_ ?_
       rotate_left
       ·show Act.put _ (some 31) _ = _
        simp only [Act.put, List.setIfInBounds_toArray, List.set_cons_zero, List.set_cons_succ, i64_w, i32_w]
        rfl
       refine one_ (i := 13) (N := some 32) #[true, true, true, true, true, true, true, true, true, true, true, true, true, true, false, false, false, false, false] rfl rfl (one_of HT_.out (by kernel_rfl)) (by decide) (fun K hK => ?_)
       refine goes_ Try.func56 (by kernel_rfl) rfl #[.pointer (some ⟨g, 0, none⟩), .slice Ao28 y356.length co28] (by rfl) rfl rfl (aq) ?_
       with_reducible refine (spec_reader_one.calls k1 g s0_0 t355 _ _ y356 t359 t360 w0 _ ?side1 ?side2 ?side3 ?side4 ?side5 A21.out).mono ?_
       (case side1 => exact Y29)
       (case side2 => exact Y45)
       (case side3 => exact cq (Kd.R_reads' HO358.out).2.2)
       (case side4 => exact (Kd.R_reads' HO358.out).2.1)
       (case side5 => exact far_slice (IsS106.own_ne HI0.out HO358.out (by decide)))
       rintro e w29 ⟨rfl, hi, hb, hk⟩
       have HS1_ := keep_cell hk (hHeld.2) (Y109)
       refine ⟨_, rfl, ?_⟩
       replace HO_3 := am (Kd.R_mono (Kd.R_keep (IsS106.apart (show IsS106 w0 _ g s0_0 t355 from Y29) (rq HO_3.out) (by decide)) hk (fun _ h => h.2)) (fun _ h => h.1))
       replace HO_348000 := am (Kd.R_mono (Kd.R_keep (IsS106.apart (show IsS106 w0 _ g s0_0 t355 from Y29) (rq HO_348000.out) (by decide)) hk (fun _ h => h.2)) (fun _ h => h.1))
       replace BK340 := am (KeepBut.blk hk (g' := gb340) (o := .cells #[.slice none 0 0] 32 (0, 0)) (kq BK340.out) NB340_0.out (by simp))
       replace BK347 := am (KeepBut.blk hk (g' := gb347) (o := .cells #[u348000] 32 (0, 0)) (kq BK347.out) NB347_0.out (by simp))
       replace HO358 := am (Kd.R_mono (Kd.R_keep (IsS106.apart (show IsS106 w0 _ g s0_0 t355 from Y29) (rq HO358.out) (by decide)) hk (fun _ h => h.2)) (fun _ h => h.1))
       replace HK := am (KeepBut.trans (Y38) hk (.inl rfl))
       replace HB := am (hb)
       replace HI0 := am (hi)
       (try clear hb)
       (try clear hb2)
       (try clear hk)
       (try clear hi)
       refine hK.out _ _ ⟨(blk_cell BK347.out 0).trans rfl, HS1_⟩ (fun hHeld => ?_)
       clear hK K
       refine norm_ (a' := ?_) ?_ ?_
       rotate_left
       ·show Act.put _ (some 32) _ = _
        simp only [Act.put, List.setIfInBounds_toArray, List.set_cons_zero, List.set_cons_succ, i64_w, i32_w]
        rfl
       refine pq (i := 14) (N := some 33) #[true, true, true, true, true, true, true, true, true, true, true, true, true, true, true, false, false, false, false] ?_
       refine one_ (i := 15) (N := some 34) #[true, true, true, true, true, true, true, true, true, true, true, true, true, true, true, true, false, false, false] rfl rfl (one_of HT_.out (by kernel_rfl)) (by decide) (fun K hK => ?_)
       refine value_ (w1 := ?_) (v := ?_) (by rfl) rfl ?_ ?_
       rotate_left 2
       ·go_simp
        constructor
        ·rfl
        ·rfl
       refine hK.out _ _ ⟨(blk_cell (blk_alloc BK347.out _) 0).trans rfl, (World.cell?_alloc_lt _ _ _ (World.block_lt_of_cell? _ _ (hHeld.2))).trans (hHeld.2)⟩ (fun hHeld => ?_)
       clear hK K
       refine norm_ (a' := ?_) ?_ ?_
       rotate_left
       ·show Act.put _ (some 34) _ = _
        simp only [Act.put, List.setIfInBounds_toArray, List.set_cons_zero, List.set_cons_succ, i64_w, i32_w]
        rfl
       refine last_ (i := 16) (N := some 35) #[true, true, true, true, true, true, true, true, true, true, true, true, true, true, true, true, true, false, false] rfl rfl (one_of HT_.out (by kernel_rfl)) (by decide) (fun K hK => ?_)
       refine Kd.R_append_step k98 w.heap.size (by rfl) (.tmp 20) (.tmp 34) 30 98 (.agg #[(.string ⟨#[]⟩), (.int .i64 0)]) 24 rfl Try.underlying30 info98 rfl (by decide) (by omega) u348000 x348000_1 (⟨rdOf ByteArray.empty y341 x6_1, t359⟩ : S98) [.string (rdOf ByteArray.empty y341 x6_1), .int .i64 t359] (fun _ => True) (fun _ => False) rfl rfl ?aP (fun _ hk => hk.elim) ?aF ?aO (Below.refl _ _) ?aS ?aL ?_
       (case aP => exact k98_mkM _ _ _ (⟨rdOf ByteArray.empty y341 x6_1, t359⟩ : S98))
       (case aF => exact (fun _ _ => trivial))
       (case aO => exact (rq HO_348000.out))
       (case aS => exact (keep_size (w := w) (g := g) (row := none) (Y38)))
       (case aL => have := LMc22.out; omega)
       intro v362 w30 ho hb hg hat
       rw [← Ny361.out] at ho
       have n0_ := am (Kd.R_over' (rq HO_3.out) (Kd.R_typed (rq HO_348000.out)) (by decide) hg)
       have n1_ := am (blk_grown (g := gb340) (o := .cells #[.slice none 0 0] 32 (0, 0)) (kq BK340.out) hg (Kd.R_ne HO_348000.out BK340.out (by decide)))
       have n2_ := am (blk_grown (g := gb347) (o := .cells #[u348000] 32 (0, 0)) (kq BK347.out) hg (Kd.R_ne HO_348000.out BK347.out (by decide)))
       have n3_ := am (IsS106.grown (Y29) hg (IsS106.own_ne HI0.out HO_348000.out (by decide)))
       have n4_ := am (Kd.R_over' (rq HO358.out) (Kd.R_typed (rq HO_348000.out)) (by decide) hg)
       have n5_ := am (below_weaken (Y45) HL.out hb)
       have n6_ := am (KeepBut.trans (Y38) (KeepBut.of_grown hg g) (Kd.R_base2 HO_348000.out))
       have n7_ := am (ho)
       clear HO_3
       clear BK340
       clear BK347
       clear HI0
       clear HO358
       clear HB
       clear HK
       clear HO_348000
       have HO_3 := n0_
       have BK340 := n1_
       have BK347 := n2_
       have HI0 := n3_
       have HO358 := n4_
       have HB := n5_
       have HK := n6_
       have HO363 := n7_
       clear n0_ n1_ n2_ n3_ n4_ n5_ n6_ n7_
       clear ho hb hg hat
       obtain ⟨Ao31, co31, eo31⟩ := Kd.R_slice HO363.out
       (first | subst eo31 | (injection eo31 with f1_ f2_ f3_; have f4_ := f1_.symm; have f5_ := f3_.symm; clear f1_ f2_ f3_; subst f4_; subst f5_))
       refine hK.out _ _ ?_
       clear hK K
       refine norm_ (a' := ?_) ?_ ?_
       rotate_left
       ·show Act.put _ (some 35) _ = _
        simp only [Act.put, List.setIfInBounds_toArray, List.set_cons_zero, List.set_cons_succ, i64_w, i32_w]
        rfl
       refine pq (i := 17) (N := some 36) #[true, true, true, true, true, true, true, true, true, true, true, true, true, true, true, true, true, true, false] ?_
       refine last_ (i := 18) (N := none) #[true, true, true, true, true, true, true, true, true, true, true, true, true, true, true, true, true, true, true] rfl rfl (one_of HT_.out (by kernel_rfl)) (by decide) (fun K hK => ?_)
       have hs32 : w30.cell? ⟨gb347, 0, none⟩ = some (u348000) := (blk_cell BK347.out 0).trans rfl
       have hfs32 := blk_frozen BK347.out 0
       have hns32_0 := NB340_347.out
       have hms32_0 := NB347_340.out
       refine skip_ (w1 := ?_) (by rfl) rfl ?_ ?_
       rotate_left
       ·go_simp
        rfl
       refine hK.out _ _ ?_
       clear hK K
       refine done_ (done_of HT_.out (by kernel_rfl)) ?_
       try go_wp2
       go_roundg k1
       case measure => have := HK1.out; omega
       case rel => exact ⟨(wrap64 (x6_1 + 1)), (t360), (y361), (.slice Ao31 y361.length co31), (sq), H', ⟨by have := HK1.out; omega⟩, ⟨by (with_reducible repeat (first | apply Kd.R_alloc | apply Kd.R_drewN | apply Kd.R_drew)); exact Kd.R_mono (Kd.R_far (p := ⟨gb347, 0, none⟩) (Kd.R_types HO_3.out BK347.out (by decide)) (fun _ hk => hk.2) (.slice Ao31 y361.length co31)) (fun _ hk => trivial)⟩, ⟨by (with_reducible repeat (first | apply Kd.R_alloc | apply Kd.R_drewN | apply Kd.R_drew)); exact Kd.R_mono (Kd.R_far (p := ⟨gb347, 0, none⟩) (Kd.R_types HO363.out BK347.out (by decide)) (fun _ hk => hk.2) (.slice Ao31 y361.length co31)) (fun _ hk => trivial)⟩, ⟨by (with_reducible repeat (first | refine blk_drewN ?_ _ | refine blk_drew ?_ | refine blk_alloc ?_ _)); refine blk_far ?_ NB340_347.out _; (with_reducible repeat (first | refine blk_drewN ?_ _ | refine blk_drew ?_ | refine blk_alloc ?_ _)); exact BK340.out⟩, ⟨by (with_reducible repeat (first | refine blk_drewN ?_ _ | refine blk_drew ?_ | refine blk_alloc ?_ _)); refine blk_put (cs := #[u348000]) ?_ 0 _ rfl; (with_reducible repeat (first | refine blk_drewN ?_ _ | refine blk_drew ?_ | refine blk_alloc ?_ _)); exact BK347.out⟩, ⟨Y29⟩, ⟨Y38⟩, ⟨Y45⟩⟩
      ·rw [if_neg c22] at H
       exact absurd H (by simp)
     ·rw [if_neg c19] at H
      exact absurd H (by simp)
    ·rw [if_neg c18] at H
     exact absurd H (by simp)
   ·rw [if_neg c17] at H
    have c17b0 : decide (x6_1 < t351) = false := decide_eq_false c17
    clear c17
    simp only [Option.some.injEq, Prod.mk.injEq] at H
    obtain ⟨rfl, rfl⟩ := H
    have hnb33 := NB347_340.out
    have hnc33 := NB340_347.out
    have hnb34 := NB347_0.out
    have hnc34 := NB0_347.out
    have hcz35_0 := bc0 BK347.out
    have hfz35_0 := blk_frozen BK347.out 0
    obtain ⟨Ao36, co36, eo36⟩ := Kd.R_slice HO_348000.out
    subst eo36
    have hnb37 := NB340_0.out
    have hnc37 := NB0_340.out
    have hcz38_0 := bc0 BK340.out
    have hfz38_0 := blk_frozen BK340.out 0
    go_wp2
    refine bodyPost_ret (results_cell_row rfl _ _ gb340 32 #[.slice Ao36 x348000_1.length co36] (0, 0) _ rfl (by (with_reducible repeat (first | refine blk_drewN ?_ _ | refine blk_drew ?_ | refine blk_alloc ?_ _)); refine blk_put (cs := #[.slice none 0 0]) ?_ 0 _ rfl; (with_reducible repeat (first | refine blk_drewN ?_ _ | refine blk_drew ?_ | refine blk_alloc ?_ _)); exact BK340.out) Try.underlying32 rfl (by kernel_rfl)) rfl ?_
    exact ⟨_, Y0, by (with_reducible repeat (first | apply Kd.R_alloc | apply Kd.R_drewN | apply Kd.R_drew)); exact Kd.R_mono (Kd.R_far (p := ⟨gb340, 0, none⟩) (Kd.R_types HO_348000.out BK340.out (by decide)) (fun _ hk => hk.2) (.slice Ao36 x348000_1.length co36)) (fun _ hk => trivial), Y29, Y45, Y38⟩
def spec_reader_of.f (k : Nat) (s0_0 : List Int) (s0_1 : Int) (l1 : List ByteArray) : Option (ByteArray × Int) := (spec_reader_pick.f k s0_0 s0_1 (l1.length : Int)).bind fun bt364 => (if 0 ≤ bt364.1 then (if bt364.1 < (l1.length : Int) then (some (rdOf ByteArray.empty l1 bt364.1, bt364.2)) else (none)) else (none))
set_option maxHeartbeats 8000000 in
set_option maxRecDepth 100000 in
theorem spec_reader_of.calls (k : Nat) (g : Nat) (s0_0 : List Int) (s0_1 : Int) (A1 : Option Addr) (c1 : Nat) (l1 : List ByteArray) (r1 : ByteArray) (r2 : Int) (w0 w : World) (hI : IsS106 w0 w g s0_0 s0_1) (hB : Below w0.heap.size w0 w) (hr1 : Kd.C Kd.string w A1 l1.length l1) (hc1 : l1.length ≤ c1) (hf1 : ∀ ad, A1 = some ad → 0 < l1.length → ad.block ≠ g) (h : spec_reader_of.f k s0_0 s0_1 l1 = some (r1, r2)) :
  Calls Try.prog 96 #[.pointer (some ⟨g, 0, none⟩), .slice A1 l1.length c1] w fun e w' => e = .returned (.string r1) ∧ IsS106 w0 w' g s0_0 r2 ∧ Below w0.heap.size w0 w' ∧ KeepBut w w' g none := by
 have HR1 := am hr1
 have HC1 := am hc1
 clear hr1 hc1
 have HI0 := am hI
 have HK := am (KeepBut.refl w g none)
 have HL := am hB.size
 clear hI
 have HW0 := am hB.size
 have HB := am hB
 clear hB
 have H : ((spec_reader_pick.f k s0_0 s0_1 (l1.length : Int)).bind fun bt364 => (if 0 ≤ bt364.1 then (if bt364.1 < (l1.length : Int) then (some (rdOf ByteArray.empty l1 bt364.1, bt364.2)) else (none)) else (none))) = some (r1, r2) := h
 clear h
 replace H := Option.bind_eq_some_iff.mp H
 obtain ⟨⟨t364, t365⟩, A30, H⟩ := H
 replace H : (if 0 ≤ t364 then (if t364 < (l1.length : Int) then (some (rdOf ByteArray.empty l1 t364, t365)) else (none)) else (none)) = some (r1, r2) := H
 have A3 := am A30
 clear A30
 by_cases c4 : 0 ≤ t364
 ·rw [if_pos c4] at H
  have c4b0 : decide (0 ≤ t364) = true := decide_eq_true c4
  clear c4
  by_cases c5 : t364 < (l1.length : Int)
  ·rw [if_pos c5] at H
   have c5b0 : decide (t364 < (l1.length : Int)) = true := decide_eq_true c5
   clear c5
   simp only [Option.some.injEq, Prod.mk.injEq] at H
   obtain ⟨rfl, rfl⟩ := H
   go_enter Try.func96, Try.ntmps96
   go_wp2_with (first | ((with_reducible refine gate_callee (f := 55) rfl ?_); refine gL (some 9) Try.func55 #[.pointer (some ⟨g, 0, none⟩), .int .i64 (l1.length : Int)] ?_; (with_reducible refine (spec_reader_pick.calls k g s0_0 s0_1 (l1.length : Int) t364 t365 w0 _ ?side1 ?side2 A3.out).mono ?_); (case side1 => exact Y13); (case side2 => exact Y15); rintro e w6 ⟨rfl, hi, hb, hk⟩; refine ⟨_, rfl, ?_⟩; replace HK := am (KeepBut.trans (Y14) hk (.inl rfl)); replace HB := am (hb); replace HI0 := am (hi); (try clear hb); (try clear hb2); (try clear hk); (try clear hi); have p366 : 0 ≤ (t364 : Int) := of_decide_eq_true (uq); have q366 : t364 < (l1.length : Int) := of_decide_eq_true (uq); obtain ⟨ad366, e366, hx366_0⟩ := Kd.at_string HR1.out t364 p366 q366; cases e366; replace hx366_0 := keep_cell HK.out hx366_0 (by first | (rw [add_block]; exact hf1 _ rfl (by omega)) | exact hf1 _ rfl (by omega) | exact hf1 ad366 rfl (by omega)); replace p366 := eq_true p366; replace q366 := eq_true q366))
   go_ret
   exact ⟨Y0, Y13, Y15, Y14⟩
  ·rw [if_neg c5] at H
   exact absurd H (by simp)
 ·rw [if_neg c4] at H
  exact absurd H (by simp)
end Go.Proofs.Ytbcjbcjpoddkoaa.P
end
