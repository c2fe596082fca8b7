/- One part of the proofs on this program: functions of the program as plain functions, that the code comes to them, and facts on them. -/
import Derived.LoopIn
import Derived.LoopNIn
import Derived.Maps.AppendAt
import Derived.OwnWalkIn
import Derived.RangeFuncBound
import Derived.RangeFuncBox
import Derived.RangeFuncCalls
import Derived.RangeFuncLeaves
import Derived.RangeFuncNested
import Derived.Shelf.Abstract
import Derived.Shelf.RegionOpen
import Derived.TacticsInMore
import Derived.WalkKit
import Derived.Test.YtbcjbcjpoddkoaaYAll1
import Derived.Test.YtbcjbcjpoddkoaaYAll3
import Derived.Test.YtbcjbcjpoddkoaaYWAuto
section
namespace Go.Proofs.Ytbcjbcjpoddkoaa.P
open Go.RowKit Go.Proofs.YtbcjbcjpoddkoaaW.PrintWords Go.Proofs.YtbcjbcjpoddkoaaW.PrintLast Go.Proofs.YtbcjbcjpoddkoaaW.PrintMore
attribute [local go_sem] max2_int min2_int max_two min_two max_three min_three max_four min_four isSome_cell_setCell
set_option linter.unusedVariables false
set_option linter.unusedSimpArgs false
mutual
def impl_blockOk.l0 : Nat → List (S59) → Bool → List Int → Int → Option (Bool)
 | 0, _, _, _, _ => none
 | k + 1, x0, x3, x9, x10 => if x10 < (x9.length : Int) then (if 0 ≤ x10 then (if 0 ≤ (rd x9 x10) then (if (rd x9 x10) < (x0.length : Int) then (if ((rd_T59 x0 (rd x9 x10)).f1) = 5 then (impl_blockOk.j1 k x0 x3 x9 x10 (rd x9 x10) ((rd_T59 x0 (rd x9 x10)).f1) ((rd_T59 x0 (rd x9 x10)).f1) (((rd_T59 x0 (rd x9 x10)).f1) == 5)) else (impl_blockOk.j1 k x0 x3 x9 x10 (rd x9 x10) ((rd_T59 x0 (rd x9 x10)).f1) ((rd_T59 x0 (rd x9 x10)).f1) (((rd_T59 x0 (rd x9 x10)).f1) == 6))) else (none)) else (none)) else (none)) else (some true)
def impl_blockOk.j1 : Nat → List (S59) → Bool → List Int → Int → Int → Int → Int → Bool → Option (Bool)
 | 0, _, _, _, _, _, _, _, _ => none
 | k + 1, x0, x3, x9, x10, x11, x12, x35, x36 => if x36 = true then (if x3 = true then (impl_blockOk.l0 k x0 x3 x9 (wrap64 (x10 + 1))) else (some false)) else (if x35 = 8 then (impl_blockOk.j2 k x0 x3 x9 x10 x11 x12 x35 (x35 == 8)) else (if x35 = 9 then (impl_blockOk.j2 k x0 x3 x9 x10 x11 x12 x35 (x35 == 9)) else (impl_blockOk.j2 k x0 x3 x9 x10 x11 x12 x35 (x35 == 10))))
def impl_blockOk.j2 : Nat → List (S59) → Bool → List Int → Int → Int → Int → Int → Bool → Option (Bool)
 | 0, _, _, _, _, _, _, _, _ => none
 | k + 1, x0, x3, x9, x10, x11, x12, x35, x41 => if x41 = true then (some false) else (if x35 = 7 then ((impl_tryFrom.f k x0 x11).bind fun t262 => ((impl_tryOk.f x0 t262).bind fun t265 => (if t265 = true then (impl_blockOk.l1 k x0 x3 x9 x10 t262 t262 (t262.length : Int) 0) else (some false)))) else (if x35 = 11 then (impl_blockOk.j4 k x0 x3 x9 x10 x11 x12 (x35 == 11)) else (impl_blockOk.j4 k x0 x3 x9 x10 x11 x12 (x35 == 12))))
def impl_blockOk.l1 : Nat → List (S59) → Bool → List Int → Int → List Int → List Int → Int → Int → Option (Bool)
 | 0, _, _, _, _, _, _, _, _ => none
 | k + 1, x0, x3, x9, x10, x13, x54, x55, x56 => if x56 < x55 then (if 0 ≤ x56 then (if x56 < (x54.length : Int) then ((impl_endOf.f k x0 (rd x54 x56)).bind fun t267 => ((impl_blockOk.f k x0 (wrap64 ((rd x54 x56) + 1)) t267 x3).bind fun t268 => (if t268 = true then (impl_blockOk.l1 k x0 x3 x9 x10 x13 x54 x55 (wrap64 (x56 + 1))) else (some false)))) else (none)) else (none)) else (impl_blockOk.l0 k x0 x3 x9 (wrap64 ((wrap64 (x10 + (wrap64 ((x13.length : Int) - 1)))) + 1)))
def impl_blockOk.j4 : Nat → List (S59) → Bool → List Int → Int → Int → Int → Bool → Option (Bool)
 | 0, _, _, _, _, _, _, _ => none
 | k + 1, x0, x3, x9, x10, x11, x12, x75 => if x75 = true then ((impl_endOf.f k x0 x11).bind fun t269 => (if x3 = true then ((impl_blockOk.f k x0 (wrap64 (x11 + 1)) t269 true).bind fun t270 => (if t270 = true then (impl_blockOk.l0 k x0 x3 x9 (wrap64 (x10 + 1))) else (some false))) else ((impl_blockOk.f k x0 (wrap64 (x11 + 1)) t269 (x12 == 12)).bind fun t271 => (if t271 = true then (impl_blockOk.l0 k x0 x3 x9 (wrap64 (x10 + 1))) else (some false))))) else (impl_blockOk.l0 k x0 x3 x9 (wrap64 (x10 + 1)))
def impl_blockOk.f : Nat → List (S59) → Int → Int → Bool → Option (Bool)
 | 0, _, _, _, _ => none
 | k + 1, l0, a1, a2, a3 => (impl_siblings.f k l0 a1 a2).bind fun t257 => (impl_blockOk.l0 k l0 a3 t257 0)
end
set_option maxHeartbeats 8000000 in
set_option maxRecDepth 100000 in
theorem impl_blockOk.calls (k : Nat) : ∀ (A0 : Option Addr) (c0 : Nat) (l0 : List (S59)) (a1 : Int) (a2 : Int) (a3 : Bool) (r : Bool) (w : World) (hr0 : Kd.C k59 w A0 l0.length l0) (hc0 : l0.length ≤ c0) (h : impl_blockOk.f k l0 a1 a2 a3 = some r),
  Calls Try.prog 47 #[.slice A0 l0.length c0, .int .i64 a1, .int .i64 a2, .bool a3] w fun e w' => e = .returned (.bool r) ∧ Below w.heap.size w w' := by
 induction k using Nat.strongRecOn with
 | _ k ih =>
 intro A0 c0 l0 a1 a2 a3 r w hr0 hc0 h
 cases k with
 | zero => exact absurd h (by simp [impl_blockOk.f])
 | succ k =>
 simp only [impl_blockOk.f] at h
 have HR0 := am hr0
 have HC0 := am hc0
 clear hr0 hc0
 have HB := am (Below.refl w.heap.size w)
 have H : ((impl_siblings.f k l0 a1 a2).bind fun t257 => (impl_blockOk.l0 k l0 a3 t257 0)) = some r := h
 clear h
 replace H := Option.bind_eq_some_iff.mp H
 obtain ⟨t257, A50, H⟩ := H
 replace H : (impl_blockOk.l0 k l0 a3 t257 0) = some r := H
 have A5 := am A50
 clear A50
 have H' := am H
 clear H
 go_enter Try.func47, Try.ntmps47
 go_wp2_with (first | ((with_reducible refine gate_callee (f := 76) rfl ?_); refine gL (some 19) Try.func76 #[.slice A0 l0.length c0, .int .i64 a1, .int .i64 a2] ?_; (with_reducible refine (impl_siblings.calls k _ _ l0 a1 a2 t257 _ ?side1 ?side2 A5.out).mono ?_); (case side1 => exact Y11); (case side2 => exact HC0.out); rintro e w6 ⟨v258, rfl, ho0, hb⟩; refine ⟨_, rfl, ?_⟩; have HO259 := am (Kd.R_lower ho0 (below_size (bq))); replace HB := am (below_step (bq) hb); (try clear hb); (try clear hb2); (try clear hk); (try clear hi); (try clear ho0)))
 go_loopg [10] k (fun kq v10 w' => ∃ (x10_1 : Int), v10 = .int .i64 x10_1 ∧ Aside0 (impl_blockOk.l0 kq l0 a3 t257 x10_1 = some r) ∧ Aside0 (kq ≤ k) ∧ Aside0 (Kd.R (Kd.int .i64) 3 w' w.heap.size (fun _ => True) v258 t257) ∧ Aside0 (Below w.heap.size w w'))
 case atStart => exact ⟨(0), (sq), H', ⟨Nat.le_refl _⟩, ⟨rq HO259.out⟩, ⟨bq⟩⟩
 case round =>
  clear H'
  try clear p2
  try clear c4
  obtain ⟨x10_1, rfl, HA, HK1, HO_9, HB⟩ := hrel
  cases gk with
  | zero => exact absurd HA.out (by simp [impl_blockOk.l0])
  | succ k1 =>
   have H := HA.out
   clear HA
   simp only [impl_blockOk.l0] at H
   by_cases c7 : x10_1 < (t257.length : Int)
   ·rw [if_pos c7] at H
    have c7b0 : decide (x10_1 < (t257.length : Int)) = true := decide_eq_true c7
    clear c7
    by_cases c8 : 0 ≤ x10_1
    ·rw [if_pos c8] at H
     have c8b0 : decide (0 ≤ x10_1) = true := decide_eq_true c8
     clear c8
     by_cases c9 : 0 ≤ (rd t257 x10_1)
     ·rw [if_pos c9] at H
      have c9b0 : decide (0 ≤ (rd t257 x10_1)) = true := decide_eq_true c9
      clear c9
      by_cases c10 : (rd t257 x10_1) < (l0.length : Int)
      ·rw [if_pos c10] at H
       have c10b0 : decide ((rd t257 x10_1) < (l0.length : Int)) = true := decide_eq_true c10
       clear c10
       have HC11 := am H
       clear H
       obtain ⟨Ao12, co12, eo12⟩ := Kd.R_slice HO_9.out
       subst eo12
       have p260 : 0 ≤ (x10_1 : Int) := of_decide_eq_true (uq)
       have q260 : x10_1 < (t257.length : Int) := of_decide_eq_true (uq)
       obtain ⟨ad260, e260, hx260_0⟩ := Kd.at_int (Kd.R_reads' HO_9.out).2.2 x10_1 p260 q260
       cases e260
       replace p260 := eq_true p260
       replace q260 := eq_true q260
       have p261 : 0 ≤ ((rd t257 x10_1) : Int) := of_decide_eq_true (uq)
       have q261 : (rd t257 x10_1) < (l0.length : Int) := of_decide_eq_true (uq)
       obtain ⟨ad261, e261, hx261_0, hx261_1, hx261_2, hx261_3⟩ := at_T59 HR0.out (rd t257 x10_1) p261 q261
       cases e261
       replace hx261_0 := cb HB.out hx261_0
       replace hx261_1 := cb HB.out hx261_1
       replace hx261_2 := cb HB.out hx261_2
       replace hx261_3 := cb HB.out hx261_3
       replace p261 := eq_true p261
       replace q261 := eq_true q261
       go_upto_if 36 with (fail)
       go_cut [36] (fun v36 wc => ∃ (kq : Nat) (x36_10 : Bool), v36 = .bool x36_10 ∧ Aside0 (impl_blockOk.j1 kq l0 a3 t257 x10_1 (rd t257 x10_1) ((rd_T59 l0 (rd t257 x10_1)).f1) ((rd_T59 l0 (rd t257 x10_1)).f1) x36_10 = some r) ∧ Aside0 (kq ≤ k1) ∧ Aside0 (Kd.R (Kd.int .i64) 3 wc w.heap.size (fun _ => True) (.slice (some ad260) t257.length co12) t257) ∧ Aside0 (Below w.heap.size w wc))
       case first =>
        have H := HC11.out
        clear HC11
        by_cases c13 : ((rd_T59 l0 (rd t257 x10_1)).f1) = 5
        ·rw [if_pos c13] at H
         have c13b0 : (((rd_T59 l0 (rd t257 x10_1)).f1) == 5) = true := beq_iff_eq.mpr c13
         have c13b1 : (((rd_T59 l0 (rd t257 x10_1)).f1) != 5) = false := bne_eq_false_iff_eq.mpr c13
         clear c13
         (first | rw [c13b0] | (simp only [i64_w, i32_w]; rw [c13b0]) | skip)
         have H' := am H
         clear H
         go_wp2
         go_meet
         case rel => exact ⟨_, ((((rd_T59 l0 (rd t257 x10_1)).f1) == 5)), (sq), H', ⟨by have := HK1.out; first | omega | exact Nat.le_refl _⟩, ⟨rq HO_9.out⟩, ⟨bq⟩⟩
        ·rw [if_neg c13] at H
         have c13b0 : (((rd_T59 l0 (rd t257 x10_1)).f1) == 5) = false := beq_eq_false_iff_ne.mpr c13
         have c13b1 : (((rd_T59 l0 (rd t257 x10_1)).f1) != 5) = true := bne_iff_ne.mpr c13
         (first | rw [c13b0] | (simp only [i64_w, i32_w]; rw [c13b0]) | skip)
         have H' := am H
         clear H
         go_wp2
         go_meet
         case rel => exact ⟨_, ((((rd_T59 l0 (rd t257 x10_1)).f1) == 6)), (sq), H', ⟨by have := HK1.out; first | omega | exact Nat.le_refl _⟩, ⟨rq HO_9.out⟩, ⟨bq⟩⟩
       case rest =>
        clear HC11
        try clear c1
        try clear p2
        try clear q2
        try clear hx2
        try clear c4
        try clear c7
        try clear c7b0
        try clear c8
        try clear c8b0
        try clear c9
        try clear c9b0
        try clear c10
        try clear c10b0
        try clear c13
        try clear c13b0
        try clear c13b1
        try clear hx260_0
        try clear hx261_0
        try clear hx261_1
        try clear hx261_2
        try clear hx261_3
        try clear p2
        try clear p260
        try clear p261
        try clear q260
        try clear q261
        obtain ⟨kq, x36_10, rfl, HA, HJ10, HO_9, HB⟩ := hcut
        cases kq with
        | zero => exact absurd HA.out (by simp [impl_blockOk.j1])
        | succ kj10 =>
         have H := HA.out
         clear HA
         simp only [impl_blockOk.j1] at H
         by_cases c14 : x36_10 = true
         ·subst c14
          have H1 : (if a3 = true then (impl_blockOk.l0 kj10 l0 a3 t257 (wrap64 (x10_1 + 1))) else (some false)) = some r := by rw [if_pos rfl] at H; exact H
          clear H
          have H := H1
          clear H1
          by_cases c15 : a3 = true
          ·subst c15
           have H1 : (impl_blockOk.l0 kj10 l0 true t257 (wrap64 (x10_1 + 1))) = some r := by rw [if_pos rfl] at H; exact H
           clear H
           have H := H1
           clear H1
           have H' := am H
           clear H
           go_wp2
           go_roundg kj10
           case measure => have := HK1.out; have := HJ10.out; omega
           case rel => exact ⟨(wrap64 (x10_1 + 1)), (sq), H', ⟨by have := HK1.out; have := HJ10.out; omega⟩, ⟨rq HO_9.out⟩, ⟨bq⟩⟩
          ·replace c15 := Bool.eq_false_iff.mpr c15
           subst c15
           have H1 : (some false) = some r := by rw [if_neg (show ¬ (false = true) by decide)] at H; exact H
           clear H
           have H := H1
           clear H1
           obtain rfl := Option.some.inj H
           go_wp2
           go_ret
           exact ⟨Y0, bq⟩
         ·replace c14 := Bool.eq_false_iff.mpr c14
          subst c14
          have H1 : (if ((rd_T59 l0 (rd t257 x10_1)).f1) = 8 then (impl_blockOk.j2 kj10 l0 a3 t257 x10_1 (rd t257 x10_1) ((rd_T59 l0 (rd t257 x10_1)).f1) ((rd_T59 l0 (rd t257 x10_1)).f1) (((rd_T59 l0 (rd t257 x10_1)).f1) == 8)) else (if ((rd_T59 l0 (rd t257 x10_1)).f1) = 9 then (impl_blockOk.j2 kj10 l0 a3 t257 x10_1 (rd t257 x10_1) ((rd_T59 l0 (rd t257 x10_1)).f1) ((rd_T59 l0 (rd t257 x10_1)).f1) (((rd_T59 l0 (rd t257 x10_1)).f1) == 9)) else (impl_blockOk.j2 kj10 l0 a3 t257 x10_1 (rd t257 x10_1) ((rd_T59 l0 (rd t257 x10_1)).f1) ((rd_T59 l0 (rd t257 x10_1)).f1) (((rd_T59 l0 (rd t257 x10_1)).f1) == 10)))) = some r := by rw [if_neg (show ¬ (false = true) by decide)] at H; exact H
          clear H
          have H := H1
          clear H1
          have HC16 := am H
          clear H
          go_upto_if 41 with (fail)
          go_cut [41] (fun v41 wc => ∃ (kq : Nat) (x41_15 : Bool), v41 = .bool x41_15 ∧ Aside0 (impl_blockOk.j2 kq l0 a3 t257 x10_1 (rd t257 x10_1) ((rd_T59 l0 (rd t257 x10_1)).f1) ((rd_T59 l0 (rd t257 x10_1)).f1) x41_15 = some r) ∧ Aside0 (kq ≤ kj10) ∧ Aside0 (Kd.R (Kd.int .i64) 3 wc w.heap.size (fun _ => True) (.slice (some ad260) t257.length co12) t257) ∧ Aside0 (Below w.heap.size w wc))
          case first =>
           have H := HC16.out
           clear HC16
           by_cases c17 : ((rd_T59 l0 (rd t257 x10_1)).f1) = 8
           ·rw [if_pos c17] at H
            have c17b0 : (((rd_T59 l0 (rd t257 x10_1)).f1) == 8) = true := beq_iff_eq.mpr c17
            have c17b1 : (((rd_T59 l0 (rd t257 x10_1)).f1) != 8) = false := bne_eq_false_iff_eq.mpr c17
            clear c17
            (first | rw [c17b0] | (simp only [i64_w, i32_w]; rw [c17b0]) | skip)
            have H' := am H
            clear H
            go_wp2
            go_meet
            case rel => exact ⟨_, ((((rd_T59 l0 (rd t257 x10_1)).f1) == 8)), (sq), H', ⟨by have := HK1.out; have := HJ10.out; first | omega | exact Nat.le_refl _⟩, ⟨rq HO_9.out⟩, ⟨bq⟩⟩
           ·rw [if_neg c17] at H
            have c17b0 : (((rd_T59 l0 (rd t257 x10_1)).f1) == 8) = false := beq_eq_false_iff_ne.mpr c17
            have c17b1 : (((rd_T59 l0 (rd t257 x10_1)).f1) != 8) = true := bne_iff_ne.mpr c17
            (first | rw [c17b0] | (simp only [i64_w, i32_w]; rw [c17b0]) | skip)
            by_cases c18 : ((rd_T59 l0 (rd t257 x10_1)).f1) = 9
            ·rw [if_pos c18] at H
             have c18b0 : (((rd_T59 l0 (rd t257 x10_1)).f1) == 9) = true := beq_iff_eq.mpr c18
             have c18b1 : (((rd_T59 l0 (rd t257 x10_1)).f1) != 9) = false := bne_eq_false_iff_eq.mpr c18
             clear c18
             have H' := am H
             clear H
             go_wp2
             go_meet
             case rel => exact ⟨_, ((((rd_T59 l0 (rd t257 x10_1)).f1) == 9)), (sq), H', ⟨by have := HK1.out; have := HJ10.out; first | omega | exact Nat.le_refl _⟩, ⟨rq HO_9.out⟩, ⟨bq⟩⟩
            ·rw [if_neg c18] at H
             have c18b0 : (((rd_T59 l0 (rd t257 x10_1)).f1) == 9) = false := beq_eq_false_iff_ne.mpr c18
             have c18b1 : (((rd_T59 l0 (rd t257 x10_1)).f1) != 9) = true := bne_iff_ne.mpr c18
             have H' := am H
             clear H
             go_wp2
             go_meet
             case rel => exact ⟨_, ((((rd_T59 l0 (rd t257 x10_1)).f1) == 10)), (sq), H', ⟨by have := HK1.out; have := HJ10.out; first | omega | exact Nat.le_refl _⟩, ⟨rq HO_9.out⟩, ⟨bq⟩⟩
          case rest =>
           clear HC16
           try clear c1
           try clear p2
           try clear q2
           try clear hx2
           try clear c4
           try clear p6
           try clear c7
           try clear c7b0
           try clear c8
           try clear c8b0
           try clear c9
           try clear c9b0
           try clear c10
           try clear c10b0
           try clear c13
           try clear c13b0
           try clear c13b1
           try clear c14
           try clear c15
           try clear c17
           try clear c17b0
           try clear c17b1
           try clear c18
           try clear c18b0
           try clear c18b1
           try clear hx260_0
           try clear hx261_0
           try clear hx261_1
           try clear hx261_2
           try clear hx261_3
           try clear p2
           try clear p260
           try clear p261
           try clear q2
           try clear q260
           try clear q261
           obtain ⟨kq, x41_15, rfl, HA, HJ15, HO_9, HB⟩ := hcut
           cases kq with
           | zero => exact absurd HA.out (by simp [impl_blockOk.j2])
           | succ kj15 =>
            have H := HA.out
            clear HA
            simp only [impl_blockOk.j2] at H
            by_cases c19 : x41_15 = true
            ·subst c19
             have H1 : (some false) = some r := by rw [if_pos rfl] at H; exact H
             clear H
             have H := H1
             clear H1
             obtain rfl := Option.some.inj H
             go_wp2
             go_ret
             exact ⟨Y0, bq⟩
            ·replace c19 := Bool.eq_false_iff.mpr c19
             subst c19
             have H1 : (if ((rd_T59 l0 (rd t257 x10_1)).f1) = 7 then ((impl_tryFrom.f kj15 l0 (rd t257 x10_1)).bind fun t262 => ((impl_tryOk.f l0 t262).bind fun t265 => (if t265 = true then (impl_blockOk.l1 kj15 l0 a3 t257 x10_1 t262 t262 (t262.length : Int) 0) else (some false)))) else (if ((rd_T59 l0 (rd t257 x10_1)).f1) = 11 then (impl_blockOk.j4 kj15 l0 a3 t257 x10_1 (rd t257 x10_1) ((rd_T59 l0 (rd t257 x10_1)).f1) (((rd_T59 l0 (rd t257 x10_1)).f1) == 11)) else (impl_blockOk.j4 kj15 l0 a3 t257 x10_1 (rd t257 x10_1) ((rd_T59 l0 (rd t257 x10_1)).f1) (((rd_T59 l0 (rd t257 x10_1)).f1) == 12)))) = some r := by rw [if_neg (show ¬ (false = true) by decide)] at H; exact H
             clear H
             have H := H1
             clear H1
             by_cases c20 : ((rd_T59 l0 (rd t257 x10_1)).f1) = 7
             ·rw [if_pos c20] at H
              have c20b0 : (((rd_T59 l0 (rd t257 x10_1)).f1) == 7) = true := beq_iff_eq.mpr c20
              have c20b1 : (((rd_T59 l0 (rd t257 x10_1)).f1) != 7) = false := bne_eq_false_iff_eq.mpr c20
              clear c20
              replace H := Option.bind_eq_some_iff.mp H
              obtain ⟨t262, A210, H⟩ := H
              replace H : ((impl_tryOk.f l0 t262).bind fun t265 => (if t265 = true then (impl_blockOk.l1 kj15 l0 a3 t257 x10_1 t262 t262 (t262.length : Int) 0) else (some false))) = some r := H
              have A21 := am A210
              clear A210
              replace H := Option.bind_eq_some_iff.mp H
              obtain ⟨t265, A220, H⟩ := H
              replace H : (if t265 = true then (impl_blockOk.l1 kj15 l0 a3 t257 x10_1 t262 t262 (t262.length : Int) 0) else (some false)) = some r := H
              have A22 := am A220
              clear A220
              by_cases c23 : t265 = true
              ·subst c23
               have H1 : (impl_blockOk.l1 kj15 l0 a3 t257 x10_1 t262 t262 (t262.length : Int) 0) = some r := by rw [if_pos rfl] at H; exact H
               clear H
               have H := H1
               clear H1
               have H' := am H
               clear H
               go_wp2_with (first | ((with_reducible refine gate_callee (f := 35) rfl ?_); refine gL (some 49) Try.func35 #[.slice (some ad261) l0.length c0, .int .i64 (rd t257 x10_1)] ?_; (with_reducible refine (impl_tryFrom.calls kj15 _ _ l0 (rd t257 x10_1) t262 _ ?side1 ?side2 A21.out).mono ?_); (case side1 => exact cq (Kd.C_below HR0.out HB.out)); (case side2 => exact HC0.out); rintro e w24 ⟨v263, rfl, ho0, hb⟩; refine ⟨_, rfl, ?_⟩; have HO264 := am (Kd.R_lower (Kd.R_new' ho0 (Kd.R_lt (rq HO_9.out))) (below_size (bq))); replace HO_9 := am (Kd.R_elder' (rq HO_9.out) (Kd.R_base ho0) hb); replace HB := am (below_step (bq) hb); (try clear hb); (try clear hb2); (try clear hk); (try clear hi); (try clear ho0); obtain ⟨Ao25, co25, eo25⟩ := Kd.R_slice HO264.out; subst eo25) | ((with_reducible refine gate_callee (f := 77) rfl ?_); refine gL (some 52) Try.func77 #[.slice (some ad261) l0.length c0, .slice Ao25 t262.length co25] ?_; (with_reducible refine (impl_tryOk.calls _ _ l0 _ _ t262 true _ ?side1 ?side2 ?side3 ?side4 A22.out).mono ?_); (case side1 => exact cq (Kd.C_below HR0.out HB.out)); (case side2 => exact HC0.out); (case side3 => exact cq (Kd.R_reads' HO264.out).2.2); (case side4 => exact (Kd.R_reads' HO264.out).2.1); rintro e w' ⟨rfl, ⟨nd, rfl⟩⟩; refine ⟨_, rfl, ?_⟩))
               go_loopg [56] kj15 (fun kq v56 w' => ∃ (x56_4 : Int), v56 = .int .i64 x56_4 ∧ Aside0 (impl_blockOk.l1 kq l0 a3 t257 x10_1 t262 t262 (t262.length : Int) x56_4 = some r) ∧ Aside0 (kq ≤ kj15) ∧ Aside0 (Kd.R (Kd.int .i64) 3 w' w.heap.size (fun k_ => some k_ ≠ ((.slice Ao25 t262.length co25) : Value).ownBlock ∧ some k_ ≠ ((.slice Ao25 t262.length co25) : Value).ownBlock) (.slice (some ad260) t257.length co12) t257) ∧ Aside0 (Kd.R (Kd.int .i64) 3 w' w.heap.size (fun k_ => some k_ ≠ ((.slice (some ad260) t257.length co12) : Value).ownBlock) (.slice Ao25 t262.length co25) t262) ∧ Aside0 (Kd.R (Kd.int .i64) 3 w' w.heap.size (fun k_ => some k_ ≠ ((.slice (some ad260) t257.length co12) : Value).ownBlock) (.slice Ao25 t262.length co25) t262) ∧ Aside0 (Below w.heap.size w w'))
               case atStart => exact ⟨(0), (sq), H', ⟨Nat.le_refl _⟩, ⟨by (with_reducible repeat (first | apply Kd.R_alloc | apply Kd.R_drewN | apply Kd.R_drew)); exact Kd.R_mono HO_9.out (fun _ hk => ⟨hk.2, hk.2⟩)⟩, ⟨by (with_reducible repeat (first | apply Kd.R_alloc | apply Kd.R_drewN | apply Kd.R_drew)); exact Kd.R_mono HO264.out (fun _ hk => hk.2)⟩, ⟨by (with_reducible repeat (first | apply Kd.R_alloc | apply Kd.R_drewN | apply Kd.R_drew)); exact Kd.R_mono HO264.out (fun _ hk => hk.2)⟩, ⟨bq⟩⟩
               case round =>
                clear H'
                try clear c1
                try clear c2
                try clear p2
                try clear q2
                try clear hx2
                try clear c3
                try clear c4
                try clear p6
                try clear c7
                try clear c7b0
                try clear c8
                try clear c8b0
                try clear c9
                try clear c9b0
                try clear c10
                try clear c10b0
                try clear c13
                try clear c13b0
                try clear c13b1
                try clear c14
                try clear c15
                try clear c17
                try clear c17b0
                try clear c17b1
                try clear c18
                try clear c18b0
                try clear c18b1
                try clear c19
                try clear c20
                try clear c20b0
                try clear c20b1
                try clear c23
                try clear hx260_0
                try clear hx261_0
                try clear hx261_1
                try clear hx261_2
                try clear hx261_3
                try clear p2
                try clear p260
                try clear p261
                try clear p6
                try clear q2
                try clear q260
                try clear q261
                obtain ⟨x56_4, rfl, HA, HK4, HO_9, HO_13, HO_54, HB⟩ := hrel
                cases gk with
                | zero => exact absurd HA.out (by simp [impl_blockOk.l1])
                | succ k4 =>
                 have H := HA.out
                 clear HA
                 simp only [impl_blockOk.l1] at H
                 by_cases c26 : x56_4 < (t262.length : Int)
                 ·rw [if_pos c26] at H
                  have c26b0 : decide (x56_4 < (t262.length : Int)) = true := decide_eq_true c26
                  clear c26
                  by_cases c27 : 0 ≤ x56_4
                  ·rw [if_pos c27] at H
                   have c27b0 : decide (0 ≤ x56_4) = true := decide_eq_true c27
                   clear c27
                   by_cases c28 : x56_4 < (t262.length : Int)
                   ·rw [if_pos c28] at H
                    have c28b0 : decide (x56_4 < (t262.length : Int)) = true := decide_eq_true c28
                    clear c28
                    replace H := Option.bind_eq_some_iff.mp H
                    obtain ⟨t267, A290, H⟩ := H
                    replace H : ((impl_blockOk.f k4 l0 (wrap64 ((rd t262 x56_4) + 1)) t267 a3).bind fun t268 => (if t268 = true then (impl_blockOk.l1 k4 l0 a3 t257 x10_1 t262 t262 (t262.length : Int) (wrap64 (x56_4 + 1))) else (some false))) = some r := H
                    have A29 := am A290
                    clear A290
                    replace H := Option.bind_eq_some_iff.mp H
                    obtain ⟨t268, A300, H⟩ := H
                    replace H : (if t268 = true then (impl_blockOk.l1 k4 l0 a3 t257 x10_1 t262 t262 (t262.length : Int) (wrap64 (x56_4 + 1))) else (some false)) = some r := H
                    have A30 := am A300
                    clear A300
                    by_cases c31 : t268 = true
                    ·subst c31
                     have H1 : (impl_blockOk.l1 k4 l0 a3 t257 x10_1 t262 t262 (t262.length : Int) (wrap64 (x56_4 + 1))) = some r := by rw [if_pos rfl] at H; exact H
                     clear H
                     have H := H1
                     clear H1
                     have H' := am H
                     clear H
                     have p266 : 0 ≤ (x56_4 : Int) := of_decide_eq_true (uq)
                     have q266 : x56_4 < (t262.length : Int) := of_decide_eq_true (uq)
                     obtain ⟨ad266, e266, hx266_0⟩ := Kd.at_int (Kd.R_reads' HO_54.out).2.2 x56_4 p266 q266
                     cases e266
                     replace p266 := eq_true p266
                     replace q266 := eq_true q266
                     go_wp2_with (first | ((with_reducible refine gate_callee (f := 34) rfl ?_); refine gL (some 65) Try.func34 #[.slice (some ad261) l0.length c0, .int .i64 (rd t262 x56_4)] ?_; (with_reducible refine (impl_endOf.calls k4 _ _ l0 (rd t262 x56_4) t267 _ ?side1 ?side2 A29.out).mono ?_); (case side1 => exact cq (Kd.C_below HR0.out HB.out)); (case side2 => exact HC0.out); rintro e w' ⟨rfl, ⟨nd, rfl⟩⟩; refine ⟨_, rfl, ?_⟩) | ((with_reducible refine gate_callee (f := 47) rfl ?_); refine gL (some 67) Try.func47 #[.slice (some ad261) l0.length c0, .int .i64 (wrap64 ((rd t262 x56_4) + 1)), .int .i64 t267, .bool a3] ?_; (with_reducible refine (ih k4 (by have := HK1.out; have := HJ10.out; have := HJ15.out; have := HK4.out; omega) _ _ l0 (wrap64 ((rd t262 x56_4) + 1)) t267 a3 true _ ?side1 ?side2 A30.out).mono ?_); (case side1 => exact cq (Kd.C_below HR0.out (bq))); (case side2 => exact HC0.out); rintro e w32 ⟨rfl, hb⟩; refine ⟨_, rfl, ?_⟩; replace HO_9 := am (Kd.R_below (rq HO_9.out) hb); replace HO_13 := am (Kd.R_below (rq HO_13.out) hb); replace HO_54 := am (Kd.R_below (rq HO_54.out) hb); replace HB := am (below_step (bq) hb); (try clear hb); (try clear hb2); (try clear hk); (try clear hi)))
                     go_roundg k4
                     case measure => have := HK1.out; have := HJ10.out; have := HJ15.out; have := HK4.out; omega
                     case rel => exact ⟨(wrap64 (x56_4 + 1)), (sq), H', ⟨by have := HK1.out; have := HJ10.out; have := HJ15.out; have := HK4.out; omega⟩, ⟨rq HO_9.out⟩, ⟨rq HO_13.out⟩, ⟨rq HO_54.out⟩, ⟨bq⟩⟩
                    ·replace c31 := Bool.eq_false_iff.mpr c31
                     subst c31
                     have H1 : (some false) = some r := by rw [if_neg (show ¬ (false = true) by decide)] at H; exact H
                     clear H
                     have H := H1
                     clear H1
                     obtain rfl := Option.some.inj H
                     have p266 : 0 ≤ (x56_4 : Int) := of_decide_eq_true (uq)
                     have q266 : x56_4 < (t262.length : Int) := of_decide_eq_true (uq)
                     obtain ⟨ad266, e266, hx266_0⟩ := Kd.at_int (Kd.R_reads' HO_54.out).2.2 x56_4 p266 q266
                     cases e266
                     replace p266 := eq_true p266
                     replace q266 := eq_true q266
                     go_wp2_with (first | ((with_reducible refine gate_callee (f := 34) rfl ?_); refine gL (some 65) Try.func34 #[.slice (some ad261) l0.length c0, .int .i64 (rd t262 x56_4)] ?_; (with_reducible refine (impl_endOf.calls k4 _ _ l0 (rd t262 x56_4) t267 _ ?side1 ?side2 A29.out).mono ?_); (case side1 => exact cq (Kd.C_below HR0.out HB.out)); (case side2 => exact HC0.out); rintro e w' ⟨rfl, ⟨nd, rfl⟩⟩; refine ⟨_, rfl, ?_⟩) | ((with_reducible refine gate_callee (f := 47) rfl ?_); refine gL (some 67) Try.func47 #[.slice (some ad261) l0.length c0, .int .i64 (wrap64 ((rd t262 x56_4) + 1)), .int .i64 t267, .bool a3] ?_; (with_reducible refine (ih k4 (by have := HK1.out; have := HJ10.out; have := HJ15.out; have := HK4.out; omega) _ _ l0 (wrap64 ((rd t262 x56_4) + 1)) t267 a3 false _ ?side1 ?side2 A30.out).mono ?_); (case side1 => exact cq (Kd.C_below HR0.out (bq))); (case side2 => exact HC0.out); rintro e w33 ⟨rfl, hb⟩; refine ⟨_, rfl, ?_⟩; replace HO_9 := am (Kd.R_below (rq HO_9.out) hb); replace HO_13 := am (Kd.R_below (rq HO_13.out) hb); replace HO_54 := am (Kd.R_below (rq HO_54.out) hb); replace HB := am (below_step (bq) hb); (try clear hb); (try clear hb2); (try clear hk); (try clear hi)))
                     go_ret
                     exact ⟨Y0, bq⟩
                   ·rw [if_neg c28] at H
                    exact absurd H (by simp)
                  ·rw [if_neg c27] at H
                   exact absurd H (by simp)
                 ·rw [if_neg c26] at H
                  have c26b0 : decide (x56_4 < (t262.length : Int)) = false := decide_eq_false c26
                  clear c26
                  have H' := am H
                  clear H
                  go_wp2
                  go_roundg k4
                  case measure => have := HK1.out; have := HJ10.out; have := HJ15.out; have := HK4.out; omega
                  case rel => exact ⟨(wrap64 ((wrap64 (x10_1 + (wrap64 ((t262.length : Int) - 1)))) + 1)), (sq), H', ⟨by have := HK1.out; have := HJ10.out; have := HJ15.out; have := HK4.out; omega⟩, ⟨by (with_reducible repeat (first | apply Kd.R_alloc | apply Kd.R_drewN | apply Kd.R_drew)); exact Kd.R_mono HO_9.out (fun _ hk => trivial)⟩, ⟨bq⟩⟩
              ·replace c23 := Bool.eq_false_iff.mpr c23
               subst c23
               have H1 : (some false) = some r := by rw [if_neg (show ¬ (false = true) by decide)] at H; exact H
               clear H
               have H := H1
               clear H1
               obtain rfl := Option.some.inj H
               go_wp2_with (first | ((with_reducible refine gate_callee (f := 35) rfl ?_); refine gL (some 49) Try.func35 #[.slice (some ad261) l0.length c0, .int .i64 (rd t257 x10_1)] ?_; (with_reducible refine (impl_tryFrom.calls kj15 _ _ l0 (rd t257 x10_1) t262 _ ?side1 ?side2 A21.out).mono ?_); (case side1 => exact cq (Kd.C_below HR0.out HB.out)); (case side2 => exact HC0.out); rintro e w34 ⟨v263, rfl, ho0, hb⟩; refine ⟨_, rfl, ?_⟩; have HO264 := am (Kd.R_lower (Kd.R_new' ho0 (Kd.R_lt (rq HO_9.out))) (below_size (bq))); replace HO_9 := am (Kd.R_elder' (rq HO_9.out) (Kd.R_base ho0) hb); replace HB := am (below_step (bq) hb); (try clear hb); (try clear hb2); (try clear hk); (try clear hi); (try clear ho0); obtain ⟨Ao35, co35, eo35⟩ := Kd.R_slice HO264.out; subst eo35) | ((with_reducible refine gate_callee (f := 77) rfl ?_); refine gL (some 52) Try.func77 #[.slice (some ad261) l0.length c0, .slice Ao35 t262.length co35] ?_; (with_reducible refine (impl_tryOk.calls _ _ l0 _ _ t262 false _ ?side1 ?side2 ?side3 ?side4 A22.out).mono ?_); (case side1 => exact cq (Kd.C_below HR0.out HB.out)); (case side2 => exact HC0.out); (case side3 => exact cq (Kd.R_reads' HO264.out).2.2); (case side4 => exact (Kd.R_reads' HO264.out).2.1); rintro e w' ⟨rfl, ⟨nd, rfl⟩⟩; refine ⟨_, rfl, ?_⟩))
               go_ret
               exact ⟨Y0, bq⟩
             ·rw [if_neg c20] at H
              have c20b0 : (((rd_T59 l0 (rd t257 x10_1)).f1) == 7) = false := beq_eq_false_iff_ne.mpr c20
              have c20b1 : (((rd_T59 l0 (rd t257 x10_1)).f1) != 7) = true := bne_iff_ne.mpr c20
              have HC36 := am H
              clear H
              go_upto_if 75 with (fail)
              go_cut [75] (fun v75 wc => ∃ (kq : Nat) (x75_35 : Bool), v75 = .bool x75_35 ∧ Aside0 (impl_blockOk.j4 kq l0 a3 t257 x10_1 (rd t257 x10_1) ((rd_T59 l0 (rd t257 x10_1)).f1) x75_35 = some r) ∧ Aside0 (kq ≤ kj15) ∧ Aside0 (Kd.R (Kd.int .i64) 3 wc w.heap.size (fun _ => True) (.slice (some ad260) t257.length co12) t257) ∧ Aside0 (Below w.heap.size w wc))
              case first =>
               have H := HC36.out
               clear HC36
               by_cases c37 : ((rd_T59 l0 (rd t257 x10_1)).f1) = 11
               ·rw [if_pos c37] at H
                have c37b0 : (((rd_T59 l0 (rd t257 x10_1)).f1) == 11) = true := beq_iff_eq.mpr c37
                have c37b1 : (((rd_T59 l0 (rd t257 x10_1)).f1) != 11) = false := bne_eq_false_iff_eq.mpr c37
                clear c37
                (first | rw [c37b0] | (simp only [i64_w, i32_w]; rw [c37b0]) | skip)
                have H' := am H
                clear H
                go_wp2
                go_meet
                case rel => exact ⟨_, ((((rd_T59 l0 (rd t257 x10_1)).f1) == 11)), (sq), H', ⟨by have := HK1.out; have := HJ10.out; have := HJ15.out; first | omega | exact Nat.le_refl _⟩, ⟨rq HO_9.out⟩, ⟨bq⟩⟩
               ·rw [if_neg c37] at H
                have c37b0 : (((rd_T59 l0 (rd t257 x10_1)).f1) == 11) = false := beq_eq_false_iff_ne.mpr c37
                have c37b1 : (((rd_T59 l0 (rd t257 x10_1)).f1) != 11) = true := bne_iff_ne.mpr c37
                (first | rw [c37b0] | (simp only [i64_w, i32_w]; rw [c37b0]) | skip)
                have H' := am H
                clear H
                go_wp2
                go_meet
                case rel => exact ⟨_, ((((rd_T59 l0 (rd t257 x10_1)).f1) == 12)), (sq), H', ⟨by have := HK1.out; have := HJ10.out; have := HJ15.out; first | omega | exact Nat.le_refl _⟩, ⟨rq HO_9.out⟩, ⟨bq⟩⟩
              case rest =>
               clear HC36
               try clear c1
               try clear c2
               try clear p2
               try clear q2
               try clear hx2
               try clear c3
               try clear c4
               try clear p6
               try clear c7
               try clear c7b0
               try clear c8
               try clear c8b0
               try clear c9
               try clear c9b0
               try clear c10
               try clear c10b0
               try clear c13
               try clear c13b0
               try clear c13b1
               try clear c14
               try clear c15
               try clear c17
               try clear c17b0
               try clear c17b1
               try clear c18
               try clear c18b0
               try clear c18b1
               try clear c19
               try clear c20
               try clear c20b0
               try clear c20b1
               try clear c23
               try clear c26
               try clear c26b0
               try clear p26
               try clear q26
               try clear hx26
               try clear c27
               try clear c27b0
               try clear c28
               try clear c28b0
               try clear c31
               try clear c34
               try clear c35
               try clear c37
               try clear c37b0
               try clear c37b1
               try clear hx260_0
               try clear hx261_0
               try clear hx261_1
               try clear hx261_2
               try clear hx261_3
               try clear hx266_0
               try clear p2
               try clear p260
               try clear p261
               try clear p266
               try clear p6
               try clear q2
               try clear q260
               try clear q261
               try clear q266
               obtain ⟨kq, x75_35, rfl, HA, HJ35, HO_9, HB⟩ := hcut
               cases kq with
               | zero => exact absurd HA.out (by simp [impl_blockOk.j4])
               | succ kj35 =>
                have H := HA.out
                clear HA
                simp only [impl_blockOk.j4] at H
                by_cases c38 : x75_35 = true
                ·subst c38
                 have H1 : ((impl_endOf.f kj35 l0 (rd t257 x10_1)).bind fun t269 => (if a3 = true then ((impl_blockOk.f kj35 l0 (wrap64 ((rd t257 x10_1) + 1)) t269 true).bind fun t270 => (if t270 = true then (impl_blockOk.l0 kj35 l0 a3 t257 (wrap64 (x10_1 + 1))) else (some false))) else ((impl_blockOk.f kj35 l0 (wrap64 ((rd t257 x10_1) + 1)) t269 (((rd_T59 l0 (rd t257 x10_1)).f1) == 12)).bind fun t271 => (if t271 = true then (impl_blockOk.l0 kj35 l0 a3 t257 (wrap64 (x10_1 + 1))) else (some false))))) = some r := by rw [if_pos rfl] at H; exact H
                 clear H
                 have H := H1
                 clear H1
                 replace H := Option.bind_eq_some_iff.mp H
                 obtain ⟨t269, A390, H⟩ := H
                 replace H : (if a3 = true then ((impl_blockOk.f kj35 l0 (wrap64 ((rd t257 x10_1) + 1)) t269 true).bind fun t270 => (if t270 = true then (impl_blockOk.l0 kj35 l0 a3 t257 (wrap64 (x10_1 + 1))) else (some false))) else ((impl_blockOk.f kj35 l0 (wrap64 ((rd t257 x10_1) + 1)) t269 (((rd_T59 l0 (rd t257 x10_1)).f1) == 12)).bind fun t271 => (if t271 = true then (impl_blockOk.l0 kj35 l0 a3 t257 (wrap64 (x10_1 + 1))) else (some false)))) = some r := H
                 have A39 := am A390
                 clear A390
                 by_cases c40 : a3 = true
                 ·subst c40
                  have H1 : ((impl_blockOk.f kj35 l0 (wrap64 ((rd t257 x10_1) + 1)) t269 true).bind fun t270 => (if t270 = true then (impl_blockOk.l0 kj35 l0 true t257 (wrap64 (x10_1 + 1))) else (some false))) = some r := by rw [if_pos rfl] at H; exact H
                  clear H
                  have H := H1
                  clear H1
                  replace H := Option.bind_eq_some_iff.mp H
                  obtain ⟨t270, A410, H⟩ := H
                  replace H : (if t270 = true then (impl_blockOk.l0 kj35 l0 true t257 (wrap64 (x10_1 + 1))) else (some false)) = some r := H
                  have A41 := am A410
                  clear A410
                  by_cases c42 : t270 = true
                  ·subst c42
                   have H1 : (impl_blockOk.l0 kj35 l0 true t257 (wrap64 (x10_1 + 1))) = some r := by rw [if_pos rfl] at H; exact H
                   clear H
                   have H := H1
                   clear H1
                   have H' := am H
                   clear H
                   go_wp2_with (first | ((with_reducible refine gate_callee (f := 34) rfl ?_); refine gL (some 83) Try.func34 #[.slice (some ad261) l0.length c0, .int .i64 (rd t257 x10_1)] ?_; (with_reducible refine (impl_endOf.calls kj35 _ _ l0 (rd t257 x10_1) t269 _ ?side1 ?side2 A39.out).mono ?_); (case side1 => exact cq (Kd.C_below HR0.out HB.out)); (case side2 => exact HC0.out); rintro e w' ⟨rfl, ⟨nd, rfl⟩⟩; refine ⟨_, rfl, ?_⟩) | ((with_reducible refine gate_callee (f := 47) rfl ?_); refine gL (some 89) Try.func47 #[.slice (some ad261) l0.length c0, .int .i64 (wrap64 ((rd t257 x10_1) + 1)), .int .i64 t269, .bool true] ?_; (with_reducible refine (ih kj35 (by have := HK1.out; have := HJ10.out; have := HJ15.out; have := HJ35.out; omega) _ _ l0 (wrap64 ((rd t257 x10_1) + 1)) t269 true true _ ?side1 ?side2 A41.out).mono ?_); (case side1 => exact cq (Kd.C_below HR0.out (bq))); (case side2 => exact HC0.out); rintro e w43 ⟨rfl, hb⟩; refine ⟨_, rfl, ?_⟩; replace HO_9 := am (Kd.R_below (rq HO_9.out) hb); replace HB := am (below_step (bq) hb); (try clear hb); (try clear hb2); (try clear hk); (try clear hi)))
                   go_roundg kj35
                   case measure => have := HK1.out; have := HJ10.out; have := HJ15.out; have := HJ35.out; omega
                   case rel => exact ⟨(wrap64 (x10_1 + 1)), (sq), H', ⟨by have := HK1.out; have := HJ10.out; have := HJ15.out; have := HJ35.out; omega⟩, ⟨rq HO_9.out⟩, ⟨bq⟩⟩
                  ·replace c42 := Bool.eq_false_iff.mpr c42
                   subst c42
                   have H1 : (some false) = some r := by rw [if_neg (show ¬ (false = true) by decide)] at H; exact H
                   clear H
                   have H := H1
                   clear H1
                   obtain rfl := Option.some.inj H
                   go_wp2_with (first | ((with_reducible refine gate_callee (f := 34) rfl ?_); refine gL (some 83) Try.func34 #[.slice (some ad261) l0.length c0, .int .i64 (rd t257 x10_1)] ?_; (with_reducible refine (impl_endOf.calls kj35 _ _ l0 (rd t257 x10_1) t269 _ ?side1 ?side2 A39.out).mono ?_); (case side1 => exact cq (Kd.C_below HR0.out HB.out)); (case side2 => exact HC0.out); rintro e w' ⟨rfl, ⟨nd, rfl⟩⟩; refine ⟨_, rfl, ?_⟩) | ((with_reducible refine gate_callee (f := 47) rfl ?_); refine gL (some 89) Try.func47 #[.slice (some ad261) l0.length c0, .int .i64 (wrap64 ((rd t257 x10_1) + 1)), .int .i64 t269, .bool true] ?_; (with_reducible refine (ih kj35 (by have := HK1.out; have := HJ10.out; have := HJ15.out; have := HJ35.out; omega) _ _ l0 (wrap64 ((rd t257 x10_1) + 1)) t269 true false _ ?side1 ?side2 A41.out).mono ?_); (case side1 => exact cq (Kd.C_below HR0.out (bq))); (case side2 => exact HC0.out); rintro e w44 ⟨rfl, hb⟩; refine ⟨_, rfl, ?_⟩; replace HO_9 := am (Kd.R_below (rq HO_9.out) hb); replace HB := am (below_step (bq) hb); (try clear hb); (try clear hb2); (try clear hk); (try clear hi)))
                   go_ret
                   exact ⟨Y0, bq⟩
                 ·replace c40 := Bool.eq_false_iff.mpr c40
                  subst c40
                  have H1 : ((impl_blockOk.f kj35 l0 (wrap64 ((rd t257 x10_1) + 1)) t269 (((rd_T59 l0 (rd t257 x10_1)).f1) == 12)).bind fun t271 => (if t271 = true then (impl_blockOk.l0 kj35 l0 false t257 (wrap64 (x10_1 + 1))) else (some false))) = some r := by rw [if_neg (show ¬ (false = true) by decide)] at H; exact H
                  clear H
                  have H := H1
                  clear H1
                  replace H := Option.bind_eq_some_iff.mp H
                  obtain ⟨t271, A450, H⟩ := H
                  replace H : (if t271 = true then (impl_blockOk.l0 kj35 l0 false t257 (wrap64 (x10_1 + 1))) else (some false)) = some r := H
                  have A45 := am A450
                  clear A450
                  by_cases c46 : t271 = true
                  ·subst c46
                   have H1 : (impl_blockOk.l0 kj35 l0 false t257 (wrap64 (x10_1 + 1))) = some r := by rw [if_pos rfl] at H; exact H
                   clear H
                   have H := H1
                   clear H1
                   have H' := am H
                   clear H
                   go_wp2_with (first | ((with_reducible refine gate_callee (f := 34) rfl ?_); refine gL (some 83) Try.func34 #[.slice (some ad261) l0.length c0, .int .i64 (rd t257 x10_1)] ?_; (with_reducible refine (impl_endOf.calls kj35 _ _ l0 (rd t257 x10_1) t269 _ ?side1 ?side2 A39.out).mono ?_); (case side1 => exact cq (Kd.C_below HR0.out HB.out)); (case side2 => exact HC0.out); rintro e w' ⟨rfl, ⟨nd, rfl⟩⟩; refine ⟨_, rfl, ?_⟩) | ((with_reducible refine gate_callee (f := 47) rfl ?_); refine gL (some 89) Try.func47 #[.slice (some ad261) l0.length c0, .int .i64 (wrap64 ((rd t257 x10_1) + 1)), .int .i64 t269, .bool (((rd_T59 l0 (rd t257 x10_1)).f1) == 12)] ?_; (with_reducible refine (ih kj35 (by have := HK1.out; have := HJ10.out; have := HJ15.out; have := HJ35.out; omega) _ _ l0 (wrap64 ((rd t257 x10_1) + 1)) t269 (((rd_T59 l0 (rd t257 x10_1)).f1) == 12) true _ ?side1 ?side2 A45.out).mono ?_); (case side1 => exact cq (Kd.C_below HR0.out (bq))); (case side2 => exact HC0.out); rintro e w47 ⟨rfl, hb⟩; refine ⟨_, rfl, ?_⟩; replace HO_9 := am (Kd.R_below (rq HO_9.out) hb); replace HB := am (below_step (bq) hb); (try clear hb); (try clear hb2); (try clear hk); (try clear hi)))
                   go_roundg kj35
                   case measure => have := HK1.out; have := HJ10.out; have := HJ15.out; have := HJ35.out; omega
                   case rel => exact ⟨(wrap64 (x10_1 + 1)), (sq), H', ⟨by have := HK1.out; have := HJ10.out; have := HJ15.out; have := HJ35.out; omega⟩, ⟨rq HO_9.out⟩, ⟨bq⟩⟩
                  ·replace c46 := Bool.eq_false_iff.mpr c46
                   subst c46
                   have H1 : (some false) = some r := by rw [if_neg (show ¬ (false = true) by decide)] at H; exact H
                   clear H
                   have H := H1
                   clear H1
                   obtain rfl := Option.some.inj H
                   go_wp2_with (first | ((with_reducible refine gate_callee (f := 34) rfl ?_); refine gL (some 83) Try.func34 #[.slice (some ad261) l0.length c0, .int .i64 (rd t257 x10_1)] ?_; (with_reducible refine (impl_endOf.calls kj35 _ _ l0 (rd t257 x10_1) t269 _ ?side1 ?side2 A39.out).mono ?_); (case side1 => exact cq (Kd.C_below HR0.out HB.out)); (case side2 => exact HC0.out); rintro e w' ⟨rfl, ⟨nd, rfl⟩⟩; refine ⟨_, rfl, ?_⟩) | ((with_reducible refine gate_callee (f := 47) rfl ?_); refine gL (some 89) Try.func47 #[.slice (some ad261) l0.length c0, .int .i64 (wrap64 ((rd t257 x10_1) + 1)), .int .i64 t269, .bool (((rd_T59 l0 (rd t257 x10_1)).f1) == 12)] ?_; (with_reducible refine (ih kj35 (by have := HK1.out; have := HJ10.out; have := HJ15.out; have := HJ35.out; omega) _ _ l0 (wrap64 ((rd t257 x10_1) + 1)) t269 (((rd_T59 l0 (rd t257 x10_1)).f1) == 12) false _ ?side1 ?side2 A45.out).mono ?_); (case side1 => exact cq (Kd.C_below HR0.out (bq))); (case side2 => exact HC0.out); rintro e w48 ⟨rfl, hb⟩; refine ⟨_, rfl, ?_⟩; replace HO_9 := am (Kd.R_below (rq HO_9.out) hb); replace HB := am (below_step (bq) hb); (try clear hb); (try clear hb2); (try clear hk); (try clear hi)))
                   go_ret
                   exact ⟨Y0, bq⟩
                ·replace c38 := Bool.eq_false_iff.mpr c38
                 subst c38
                 have H1 : (impl_blockOk.l0 kj35 l0 a3 t257 (wrap64 (x10_1 + 1))) = some r := by rw [if_neg (show ¬ (false = true) by decide)] at H; exact H
                 clear H
                 have H := H1
                 clear H1
                 have H' := am H
                 clear H
                 go_wp2
                 go_roundg kj35
                 case measure => have := HK1.out; have := HJ10.out; have := HJ15.out; have := HJ35.out; omega
                 case rel => exact ⟨(wrap64 (x10_1 + 1)), (sq), H', ⟨by have := HK1.out; have := HJ10.out; have := HJ15.out; have := HJ35.out; omega⟩, ⟨rq HO_9.out⟩, ⟨bq⟩⟩
      ·rw [if_neg c10] at H
       exact absurd H (by simp)
     ·rw [if_neg c9] at H
      exact absurd H (by simp)
    ·rw [if_neg c8] at H
     exact absurd H (by simp)
   ·rw [if_neg c7] at H
    have c7b0 : decide (x10_1 < (t257.length : Int)) = false := decide_eq_false c7
    clear c7
    obtain rfl := Option.some.inj H
    obtain ⟨Ao49, co49, eo49⟩ := Kd.R_slice HO_9.out
    subst eo49
    go_wp2
    go_ret
    exact ⟨Y0, bq⟩
def inB (a lo hi : Int) : Bool := decide (lo ≤ a) && decide (a ≤ hi)
theorem impl_within_eq (a lo hi : Int) : impl_within.f a lo hi = some (inB a lo hi) := by
 unfold impl_within.f inB
 by_cases h : a ≥ lo
 ·rw [if_pos h]; simp [show lo ≤ a from h]
 ·rw [if_neg h]; simp [show ¬ lo ≤ a from h]
theorem impl_Line_opens_eq (a b c d : Int) : impl_Line_opens.f a b c d = some (inB b 7 12) := by
 unfold impl_Line_opens.f
 rw [impl_within_eq]; rfl
def VF (W : World) (B1 BL BT : Nat) (a x : S59) (tv : Value) : Prop :=
 W.heap[B1]? = some (.cells #[.int .i64 a.f0, .int .i64 a.f1, .int .i64 a.f2, .int .i64 a.f3] 59 (0, 0)) ∧ W.heap[BL]? = some (.cells #[.int .i64 x.f0, .int .i64 x.f1, .int .i64 x.f2, .int .i64 x.f3] 59 (0, 0)) ∧ W.cell? ⟨BT, 0, none⟩ = some tv
theorem VF.below {W W' : World} {B1 BL BT : Nat} {a x : S59} {tv : Value} (h : VF W B1 BL BT a x tv) (hb : Below W.heap.size W W') : VF W' B1 BL BT a x tv :=
 ⟨(hb.block _ (blk_lt h.1)).trans h.1, (hb.block _ (blk_lt h.2.1)).trans h.2.1, pw_cell_below hb h.2.2⟩
theorem VF.cells {W : World} {B1 BL BT : Nat} {a x : S59} {tv : Value} (h : VF W B1 BL BT a x tv) :
  W.cell? ⟨B1, 0, none⟩ = some (.int .i64 a.f0) ∧ W.cell? ⟨B1, 1, none⟩ = some (.int .i64 a.f1) ∧ W.cell? ⟨B1, 2, none⟩ = some (.int .i64 a.f2) ∧ W.cell? ⟨B1, 3, none⟩ = some (.int .i64 a.f3) ∧
  W.cell? ⟨BL, 0, none⟩ = some (.int .i64 x.f0) ∧ W.cell? ⟨BL, 1, none⟩ = some (.int .i64 x.f1) ∧ W.cell? ⟨BL, 2, none⟩ = some (.int .i64 x.f2) ∧ W.cell? ⟨BL, 3, none⟩ = some (.int .i64 x.f3) ∧ W.cell? ⟨BT, 0, none⟩ = some tv :=
 ⟨(blk_cell h.1 0).trans rfl, (blk_cell h.1 1).trans rfl, (blk_cell h.1 2).trans rfl, (blk_cell h.1 3).trans rfl, (blk_cell h.2.1 0).trans rfl, (blk_cell h.2.1 1).trans rfl, (blk_cell h.2.1 2).trans rfl, (blk_cell h.2.1 3).trans rfl, h.2.2⟩
theorem VF.frozen {W : World} {B1 BL BT : Nat} {a x : S59} {tv : Value} (h : VF W B1 BL BT a x tv) : W.frozen? ⟨B1, 0, none⟩ = false ∧ W.frozen? ⟨B1, 1, none⟩ = false ∧ W.frozen? ⟨B1, 2, none⟩ = false ∧ W.frozen? ⟨B1, 3, none⟩ = false :=
 ⟨blk_frozen h.1 0, blk_frozen h.1 1, blk_frozen h.1 2, blk_frozen h.1 3⟩
theorem four_stored {W : World} {B T : Nat} {a b c d a' b' c' d' : Value} (h : W.heap[B]? = some (.cells #[a, b, c, d] T (0, 0))) :
  ((((W.setCell ⟨B, 0, none⟩ a').setCell ⟨B, 1, none⟩ b').setCell ⟨B, 2, none⟩ c').setCell ⟨B, 3, none⟩ d').heap[B]? = some (.cells #[a', b', c', d'] T (0, 0)) := by
 have h0 := blk_set h 0 a'
 have h1 := blk_set h0 1 b'
 have h2 := blk_set h1 2 c'
 have h3 := blk_set h2 3 d'
 simpa using h3
theorem four_below {W w : World} {base B : Nat} {a' b' c' d' : Value} (h : Below base w W) (hB : base ≤ B) :
  Below base w ((((W.setCell ⟨B, 0, none⟩ a').setCell ⟨B, 1, none⟩ b').setCell ⟨B, 2, none⟩ c').setCell ⟨B, 3, none⟩ d') :=
 (((h.setCell (p := ⟨B, 0, none⟩) hB _).setCell (p := ⟨B, 1, none⟩) hB _).setCell (p := ⟨B, 2, none⟩) hB _).setCell (p := ⟨B, 3, none⟩) hB _
theorem four_far {W : World} {B C : Nat} {a' b' c' d' v : Value} (h : W.cell? ⟨C, 0, none⟩ = some v) (hne : B ≠ C) :
  ((((W.setCell ⟨B, 0, none⟩ a').setCell ⟨B, 1, none⟩ b').setCell ⟨B, 2, none⟩ c').setCell ⟨B, 3, none⟩ d').cell? ⟨C, 0, none⟩ = some v := by
 have e : ∀ j, (⟨B, j, none⟩ : Addr) ≠ ⟨C, 0, none⟩ := fun j hj => hne (by injection hj)
 rw [World.cell?_setCell_other (h := e 3), World.cell?_setCell_other (h := e 2), World.cell?_setCell_other (h := e 1), World.cell?_setCell_other (h := e 0)]
 exact h
def impl_ValidProgram.bad (x last : S59) : Bool := !inB x.f0 0 5 || (inB last.f1 7 12 && decide (x.f0 ≠ last.f0 + 1)) || (!inB last.f1 7 12 && decide (last.f0 < x.f0))
def impl_ValidProgram.go (k : Nat) (t : List S98) : List S59 → S59 → Option (Option S59)
 | [], last => some (some last)
 | x :: xs, last => (impl_Line_argued.f k x.f0 x.f1 x.f2 x.f3 t).bind fun v => if v = false then some none else if impl_ValidProgram.bad x last then some none else impl_ValidProgram.go k t xs x
def impl_ValidProgram.f (k : Nat) (l0_0 : List S98) (l1 : List S59) : Option Bool := (impl_ValidTree.f k l0_0).bind fun v =>
 if v = false then some false else if 24 < l1.length then some false else
 (impl_ValidProgram.go k l0_0 l1 ⟨-1, 7, 0, 0⟩).bind fun q => match q with
 | none => some false
 | some last => if l1.length = 0 then impl_blockOk.f k l1 0 (l1.length : Int) false else if inB last.f1 7 12 then some false else impl_blockOk.f k l1 0 (l1.length : Int) false
theorem impl_ValidProgram.step {k : Nat} {t : List S98} {p : List S59} {n : Nat} {last : S59} {q : Option S59} (hn : n < p.length) (h : impl_ValidProgram.go k t (p.drop n) last = some q) :
  ∃ v, impl_Line_argued.f k p[n].f0 p[n].f1 p[n].f2 p[n].f3 t = some v ∧ (if v = false then some none else if impl_ValidProgram.bad p[n] last then some none else impl_ValidProgram.go k t (p.drop (n + 1)) p[n]) = some q := by
 rw [List.drop_eq_getElem_cons hn] at h
 exact Option.bind_eq_some_iff.mp h
set_option maxHeartbeats 8000000 in
set_option maxRecDepth 100000 in
theorem impl_ValidProgram.calls (k : Nat) (A0_0 : Option Addr) (c0_0 : Nat) (l0_0 : List S98) (A1 : Option Addr) (c1 : Nat) (l1 : List S59) (r : Bool) (w : World) (hr0_0 : Kd.C k98 w A0_0 l0_0.length l0_0) (hc0_0 : l0_0.length ≤ c0_0) (hr1 : Kd.C k59 w A1 l1.length l1) (hc1 : l1.length ≤ c1) (h : impl_ValidProgram.f k l0_0 l1 = some r) :
  Calls Try.prog 22 #[.agg #[.slice A0_0 l0_0.length c0_0], .slice A1 l1.length c1] w fun e w' => e = .returned (.bool r) ∧ Below w.heap.size w w' := by
 have hu32 := Try.underlying32
 have hu59 := Try.underlying59
 have hm : l1.length ≤ 9223372036854775807 := Kd.C_max hr1
 obtain ⟨v, hv, h⟩ := Option.bind_eq_some_iff.mp h
 have HV := am (fun W (hb : Below w.heap.size w W) => impl_ValidTree.calls k A0_0 c0_0 l0_0 v W (Kd.C_below hr0_0 hb) hc0_0 hv)
 have HR0 := am hr0_0
 have HR1 := am hr1
 clear hv hr0_0 hr1
 cases v with
 | false =>
  obtain rfl : false = r := by simpa using h
  clear h
  go_enter Try.func22, Try.ntmps22
  go_wp2_with (go_at_call 43; refine (HV.out _ ((Below.refl _ _).alloc (Nat.le_refl _) _)).mono ?_; rintro e w' ⟨rfl, hb2⟩)
  go_ret
  exact ⟨rfl, ((Below.refl _ _).alloc (Nat.le_refl _) _).trans (hb2.mono (by simp))⟩
 | true =>
  simp only [Bool.true_eq_false, if_false] at h
  by_cases h24 : 24 < l1.length
  ·rw [if_pos h24] at h
   obtain rfl : false = r := by simpa using h
   have h24b : decide (24 < l1.length) = true := decide_eq_true h24
   clear h
   go_enter Try.func22, Try.ntmps22
   go_wp2_with (go_at_call 43; refine (HV.out _ ((Below.refl _ _).alloc (Nat.le_refl _) _)).mono ?_; rintro e w' ⟨rfl, hb2⟩)
   go_ret
   exact ⟨rfl, ((Below.refl _ _).alloc (Nat.le_refl _) _).trans (hb2.mono (by simp))⟩
  ·rw [if_neg h24] at h
   have h24b : decide (24 < l1.length) = false := decide_eq_false h24
   obtain ⟨q, hq, h⟩ := Option.bind_eq_some_iff.mp h
   have H0 := am hq
   have HZ := am h
   clear h hq
   go_enter Try.func22, Try.ntmps22
   go_wp2_with (go_at_call 43; refine (HV.out _ ((Below.refl _ _).alloc (Nat.le_refl _) _)).mono ?_; rintro e w2 ⟨rfl, hb2⟩; have HB2 := am (((Below.refl w.heap.size w).alloc (Nat.le_refl _) (.cells #[.slice A0_0 l0_0.length c0_0] 32)).trans (hb2.mono (by simp))); have hs2 : w.heap.size < w2.heap.size := Nat.lt_of_lt_of_le (by simp) hb2.size; have ht2 := pw_cell_below hb2 (show (w.alloc (.cells #[.slice A0_0 l0_0.length c0_0] 32)).cell? ⟨w.heap.size, 0, none⟩ = some (.slice A0_0 l0_0.length c0_0) by simp); clear hb2)
   obtain ⟨B1, hB1⟩ : ∃ B1, B1 = w2.heap.size := ⟨_, rfl⟩
   have HBK := am (show (w2.alloc (.cells #[.int .i64 (-1), .int .i64 7, .int .i64 0, .int .i64 0] 59)).heap[B1]? = some (.cells #[.int .i64 (-1), .int .i64 7, .int .i64 0, .int .i64 0] 59 (0, 0)) by rw [hB1]; exact heap_alloc_new w2 _)
   have hBl := am (HB2.out.alloc (Nat.le_of_lt hs2) (.cells #[.int .i64 (-1), .int .i64 7, .int .i64 0, .int .i64 0] 59))
   have hT := am (show (w2.alloc (.cells #[.int .i64 (-1), .int .i64 7, .int .i64 0, .int .i64 0] 59)).cell? ⟨w.heap.size, 0, none⟩ = some (.slice A0_0 l0_0.length c0_0) by simp [World.cell?_alloc_old, Nat.ne_of_lt hs2, ht2])
   rw [← hB1]
   have hlt1 : w.heap.size < B1 := by omega
   clear hB1
   generalize w2.alloc (.cells #[.int .i64 (-1), .int .i64 7, .int .i64 0, .int .i64 0] 59) = w3 at HBK hBl hT ⊢
   clear ht2 hs2 HB2 HV
   go_loopw [19] (fun i19 wr => ∃ (n : Nat) (last : S59), i19 = .int .i64 n ∧ n ≤ l1.length ∧ -1 ≤ last.f0 ∧ last.f0 ≤ 5 ∧ Aside0 (impl_ValidProgram.go k l0_0 (l1.drop n) last = some q) ∧ Aside0 (wr.heap[B1]? = some (.cells #[.int .i64 last.f0, .int .i64 last.f1, .int .i64 last.f2, .int .i64 last.f3] 59 (0, 0))) ∧ Aside0 (wr.cell? ⟨w.heap.size, 0, none⟩ = some (.slice A0_0 l0_0.length c0_0)) ∧ Aside0 (Below w.heap.size w wr)) (fun i19 _ => l1.length - (intOf i19).toNat)
   case atStart => exact ⟨0, ⟨-1, 7, 0, 0⟩, rfl, Nat.zero_le _, by simp, by simp, H0, HBK, hT, hBl⟩
   case round =>
    clear H0 HBK hT hBl
    obtain ⟨n, last, rfl, hn, hlo, hhi, HA, HBK, HT, HB⟩ := hrel
    have ht2 := HT.out
    have g0 : wr.cell? ⟨B1, 0, none⟩ = some (.int .i64 last.f0) := (blk_cell HBK.out 0).trans rfl
    have g1 : wr.cell? ⟨B1, 1, none⟩ = some (.int .i64 last.f1) := (blk_cell HBK.out 1).trans rfl
    have g2 : wr.cell? ⟨B1, 2, none⟩ = some (.int .i64 last.f2) := (blk_cell HBK.out 2).trans rfl
    have g3 : wr.cell? ⟨B1, 3, none⟩ = some (.int .i64 last.f3) := (blk_cell HBK.out 3).trans rfl
    have hBw : B1 < wr.heap.size := blk_lt HBK.out
    have hne : B1 ≠ wr.heap.size := by omega
    have hne2 : w.heap.size ≠ wr.heap.size := by omega
    have hTw : w.heap.size < wr.heap.size := by omega
    by_cases hlt : n < l1.length
    ·obtain ⟨v, hv, hs⟩ := impl_ValidProgram.step hlt HA.out
     clear HA
     obtain ⟨ad, rfl, hx0, hx1, hx2, hx3⟩ := at_T59 HR1.out (n : Int) (by omega) (by omega)
     have hrd : rd_T59 l1 (n : Int) = l1[n] := by simp [rd_T59, List.getD_eq_getElem?_getD, hlt]
     rw [hrd, Int.toNat_natCast] at hx0 hx1 hx2 hx3
     clear hrd
     generalize l1[n] = x at hv hs hx0 hx1 hx2 hx3
     have hb := HB.out
     replace hx0 := pw_cell_below hb hx0
     replace hx1 := pw_cell_below hb hx1
     replace hx2 := pw_cell_below hb hx2
     replace hx3 := pw_cell_below hb hx3
     clear hb
     have HG := am (fun W (hb : Below w.heap.size w W) => impl_Line_argued.calls k x.f0 x.f1 x.f2 x.f3 A0_0 c0_0 l0_0 v W (Kd.C_below HR0.out hb) hc0_0 hv)
     clear hv
     cases v with
     | false =>
      obtain rfl : none = q := by simpa using hs
      obtain rfl : false = r := by simpa using HZ.out
      clear hs HZ
      go_wp2_with (go_at_call 44; refine (HG.out _ (HB.out.alloc HB.out.size _)).mono ?_; rintro e w4 ⟨rfl, hb4⟩)
      go_ret
      exact ⟨rfl, below_then (HB.out.alloc HB.out.size _) (by simp; have := HB.out.size; omega) hb4⟩
     | true =>
      simp only [Bool.true_eq_false, if_false] at hs
      have V0 := am (show VF (wr.alloc (.cells #[.int .i64 x.f0, .int .i64 x.f1, .int .i64 x.f2, .int .i64 x.f3] 59)) B1 wr.heap.size w.heap.size last x (.slice A0_0 l0_0.length c0_0) from ⟨(heap_alloc_old wr _ hBw).trans HBK.out, heap_alloc_new wr _, by rw [World.cell?_alloc_old _ _ _ hne2]; exact HT.out⟩)
      have HO := am (fun W => impl_Line_opens.calls last.f0 last.f1 last.f2 last.f3 _ W (impl_Line_opens_eq _ _ _ _))
      clear g0 g1 g2 g3
      have tok1 : True := trivial
      have HS := am hs
      clear hs
      cases h5 : inB x.f0 0 5 with
      | false =>
       have H5 := am h5
       obtain rfl : none = q := by simpa [impl_ValidProgram.bad, h5] using HS.out
       obtain rfl : false = r := by simpa using HZ.out
       clear HS HZ h5
       go_wp2_with (first | (go_at_call 44; refine (HG.out _ (HB.out.alloc HB.out.size _)).mono ?_; rintro e w4 ⟨rfl, hb4⟩; have V4 := am (VF.below V0.out hb4); have HB4 := am (below_then (HB.out.alloc HB.out.size _) (by simp; have := HB.out.size; omega) hb4); clear hb4; obtain ⟨g0, g1, g2, g3, e0, e1, e2, e3, ht4⟩ := VF.cells V4.out) | (go_at_call 45; refine (impl_within.calls _ _ _ _ _ (impl_within_eq _ _ _)).mono ?_; rintro e w5 ⟨rfl, ⟨nd, rfl⟩⟩; rw [H5.out]))
       go_ret
       exact ⟨rfl, pw_below_drewN HB4.out _⟩
      | true =>
       have H5 := am h5
       have hx5 : 0 ≤ x.f0 ∧ x.f0 ≤ 5 := by simpa [inB] using h5
       cases ho : inB last.f1 7 12 with
       | true =>
        rw [ho] at HO
        by_cases hd : x.f0 = last.f0 + 1
        ·have hb1 : (x.f0 != last.f0 + 1) = false := by simpa using hd
         have hbad : impl_ValidProgram.bad x last = false := by unfold impl_ValidProgram.bad; rw [h5, ho]; simp [hd]
         have HN := am (by have := HS.out; rw [hbad] at this; simpa using this : impl_ValidProgram.go k l0_0 (l1.drop (n + 1)) x = some q)
         clear hbad
         clear HS hd h5 ho
         go_wp2_with (first | (go_at_call 44; refine (HG.out _ (HB.out.alloc HB.out.size _)).mono ?_; rintro e w4 ⟨rfl, hb4⟩; have V4 := am (VF.below V0.out hb4); have HB4 := am (below_then (HB.out.alloc HB.out.size _) (by simp; have := HB.out.size; omega) hb4); clear hb4; obtain ⟨g0, g1, g2, g3, e0, e1, e2, e3, ht4⟩ := VF.cells V4.out) | (go_at_call 45; refine (impl_within.calls _ _ _ _ _ (impl_within_eq _ _ _)).mono ?_; rintro e w5 ⟨rfl, ⟨nd, rfl⟩⟩; rw [H5.out]) | (go_at_call 46; have tk1 := tok1; clear tok1; refine (HO.out _).mono ?_; rintro e w6 ⟨rfl, hb6⟩; have V6 := am (VF.below (W := World.drewN _ _) V4.out hb6); have HB6 := am (below_then (w1 := World.drewN _ _) (show Below w.heap.size w (World.drewN _ _) from ⟨HB4.out.os, HB4.out.tape, HB4.out.output, HB4.out.size, HB4.out.block⟩) HB4.out.size hb6); clear hb6 g0 g1 g2 g3 e0 e1 e2 e3 ht4; obtain ⟨g0, g1, g2, g3, e0, e1, e2, e3, ht4⟩ := VF.cells V6.out) | (go_at_call 46; refine (HO.out _).mono ?_; rintro e w7 ⟨rfl, hb7⟩; have V7 := am (VF.below V6.out hb7); have HB7 := am (below_then HB6.out HB6.out.size hb7); clear hb7 g0 g1 g2 g3 e0 e1 e2 e3 ht4; obtain ⟨g0, g1, g2, g3, e0, e1, e2, e3, ht4⟩ := VF.cells V7.out; obtain ⟨f0, f1, f2, f3⟩ := VF.frozen V7.out))
         go_roundw
         case rel => exact ⟨n + 1, x, by go_num, hlt, by omega, by omega, HN, ⟨four_stored V7.out.1⟩, ⟨four_far V7.out.2.2 (by omega)⟩, ⟨four_below HB7.out (by omega)⟩⟩
         case measure => simp [intOf]; omega
        ·have hb1 : (x.f0 != last.f0 + 1) = true := by simpa using hd
         obtain rfl : none = q := by simpa [impl_ValidProgram.bad, h5, ho, hd] using HS.out
         obtain rfl : false = r := by simpa using HZ.out
         clear HS HZ hd h5 ho
         go_wp2_with (first | (go_at_call 44; refine (HG.out _ (HB.out.alloc HB.out.size _)).mono ?_; rintro e w4 ⟨rfl, hb4⟩; have V4 := am (VF.below V0.out hb4); have HB4 := am (below_then (HB.out.alloc HB.out.size _) (by simp; have := HB.out.size; omega) hb4); clear hb4; obtain ⟨g0, g1, g2, g3, e0, e1, e2, e3, ht4⟩ := VF.cells V4.out) | (go_at_call 45; refine (impl_within.calls _ _ _ _ _ (impl_within_eq _ _ _)).mono ?_; rintro e w5 ⟨rfl, ⟨nd, rfl⟩⟩; rw [H5.out]) | (go_at_call 46; have tk1 := tok1; clear tok1; refine (HO.out _).mono ?_; rintro e w6 ⟨rfl, hb6⟩; have V6 := am (VF.below (W := World.drewN _ _) V4.out hb6); have HB6 := am (below_then (w1 := World.drewN _ _) (show Below w.heap.size w (World.drewN _ _) from ⟨HB4.out.os, HB4.out.tape, HB4.out.output, HB4.out.size, HB4.out.block⟩) HB4.out.size hb6); clear hb6 g0 g1 g2 g3 e0 e1 e2 e3 ht4; obtain ⟨g0, g1, g2, g3, e0, e1, e2, e3, ht4⟩ := VF.cells V6.out))
         go_ret
         exact ⟨rfl, HB6.out⟩
       | false =>
        rw [ho] at HO
        by_cases hd : last.f0 < x.f0
        ·have hb1 : decide (last.f0 < x.f0) = true := decide_eq_true hd
         have hbad : impl_ValidProgram.bad x last = true := by unfold impl_ValidProgram.bad; rw [h5, ho]; simp [hd]
         obtain rfl : none = q := by have := HS.out; rw [hbad] at this; simpa using this
         obtain rfl : false = r := by simpa using HZ.out
         clear HS HZ hd h5 ho hbad
         go_wp2_with (first | (go_at_call 44; refine (HG.out _ (HB.out.alloc HB.out.size _)).mono ?_; rintro e w4 ⟨rfl, hb4⟩; have V4 := am (VF.below V0.out hb4); have HB4 := am (below_then (HB.out.alloc HB.out.size _) (by simp; have := HB.out.size; omega) hb4); clear hb4; obtain ⟨g0, g1, g2, g3, e0, e1, e2, e3, ht4⟩ := VF.cells V4.out) | (go_at_call 45; refine (impl_within.calls _ _ _ _ _ (impl_within_eq _ _ _)).mono ?_; rintro e w5 ⟨rfl, ⟨nd, rfl⟩⟩; rw [H5.out]) | (go_at_call 46; have tk1 := tok1; clear tok1; refine (HO.out _).mono ?_; rintro e w6 ⟨rfl, hb6⟩; have V6 := am (VF.below (W := World.drewN _ _) V4.out hb6); have HB6 := am (below_then (w1 := World.drewN _ _) (show Below w.heap.size w (World.drewN _ _) from ⟨HB4.out.os, HB4.out.tape, HB4.out.output, HB4.out.size, HB4.out.block⟩) HB4.out.size hb6); clear hb6 g0 g1 g2 g3 e0 e1 e2 e3 ht4; obtain ⟨g0, g1, g2, g3, e0, e1, e2, e3, ht4⟩ := VF.cells V6.out) | (go_at_call 46; refine (HO.out _).mono ?_; rintro e w7 ⟨rfl, hb7⟩; have V7 := am (VF.below V6.out hb7); have HB7 := am (below_then HB6.out HB6.out.size hb7); clear hb7 g0 g1 g2 g3 e0 e1 e2 e3 ht4; obtain ⟨g0, g1, g2, g3, e0, e1, e2, e3, ht4⟩ := VF.cells V7.out; obtain ⟨f0, f1, f2, f3⟩ := VF.frozen V7.out))
         go_ret
         exact ⟨rfl, HB7.out⟩
        ·have hb1 : decide (last.f0 < x.f0) = false := decide_eq_false hd
         have hbad : impl_ValidProgram.bad x last = false := by unfold impl_ValidProgram.bad; rw [h5, ho]; simp [hd]
         have HN := am (by have := HS.out; rw [hbad] at this; simpa using this : impl_ValidProgram.go k l0_0 (l1.drop (n + 1)) x = some q)
         clear hbad HS hd h5 ho
         go_wp2_with (first | (go_at_call 44; refine (HG.out _ (HB.out.alloc HB.out.size _)).mono ?_; rintro e w4 ⟨rfl, hb4⟩; have V4 := am (VF.below V0.out hb4); have HB4 := am (below_then (HB.out.alloc HB.out.size _) (by simp; have := HB.out.size; omega) hb4); clear hb4; obtain ⟨g0, g1, g2, g3, e0, e1, e2, e3, ht4⟩ := VF.cells V4.out) | (go_at_call 45; refine (impl_within.calls _ _ _ _ _ (impl_within_eq _ _ _)).mono ?_; rintro e w5 ⟨rfl, ⟨nd, rfl⟩⟩; rw [H5.out]) | (go_at_call 46; have tk1 := tok1; clear tok1; refine (HO.out _).mono ?_; rintro e w6 ⟨rfl, hb6⟩; have V6 := am (VF.below (W := World.drewN _ _) V4.out hb6); have HB6 := am (below_then (w1 := World.drewN _ _) (show Below w.heap.size w (World.drewN _ _) from ⟨HB4.out.os, HB4.out.tape, HB4.out.output, HB4.out.size, HB4.out.block⟩) HB4.out.size hb6); clear hb6 g0 g1 g2 g3 e0 e1 e2 e3 ht4; obtain ⟨g0, g1, g2, g3, e0, e1, e2, e3, ht4⟩ := VF.cells V6.out) | (go_at_call 46; refine (HO.out _).mono ?_; rintro e w7 ⟨rfl, hb7⟩; have V7 := am (VF.below V6.out hb7); have HB7 := am (below_then HB6.out HB6.out.size hb7); clear hb7 g0 g1 g2 g3 e0 e1 e2 e3 ht4; obtain ⟨g0, g1, g2, g3, e0, e1, e2, e3, ht4⟩ := VF.cells V7.out; obtain ⟨f0, f1, f2, f3⟩ := VF.frozen V7.out))
         go_roundw
         case rel => exact ⟨n + 1, x, by go_num, hlt, by omega, by omega, HN, ⟨four_stored V7.out.1⟩, ⟨four_far V7.out.2.2 (by omega)⟩, ⟨four_below HB7.out (by omega)⟩⟩
         case measure => simp [intOf]; omega
    ·have hgo := HA.out
     rw [List.drop_eq_nil_of_le (by omega)] at hgo
     obtain rfl : some last = q := by simpa [impl_ValidProgram.go] using hgo
     clear hgo HA
     have HY := am HZ.out
     clear HZ
     by_cases h0 : l1.length = 0
     ·have hy := HY.out
      simp only [if_pos h0] at hy
      have HQ := am (fun W (hb : Below w.heap.size w W) => impl_blockOk.calls k A1 c1 l1 0 (l1.length : Int) false r W (Kd.C_below HR1.out hb) hc1 hy)
      have HBX := HB.out
      clear hy HY
      have hz1 : ((l1.length : Int) == 0) = true := by simp [h0]
      have hz2 : (l1.length == 0) = true := by simp [h0]
      clear h0
      go_wp2_with (first | (go_at_call 47; refine (HQ.out _ HBX).mono ?_; rintro e w9 ⟨rfl, hb9⟩; have HB9 := am (below_then HBX HBX.size hb9)))
      go_ret
      exact ⟨rfl, HB9.out⟩
     ·have hz1 : ((l1.length : Int) == 0) = false := by simpa using h0
      have hz2 : (l1.length == 0) = false := by simpa using h0
      have HO := am (fun W => impl_Line_opens.calls last.f0 last.f1 last.f2 last.f3 _ W (impl_Line_opens_eq _ _ _ _))
      have hy := HY.out
      simp only [if_neg h0] at hy
      clear HY
      cases ho : inB last.f1 7 12 with
      | true =>
       rw [ho] at HO hy
       obtain rfl : false = r := by simpa using hy
       clear hy ho h0
       go_wp2_with (first | (go_at_call 46; refine (HO.out _).mono ?_; rintro e w6 ⟨rfl, hb6⟩; have HBX := below_then HB.out HB.out.size hb6; clear hb6))
       go_ret
       exact ⟨rfl, HBX⟩
      | false =>
       rw [ho] at HO hy
       simp only [Bool.false_eq_true, if_false] at hy
       have HQ := am (fun W (hb : Below w.heap.size w W) => impl_blockOk.calls k A1 c1 l1 0 (l1.length : Int) false r W (Kd.C_below HR1.out hb) hc1 hy)
       clear hy ho h0
       go_wp2_with (first | (go_at_call 46; refine (HO.out _).mono ?_; rintro e w6 ⟨rfl, hb6⟩; have HBX := below_then HB.out HB.out.size hb6; clear hb6) | (go_at_call 47; refine (HQ.out _ HBX).mono ?_; rintro e w9 ⟨rfl, hb9⟩; have HB9 := am (below_then HBX HBX.size hb9)))
       go_ret
       exact ⟨rfl, HB9.out⟩
def impl_Range_36.f (l0 : List (S48)) : Option ((List (S48))) := some (l0)
set_option maxHeartbeats 8000000 in
set_option maxRecDepth 100000 in
theorem impl_Range_36.calls (P0_ : Nat → Prop) (u9000_ : Value) (l0 : List (S48)) (r : List (S48)) (w0 w : World) (hB : Below w0.heap.size w0 w) (ho0 : Kd.R k48 48 w w0.heap.size P0_ u9000_ l0) (h : impl_Range_36.f l0 = some r) :
  Calls Try.prog 36 #[u9000_] w fun e w' => ∃ v0_ : Value, e = .returned (v0_) ∧ Kd.R k48 48 w' w0.heap.size (fun k_ => (P0_ k_ ∨ w.heap.size ≤ k_)) v0_ r ∧ Below w0.heap.size w0 w' ∧ Kept w w' (fun k_ => P0_ k_) := by
 have HO0 := am (show Kd.R k48 48 w w0.heap.size (fun k_ => (P0_ k_ ∨ w.heap.size ≤ k_)) u9000_ l0 from Kd.R_mono ho0 (fun k_ hk => (.inl hk)))
 have HK := am (Kept.refl w (fun k_ => P0_ k_))
 have HW0 := am hB.size
 have HB := am hB
 clear hB
 have H : (some (l0)) = some r := h
 clear h
 obtain ⟨y272, hy272⟩ : ∃ y_ : List (S48), y_ = (l0) := ⟨_, rfl⟩
 replace H : (some y272) = some r := by first | (rw [hy272]; with_reducible exact H) | (have H2_ := (Option.bind_some _ _).symm.trans H; rw [hy272]; with_reducible exact H2_) | (have H2_ := (Option.bind_some _ _).symm.trans H; with_reducible exact H2_) | with_reducible exact H | (rw [hy272]; exact H) | exact H
 have Ny272 := am hy272
 clear hy272
 obtain rfl := Option.some.inj H
 obtain ⟨Ao2, co2, eo2⟩ := Kd.R_slice HO0.out
 subst eo2
 obtain ⟨i03, hi03, _, hsz3, _⟩ := info_parts info48
 have hy3 : y272.length = l0.length := (by rw [Ny272.out])
 have hcut3 := cut_clip (P := Try.prog) 28 48 Try.underlying28 hi03 Ao2 _ co2 _ (Kd.R_reads' HO0.out).2.1 hy3
 have hr3 := Kd.R_clip HO0.out Ny272.out
 clear hy3 hi03 hsz3 HO0
 have HO274 := am hr3
 clear hr3
 go_enter Try.func36, Try.ntmps36
 go_wp2
 go_ret
 exact ⟨_, Y0, rq HO274.out, bq, Y4⟩
section
open Go.Shelf
attribute [local go_sem] Oper.semAt_some
theorem xwrL {x : Int} (h : -9223372036854775808 ≤ x ∧ x ≤ 9223372036854775807) : wrap64 x = x := by unfold wrap64; omega
def uptoL {α : Type} (f : Nat → α) (k : Nat) : List α := (List.range k).map f
theorem uptoL_succ {α : Type} (f : Nat → α) (k : Nat) : uptoL f (k + 1) = uptoL f k ++ [f k] := by simp [uptoL, List.range_succ]
theorem uptoL_length {α : Type} (f : Nat → α) (k : Nat) : (uptoL f k).length = k := by simp [uptoL]
def BackKeepsL (n₀ Bs : Nat) (sv : Value) (W W' : World) : Prop := Below n₀ W W' ∧ (Boxed W Bs 34 sv → Boxed W' Bs 34 sv)
theorem backKeepsL_t {n₀ Bs : Nat} {sv : Value} {A B C : World} (h : BackKeepsL n₀ Bs sv A B) (k : BackKeepsL n₀ Bs sv B C) : BackKeepsL n₀ Bs sv A C := ⟨h.1.trans k.1, fun x => k.2 (h.2 x)⟩
theorem backKeepsL_b {n₀ Bs : Nat} {sv : Value} {w : World} (hn : n₀ ≤ w.heap.size) (W : World) (l : Nat) (o o' : Obj) (hl : w.heap.size ≤ l) (h : W.heap[l]? = some o) (hc : o.isCells = false) (hw : o.isWalk = false) : BackKeepsL n₀ Bs sv W (W.putObj l o') :=
 ⟨belowK_b hn W l o o' hl h hc hw, fun hb => by
  refine hb.kept (grownBy_putObj' W l o') ?_
  intro e
  obtain rfl : Bs = l := by simpa using e
  rw [show W.heap[Bs]? = _ from hb] at h
  cases h
  cases hc⟩
set_option maxRecDepth 100000 in
set_option maxHeartbeats 4000000 in
theorem backL1_in {α : Type} (F : Fence) (n : Nat) (h8 : F.fn 68) (hro : F.round = none) (hn : 1 ≤ n) (l Bs : Nat) (A : Option Addr) (cap : Nat) (xs : List S59) (w₀ : World) (hr : Kd.C k59 w₀ A xs.length xs)
  (encs : α → Array Value) (g : Nat → α) (hg : ∀ j : Nat, j < xs.length → encs (g j) = #[.int .i64 ((xs.length : Int) - 1 - j), .agg #[.int .i64 (rd_T59 xs ((xs.length : Int) - 1 - j)).f0, .int .i64 (rd_T59 xs ((xs.length : Int) - 1 - j)).f1, .int .i64 (rd_T59 xs ((xs.length : Int) - 1 - j)).f2, .int .i64 (rd_T59 xs ((xs.length : Int) - 1 - j)).f3]])
  (J Jx : List α → World → Prop)
  (hY : ∀ pre x W, J pre W → pre.length < xs.length → YieldAt F (n - 1) Try.prog l (encs x) W fun e W' =>
   (e = .returned (.bool true) ∧ J (pre ++ [x]) W' ∧ BackKeepsL w₀.heap.size Bs (.slice A xs.length cap) W W') ∨ (e = .returned (.bool false) ∧ Jx (pre ++ [x]) W'))
  (W : World) (hW : Below w₀.heap.size w₀ W) (hBs : Boxed W Bs 34 (.slice A xs.length cap)) (h0 : J [] W) :
  CallsIn F n Try.prog 68 #[.func (.yield l) #[] #[], .pointer (some ⟨Bs, 0, none⟩)] W fun e W' => (∃ v, e = .returned v) ∧
   ((∃ ys, ys = uptoL g xs.length ∧ J ys W') ∨ (∃ pre, (∃ k, k ≤ xs.length ∧ pre = uptoL g k) ∧ Jx pre W')) := by
 have hm : xs.length ≤ 9223372036854775807 := Kd.C_max hr
 have hu := Try.underlying59
 have cBs := hBs.cell
 refine callsIn_of_wp Try.func68 rfl h8 ?_ hro
 simp only [Try.ntmps68, List.size_toArray, List.length_cons, List.length_nil, Nat.reduceAdd, Nat.reduceSub, Array.replicate_succ, Array.replicate_zero, List.push_toArray, List.append_toArray, List.nil_append, List.cons_append]
 gi_wp2
 have hwr : wrap64 ((xs.length : Int) - 1) = (xs.length : Int) - 1 := xwrL (by omega)
 gi_loopw [3] (fun i wr => ∃ k : Nat, k ≤ xs.length ∧ i = .int .i64 ((xs.length : Int) - 1 - k) ∧ J (uptoL g k) wr ∧ Below w₀.heap.size w₀ wr ∧ Boxed wr Bs 34 (.slice A xs.length cap))
  (fun i _ => (intOf i + 1).toNat)
 case atStart => exact ⟨0, Nat.zero_le _, by simp, h0, hW, hBs⟩
 case round =>
  obtain ⟨k, hk, rfl, hJs, hnx, hbx⟩ := hrel
  have cB := hbx.cell
  by_cases hlt : k < xs.length
  ·obtain ⟨fn, tmps, assign, body, hy, hR⟩ := hY _ (g k) wr hJs (by rw [uptoL_length]; exact hlt)
   rw [hg k hlt] at hy
   obtain ⟨j, hj⟩ : ∃ j : Nat, (xs.length : Int) - 1 - k = (j : Int) := ⟨xs.length - 1 - k, by omega⟩
   have p0 : 0 ≤ (j : Int) := by omega
   have p1 : (j : Int) < (xs.length : Int) := by omega
   have p2 : j < xs.length := by omega
   rw [hj] at hy ⊢
   obtain ⟨ad, rfl, x0, x1, x2, x3⟩ := at_T59 (Kd.C_below hr hnx) (j : Int) p0 p1
   rw [Int.toNat_natCast] at x0 x1 x2 x3
   gi_wp2
   refine hR.mono ?_
   rintro e W3 (⟨rfl, hJ3, hk3⟩ | ⟨rfl, hJx3⟩)
   ·have hb3 := hk3.2 hbx
    have c3 := hb3.cell
    gi_wp2
    go_roundw
    case rel => exact ⟨k + 1, by omega, by congr 1; omega, by rw [uptoL_succ]; exact hJ3, hnx.trans hk3.1, hb3⟩
    case measure => simp [intOf]
   ·gi_wp2
    refine bodyPost_ret (results_none rfl _ _ _) rfl ?_
    exact ⟨⟨_, rfl⟩, .inr ⟨_, ⟨k + 1, by omega, (uptoL_succ _ _).symm⟩, hJx3⟩⟩
  ·obtain rfl : k = xs.length := by omega
   have q2 : decide ((xs.length : Int) - 1 - xs.length ≥ 0) = false := decide_eq_false (by omega)
   gi_wp2
   go_end0
   exact ⟨⟨_, rfl⟩, .inl ⟨_, rfl, hJs⟩⟩
theorem KeepsFrom.of_belowL {W W' : World} (h : Below W.heap.size W W') (B : Nat) : KeepsFrom B W W' := ⟨h.size, fun k o _ hk _ => (h.block k (Array.getElem?_eq_some_iff.1 hk).1).trans hk⟩
theorem Boxed.liesL {W W' : World} {B : Nat} {t : TypeId} {v : Value} (h : Boxed W B t v) (hb : Below W.heap.size W W') : Boxed W' B t v := (hb.block B h.lt).trans h
set_option maxHeartbeats 1000000 in
theorem backL_in (F : Fence) (n : Nat) (h6 : F.fn 33) (hro : F.round = none) (a : Option Addr) (len cap : Nat) (w : World) :
  CallsIn F n Try.prog 33 #[.slice a len cap] w fun e w' => e = .returned (.func (.func 68) #[] #[.pointer (some ⟨w.heap.size, 0, none⟩)]) ∧ w' = w.alloc (.cells #[.slice a len cap] 34) := by
 refine callsIn_of_wp Try.func33 rfl h6 ?_ hro
 simp only [Try.ntmps33, List.size_toArray, List.length_cons, List.length_nil, Nat.reduceAdd, Nat.reduceSub, Array.replicate_succ, Array.replicate_zero, List.push_toArray, List.append_toArray, List.nil_append, List.cons_append]
 gi_wp2
 go_ret
 exact ⟨rfl, rfl⟩
set_option linter.unusedVariables false
set_option linter.unusedSimpArgs false
def impl_TableOf.rows (p : List S59) (i e : Int) : List Int → Option (List S48)
 | [] => some []
 | q :: L => if 0 ≤ q then (if q < (p.length : Int) then (impl_TableOf.rows p i e L).bind fun r => some (if (rd_T59 p q).f1 = 8 then (⟨wrap64 (i + 1), e, q, (rd_T59 p q).f2⟩ : S48) :: r else r) else none) else none
def impl_TableOf.row (k : Nat) (p : List S59) (i : Int) (x : S59) : Option (List S48) :=
 (impl_endOf.f k p i).bind fun e => if x.f1 = 11 ∧ x.f3 = 1 then some [(⟨wrap64 (i + 1), e, i, 0⟩ : S48)] else if x.f1 = 7 then (impl_tryFrom.f k p i).bind fun L => if L.length ≤ 1000000 then impl_TableOf.rows p i e L else none else some []
def impl_TableOf.tb (k : Nat) (p : List S59) : Nat → Option (List S48)
 | 0 => some []
 | i + 1 => (impl_TableOf.row k p i (rd_T59 p (i : Int))).bind fun a => (impl_TableOf.tb k p i).bind fun b => some (a ++ b)
def impl_TableOf.f (k : Nat) (l0_0 : List S98) (l1 : List S59) : Option (List S48) :=
 (impl_ValidProgram.f k l0_0 l1).bind fun v => if v = true then (if l1.length ≤ 1000000 then impl_TableOf.tb k l1 l1.length else none) else some []
theorem impl_TableOf.rows_len (p : List S59) (i e : Int) : ∀ (L : List Int) (r : List S48), impl_TableOf.rows p i e L = some r → r.length ≤ L.length
 | [], r, h => by simp [impl_TableOf.rows] at h; simp [← h]
 | q :: L, r, h => by
  simp only [impl_TableOf.rows] at h
  split at h
  ·split at h
   ·obtain ⟨r2, h1, h2⟩ := Option.bind_eq_some_iff.mp h
    have := impl_TableOf.rows_len p i e L r2 h1
    obtain rfl := Option.some.inj h2
    split <;> simp <;> omega
   ·cases h
  ·cases h
theorem impl_TableOf.row_len {k : Nat} {p : List S59} {i : Int} {x : S59} {r : List S48} (h : impl_TableOf.row k p i x = some r) : r.length ≤ 1000000 := by
 unfold impl_TableOf.row at h
 obtain ⟨e, _, h⟩ := Option.bind_eq_some_iff.mp h
 split at h
 ·obtain rfl := Option.some.inj h; simp
 ·split at h
  ·obtain ⟨L, _, h⟩ := Option.bind_eq_some_iff.mp h
   split at h
   ·have := impl_TableOf.rows_len p i e L r h; omega
   ·cases h
  ·obtain rfl := Option.some.inj h; simp
abbrev TbEl (k : Nat) (p : List S59) := { x : Int × S59 // (impl_TableOf.row k p x.1 x.2).isSome = true ∨ p.length = 0 }
def TbEl.zero (k : Nat) (p : List S59) (h : (impl_TableOf.row k p 0 (rd_T59 p 0)).isSome = true ∨ p.length = 0) : TbEl k p := ⟨(0, rd_T59 p 0), h⟩
def TbEl.rows {k : Nat} {p : List S59} (x : TbEl k p) : List S48 := (impl_TableOf.row k p x.1.1 x.1.2).getD []
def TbEl.acc {k : Nat} {p : List S59} (pre : List (TbEl k p)) : List S48 := (pre.map TbEl.rows).flatten
theorem TbEl.acc_snoc {k : Nat} {p : List S59} (pre : List (TbEl k p)) (x : TbEl k p) : TbEl.acc (pre ++ [x]) = TbEl.acc pre ++ x.rows := by simp [TbEl.acc]
theorem TbEl.acc_len {k : Nat} {p : List S59} : ∀ pre : List (TbEl k p), (TbEl.acc pre).length ≤ pre.length * 1000000
 | [] => by simp [TbEl.acc]
 | x :: pre => by
  have := TbEl.acc_len pre
  have e : x.rows.length ≤ 1000000 := by
   unfold TbEl.rows
   cases hr : impl_TableOf.row k p x.1.1 x.1.2 with
   | none => simp
   | some r => exact impl_TableOf.row_len hr
  simp only [TbEl.acc, List.map_cons, List.flatten_cons, List.length_append, List.length_cons] at this ⊢
  omega
def TbEl.of (k : Nat) (p : List S59) (h0 : (impl_TableOf.row k p 0 (rd_T59 p 0)).isSome = true ∨ p.length = 0) (j : Nat) : TbEl k p :=
 if h : (impl_TableOf.row k p ((p.length : Int) - 1 - j) (rd_T59 p ((p.length : Int) - 1 - j))).isSome = true then ⟨((p.length : Int) - 1 - j, rd_T59 p ((p.length : Int) - 1 - j)), .inl h⟩ else TbEl.zero k p h0
theorem impl_TableOf.tb_all {k : Nat} {p : List S59} : ∀ (n : Nat) (r : List S48), impl_TableOf.tb k p n = some r → ∀ j : Nat, j < n → (impl_TableOf.row k p (j : Int) (rd_T59 p (j : Int))).isSome = true
 | 0, _, _, j, hj => by omega
 | n + 1, r, h, j, hj => by
  simp only [impl_TableOf.tb] at h
  obtain ⟨a, h1, h⟩ := Option.bind_eq_some_iff.mp h
  obtain ⟨b, h2, h⟩ := Option.bind_eq_some_iff.mp h
  by_cases e : j = n
  ·subst e; rw [h1]; rfl
  ·exact impl_TableOf.tb_all n b h2 j (by omega)
def encR (l : List S48) : List Value := (l.map fun x => [Value.int .i64 x.f0, .int .i64 x.f1, .int .i64 x.f2, .int .i64 x.f3]).flatten
theorem encR_snoc (l : List S48) (x : S48) : encR (l ++ [x]) = encR l ++ [Value.int .i64 x.f0, .int .i64 x.f1, .int .i64 x.f2, .int .i64 x.f3] := by simp [encR]
theorem TbEl.acc_all {k : Nat} {p : List S59} (h0 : (impl_TableOf.row k p 0 (rd_T59 p 0)).isSome = true ∨ p.length = 0) : ∀ (n : Nat) (r : List S48), n ≤ p.length → impl_TableOf.tb k p n = some r → ((List.range n).map fun j => (TbEl.of k p h0 (p.length - n + j)).rows).flatten = r
 | 0, r, _, h => by simp [impl_TableOf.tb] at h; simp [← h]
 | n + 1, r, hn, h => by
  have h2 := impl_TableOf.tb_all (n + 1) r h n (by omega)
  simp only [impl_TableOf.tb] at h
  obtain ⟨a, ha, h⟩ := Option.bind_eq_some_iff.mp h
  obtain ⟨b, hb, h⟩ := Option.bind_eq_some_iff.mp h
  obtain rfl := Option.some.inj h
  have ih := TbEl.acc_all h0 n b (by omega) hb
  rw [List.range_succ_eq_map, List.map_cons, List.flatten_cons, List.map_map]
  have e1 : (TbEl.of k p h0 (p.length - (n + 1) + 0)).rows = a := by
   have ei : (p.length : Int) - 1 - ((p.length - (n + 1) + 0 : Nat) : Int) = (n : Int) := by omega
   have hh : (impl_TableOf.row k p ((p.length : Int) - 1 - ((p.length - (n + 1) + 0 : Nat) : Int)) (rd_T59 p ((p.length : Int) - 1 - ((p.length - (n + 1) + 0 : Nat) : Int)))).isSome = true := by rw [ei]; exact h2
   simp only [TbEl.of, dif_pos hh, TbEl.rows]
   rw [ei, ha]; rfl
  have e2 : (List.map ((fun j => (TbEl.of k p h0 (p.length - (n + 1) + j)).rows) ∘ Nat.succ) (List.range n)) = (List.range n).map fun j => (TbEl.of k p h0 (p.length - n + j)).rows := by
   apply List.map_congr_left
   intro j _
   simp only [Function.comp]
   rw [show p.length - (n + 1) + j.succ = p.length - n + j by omega]
  rw [e1, e2, ih]
theorem ite_goal {c : Prop} [Decidable c] {A B : Prop} (hc : c) (h : A) : (if c then A else B) := by rw [if_pos hc]; exact h
theorem append_opIn {F : Fence} {n : Nat} {P : Program} (w : World) {o : Oper} {a : Act} {K : Act → World → Prop} {Q : Exit → Act → World → Prop}
  (s x : Operand) (t : TypeId) (hop : o.op = Op.call { callee := Callee.builtin Builtin.append, args := #[s, x], argTypes := #[t, t] })
  (base : Nat) (e : TypeId) (i : TypeInfo) (z : Value) (size bytes : Nat) (h1 : P.underlying t = some (.slice e)) (h2 : P.info? e = some i) (h3 : i.zero = some z) (h4 : i.size = size) (h5 : i.bytes = bytes) (h6 : z.cells.size = size) (h7 : 0 < size)
  (v : Value) (k : Nat) (xs : List Value) (hs : a.eval s = v) (hown : w.ownsRow base e size v k xs) (ad : Addr) (m c : Nat) (news : List Value) (hx : a.eval x = .slice (some ad) m c) (hn : news.length = m * size)
  (hc : ∀ j u, news[j]? = some u → w.cell? (ad.add j) = some u) (h1c : ∀ u ∈ news, u.oneCell' = true) (b1 : k + m ≤ maxLen) (b2 : (k + m) * bytes ≤ 140737488355328) (b3 : base ≤ w.heap.size)
  (hK : ∀ v' w', w'.ownsRow base e size v' (k + m) (xs ++ news) → w.grownBy w' v.ownBlock → K (a.put o.dst v') w') : o.wpIn F n P a w K Q := by
 obtain ⟨v', w', hrun, r1, r2, r3⟩ := run_append_own (P := P) w base t o.type e i z size bytes h1 h2 h3 h4 h5 h6 h7 v k xs hown ad m c news hn hc h1c b1 b2 b3
 unfold Oper.wpIn
 refine ⟨?_, ?_⟩
 ·simp [Oper.about, hop, resolve, Target.leads, Sem.run_pure]
 ·rw [Oper.semAt_plain F _ _ (by rw [hop]; intro c hc'; cases hc')]
  simp [execOp, hop, resolve, invoke, builtin, hs, hx, hrun, Result.andThen]
  exact hK _ _ r1 r2
def noDefer (o : Oper) : Bool := match o.op with | .defer _ => false | _ => true
theorem noDefer_spec {o : Oper} (h : noDefer o = true) : ∀ c, o.op ≠ .defer c := fun c hc => by simp [noDefer, hc] at h
theorem opIn_round {F : Fence} {l n : Nat} {P : Program} {o : Oper} {a : Act} {w : World} {K : Act → World → Prop} {Q : Exit → Act → World → Prop} (hro : F.round = none) (hd : noDefer o = true) (h : o.wpIn F n P a w K Q) : o.wpIn (F.inRound l) n P a w K Q := by
 unfold Oper.wpIn at *
 refine ⟨h.1, ?_⟩
 have h2 := h.2
 rw [hro, Oper.semAt_none] at h2
 rw [Fence.inRound_round, Oper.semAt_some l _ _ (noDefer_spec hd)]
 exact h2
theorem opsIn_round {F : Fence} {l n : Nat} {P : Program} {ops : Array Oper} {K K' : Act → World → Prop} {Q : Exit → Act → World → Prop} (hro : F.round = none) (hd : ops.all noDefer = true) {i : Nat} {a : Act} {w : World} (hK : ∀ a w, K a w → K' a w) (h : wpOpIn F n P ops Q i K a w) : wpOpIn (F.inRound l) n P ops Q i K' a w := by
 have h := wpOpIn_mono hK h
 unfold wpOpIn at h ⊢
 cases ho : ops[i]? with
 | none => simp only [ho] at h ⊢; exact h
 | some o =>
  simp only [ho] at h ⊢
  have hn : noDefer o = true := by
   obtain ⟨hi, e⟩ := Array.getElem?_eq_some_iff.1 ho
   have := Array.all_eq_true.1 hd i hi
   rw [e] at this; exact this
  split
  ·rename_i hw; rw [if_pos hw] at h; exact opIn_round hro hn h
  ·rename_i hw; rw [if_neg hw] at h; exact h
theorem wpAnyIn_round {F : Fence} {l n : Nat} {P : Program} {md : Region.Mode} {ops : Array Oper} {Q : Exit → Act → World → Prop} (hro : F.round = none) (hd : ops.all noDefer = true) : ∀ (fuel : Nat) (listed : Array Bool) (a : Act) (w : World), wpAnyIn F n P md ops Q fuel listed a w → wpAnyIn (F.inRound l) n P md ops Q fuel listed a w
 | 0, _, _, _, h => h
 | fuel + 1, listed, a, w, h => ⟨h.1, fun i hi => opsIn_round hro hd (fun a w hh => wpAnyIn_round hro hd fuel _ a w hh) (h.2 i hi)⟩
theorem addr_add0 (g j : Nat) : (⟨g, 0, none⟩ : Addr).add j = ⟨g, j, none⟩ := by unfold Addr.add; split <;> simp_all
theorem cell_four_new (w : World) (a b c d : Value) (t : TypeId) : ∀ j u, [a, b, c, d][j]? = some u → (w.alloc (.cells #[a, b, c, d] t)).cell? ((⟨w.heap.size, 0, none⟩ : Addr).add j) = some u := by
 intro j u hj
 match j, hj with
 | 0, hj => simp at hj; subst hj; rw [addr_add0]; exact (blk_cell (World.alloc_heap_new w _) 0).trans rfl
 | 1, hj => simp at hj; subst hj; rw [addr_add0]; exact (blk_cell (World.alloc_heap_new w _) 1).trans rfl
 | 2, hj => simp at hj; subst hj; rw [addr_add0]; exact (blk_cell (World.alloc_heap_new w _) 2).trans rfl
 | 3, hj => simp at hj; subst hj; rw [addr_add0]; exact (blk_cell (World.alloc_heap_new w _) 3).trans rfl
 | j + 4, hj => simp at hj
theorem reps_encR (w : World) (base : Nat) (ok : Nat → Prop) : ∀ l : List S48, Reps (k48.M w base ok) 4 l (encR l)
 | [] => Reps.none _ _
 | x :: l => Reps.c4 (k48_mkM _ _ _ x) (reps_encR w base ok l)
theorem ownsRow_R {W : World} {n₀ D : Nat} {v : Value} {r : List S48} (h : W.ownsRow n₀ 48 4 v r.length (encR r)) (hD : W.heap[D]? = some (.deferred (some []))) : Kd.R k48 48 W n₀ (fun k => k ≠ D) v r := by
 refine ⟨fun k hk e => ?_, encR r, h.weak, reps_encR _ _ _ _⟩
 subst e
 obtain ⟨cells, hc⟩ := own_typed h.weak k hk
 rw [hD] at hc; cases hc
structure TbInv (n₀ B1 Bs Bo : Nat) (sv : Value) (A : List S48) (v : Value) (W : World) : Prop where
 b1 : Boxed W B1 34 sv
 bS : Boxed W Bs 34 sv
 bO : Boxed W Bo 28 v
 row : W.ownsRow n₀ 48 4 v A.length (encR A)
theorem ownsRow_below {W W' : World} {base : Nat} {e : TypeId} {size : Nat} {v : Value} {k : Nat} {xs : List Value} (h : W.ownsRow base e size v k xs) (hb : Below W.heap.size W W') : W'.ownsRow base e size v k xs := by
 refine ⟨h.1, ?_⟩
 rcases h.2 with h0 | ⟨g, cap, cur, hv, hg, hgb, rest⟩
 ·exact .inl h0
 ·exact .inr ⟨g, cap, cur, hv, hg, (hb.block g (Array.getElem?_eq_some_iff.1 hgb).1).trans hgb, rest⟩
theorem TbInv.below {n₀ B1 Bs Bo : Nat} {sv : Value} {A : List S48} {v : Value} {W W' : World} (h : TbInv n₀ B1 Bs Bo sv A v W) (hb : Below W.heap.size W W') : TbInv n₀ B1 Bs Bo sv A v W' :=
 ⟨Boxed.liesL h.b1 hb, Boxed.liesL h.bS hb, Boxed.liesL h.bO hb, ownsRow_below h.row hb⟩
theorem TbInv.app {n₀ B1 Bs Bo : Nat} {sv : Value} {A : List S48} {v v' : Value} {W w1 : World} {tmp : Obj} (h : TbInv n₀ B1 Bs Bo sv A v W) (x : S48) (hn : n₀ ≤ W.heap.size) (hBo : n₀ ≤ Bo) (h1 : B1 ≠ Bo) (hS : Bs ≠ Bo)
  (hown : w1.ownsRow n₀ 48 4 v' (A.length + 1) (encR A ++ [.int .i64 x.f0, .int .i64 x.f1, .int .i64 x.f2, .int .i64 x.f3])) (hgrow : (W.alloc tmp).grownBy w1 v.ownBlock) :
  TbInv n₀ B1 Bs Bo sv (A ++ [x]) v' (w1.setCell ⟨Bo, 0, none⟩ v') ∧ Boxed w1 Bo 28 v ∧ KeepsOthers W (w1.setCell ⟨Bo, 0, none⟩ v') ∧ Below n₀ W (w1.setCell ⟨Bo, 0, none⟩ v') := by
 obtain ⟨k1, k2, k3, k4, k5⟩ := h.bO.appended (by decide) h.row hn hBo hown hgrow
 refine ⟨⟨((h.b1.alloc tmp).kept hgrow (h.b1.not_row (by decide) h.row)).other h1 _, ((h.bS.alloc tmp).kept hgrow (h.bS.not_row (by decide) h.row)).other hS _, k2, ?_⟩, k1, k4, k5⟩
 rw [encR_snoc, List.length_append, List.length_singleton]
 exact k3
theorem TbInv.keepL {n₀ B1 Bs Bo : Nat} {sv : Value} {A : List S48} {v v' : Value} {W w1 : World} {tmp : Obj} {b : Nat} {vL : Value} {L : List Int} (h : TbInv n₀ B1 Bs Bo sv A v W) (hL : Kd.R (Kd.int .i64) 3 W b (fun _ => True) vL L) (hb1 : Boxed w1 Bo 28 v) (hgrow : (W.alloc tmp).grownBy w1 v.ownBlock) :
  Kd.R (Kd.int .i64) 3 (w1.setCell ⟨Bo, 0, none⟩ v') b (fun _ => True) vL L := by
 have h1 := Kd.R_alloc hL tmp
 have h2 : Kd.R (Kd.int .i64) 3 w1 b (fun _ => True) vL L := by
  refine Kd.R_mono (Kd.R_move (Kd.R_bound h1) (fun k hk => ?_)) (fun _ _ => trivial)
  obtain ⟨_, _, hk, q, hq, cells, hc⟩ := hk
  refine hgrow.block k hk (fun e => ?_)
  obtain ⟨c2, hc2⟩ := own_typed (h.row.alloc tmp).weak k e.symm
  rw [hc2] at hc
  injection hc with hc
  injection hc with _ hc
  rcases List.mem_cons.mp hq with rfl | hq
  ·cases hc
  ·cases hq
 exact Kd.R_set h2 hb1 (by decide) 0 v'
theorem impl_TableOf.rows_step {p : List S59} {i e : Int} {L : List Int} {m : Nat} {rest : List S48} (hm : m < L.length) (h : impl_TableOf.rows p i e (L.drop m) = some rest) :
  0 ≤ rd L (m : Int) ∧ rd L (m : Int) < (p.length : Int) ∧ ∃ rest2, impl_TableOf.rows p i e (L.drop (m + 1)) = some rest2 ∧ rest = if (rd_T59 p (rd L (m : Int))).f1 = 8 then (⟨wrap64 (i + 1), e, rd L (m : Int), (rd_T59 p (rd L (m : Int))).f2⟩ : S48) :: rest2 else rest2 := by
 have hr : rd L (m : Int) = L[m] := by simp [rd, List.getD_eq_getElem?_getD, hm]
 rw [List.drop_eq_getElem_cons hm, ← hr] at h
 simp only [impl_TableOf.rows] at h
 by_cases h0 : 0 ≤ rd L (m : Int)
 ·rw [if_pos h0] at h
  by_cases h1 : rd L (m : Int) < (p.length : Int)
  ·rw [if_pos h1] at h
   obtain ⟨r2, h2, h3⟩ := Option.bind_eq_some_iff.mp h
   exact ⟨h0, h1, r2, h2, (Option.some.inj h3).symm⟩
  ·rw [if_neg h1] at h; cases h
 ·rw [if_neg h0] at h; cases h
set_option maxHeartbeats 8000000 in
set_option maxRecDepth 100000 in
theorem impl_TableOf.calls (k : Nat) (A0_0 : Option Addr) (c0_0 : Nat) (l0_0 : List (S98)) (A1 : Option Addr) (c1 : Nat) (l1 : List (S59)) (r : List S48) (w : World) (hr0_0 : Kd.C k98 w A0_0 l0_0.length l0_0) (hc0_0 : l0_0.length ≤ c0_0) (hr1 : Kd.C k59 w A1 l1.length l1) (hc1 : l1.length ≤ c1) (h : impl_TableOf.f k l0_0 l1 = some r) :
  Calls Try.prog 12 #[.agg #[.slice A0_0 l0_0.length c0_0], .slice A1 l1.length c1] w fun e w' => ∃ v0_ : Value, e = .returned v0_ ∧ Kd.R k48 48 w' w.heap.size (fun _ => True) v0_ r ∧ Below w.heap.size w w' := by
 obtain ⟨v, hv, h⟩ := Option.bind_eq_some_iff.mp h
 have hu32 := Try.underlying32
 have hu59 := Try.underlying59
 have hu48 := Try.underlying48
 have B2 : Below w.heap.size w ((w.alloc (.cells #[.slice A0_0 l0_0.length c0_0] 32)).alloc (.cells #[.slice A1 l1.length c1] 34)) := ((Below.refl _ w).alloc (Nat.le_refl _) _).alloc (by simp) _
 have HV := am (fun (W : World) (hb : Below w.heap.size w W) => impl_ValidProgram.calls k A0_0 c0_0 l0_0 A1 c1 l1 v W (Kd.C_below hr0_0 hb) hc0_0 (Kd.C_below hr1 hb) hc1 hv)
 refine (callsIn_wide (n := 8)).1 ?_
 have hro : Fence.wide.round = none := rfl
 refine callsIn_of_wp_marks Try.func12 rfl trivial ?_ hro
 simp only [Try.ntmps12, List.size_toArray, List.length_cons, List.length_nil, Nat.reduceAdd, Nat.reduceSub, Array.replicate_succ, Array.replicate_zero, List.push_toArray, List.append_toArray, List.nil_append, List.cons_append]
 have b0 := (Boxed.new w 32 (.slice A0_0 l0_0.length c0_0)).alloc (.cells #[.slice A1 l1.length c1] 34)
 have b1 := Boxed.new (w.alloc (.cells #[.slice A0_0 l0_0.length c0_0] 32)) 34 (.slice A1 l1.length c1)
 simp only [World.size_alloc] at b1
 obtain ⟨W2, hW2⟩ : ∃ W2, (w.alloc (.cells #[.slice A0_0 l0_0.length c0_0] 32)).alloc (.cells #[.slice A1 l1.length c1] 34) = W2 := ⟨_, rfl⟩
 have hs2 : W2.heap.size = w.heap.size + 2 := by rw [← hW2]; simp
 rw [hW2] at b0 b1 B2
 have cb0 := b0.cell
 have cb1 := b1.cell
 have hcall := HV.out W2 B2
 cases v with
 | false =>
  rw [if_neg (by simp)] at h
  obtain rfl := Option.some.inj h
  gi_wp2_with (refine ⟨trivial, ?_⟩; gi_at_call 22; refine (callsIn_wide.2 hcall).mono ?_; rintro e w1 ⟨rfl, hb1⟩)
  refine ⟨.slice none 0 0, ?_, _, rfl, Kd.R_nil _ _ _ _ _, B2.trans (hb1.mono (by omega))⟩
  simp [results, Try.f12, go_sem]
 | true =>
  rw [if_pos rfl] at h
  by_cases hlen : l1.length ≤ 1000000
  case neg => rw [if_neg hlen] at h; cases h
  rw [if_pos hlen] at h
  gi_wp2_with (first | (refine ⟨trivial, ?_⟩; gi_at_call 22; refine (callsIn_wide.2 hcall).mono ?_; rintro e w1 ⟨rfl, hb1⟩; have k1 := ((Boxed.liesL b1 hb1).alloc (.cells #[] 48)).alloc (.cells #[.slice (some ⟨w1.heap.size, 0, none⟩) 0 0] 28); have c1' := Boxed.cell k1) | (refine ⟨trivial, ?_⟩; gi_at_call 33; refine (backL_in Fence.wide _ trivial hro _ _ _ _).mono ?_; rintro e w' ⟨rfl, rfl⟩))
  have hs1 : w.heap.size + 2 ≤ w1.heap.size := by have := hb1.size; omega
  have B0 : Below w.heap.size w (((w1.alloc (.cells #[] 48)).alloc (.cells #[.slice (some ⟨w1.heap.size, 0, none⟩) 0 0] 28)).alloc (.cells #[.slice A1 l1.length c1] 34)) :=
   (((B2.trans (hb1.mono (by omega))).alloc (by omega) _).alloc (by simp; omega) _).alloc (by simp; omega) _
  have d1 := k1.alloc (.cells #[.slice A1 l1.length c1] 34)
  have dO := (Boxed.new (w1.alloc (.cells #[] 48)) 28 (.slice (some ⟨w1.heap.size, 0, none⟩) 0 0)).alloc (.cells #[.slice A1 l1.length c1] 34)
  have dS := Boxed.new ((w1.alloc (.cells #[] 48)).alloc (.cells #[.slice (some ⟨w1.heap.size, 0, none⟩) 0 0] 28)) 34 (.slice A1 l1.length c1)
  have dR : ((((w1.alloc (.cells #[] 48)).alloc (.cells #[.slice (some ⟨w1.heap.size, 0, none⟩) 0 0] 28)).alloc (.cells #[.slice A1 l1.length c1] 34))).ownsRow w.heap.size 48 4 (.slice (some ⟨w1.heap.size, 0, none⟩) 0 0) 0 [] :=
   ((World.ownsRow_lit (base := w.heap.size) (e := 48) (size := 4) w1 #[] 0 (by omega) (by simp) (by simp)).alloc _).alloc _
  rw [World.size_alloc] at dO
  simp only [World.size_alloc] at dS
  obtain ⟨W0, hW0⟩ : ∃ W0, ((w1.alloc (.cells #[] 48)).alloc (.cells #[.slice (some ⟨w1.heap.size, 0, none⟩) 0 0] 28)).alloc (.cells #[.slice A1 l1.length c1] 34) = W0 := ⟨_, rfl⟩
  have hs0 : W0.heap.size = w1.heap.size + 3 := by rw [← hW0]; simp
  rw [hW0] at B0 d1 dO dS dR ⊢
  have hWA := am hW0
  clear hW0
  obtain ⟨ir, hir, hz0, hz1, hz2⟩ := info_parts info48
  have h0 : (impl_TableOf.row k l1 0 (rd_T59 l1 0)).isSome = true ∨ l1.length = 0 := by
   rcases Nat.eq_zero_or_pos l1.length with e | e
   ·exact .inr e
   ·exact .inl (impl_TableOf.tb_all _ _ h 0 e)
  have HR := am (show TbEl.acc (uptoL (TbEl.of k l1 h0) l1.length) = r by
   have := TbEl.acc_all h0 l1.length r (Nat.le_refl _) h
   simpa [TbEl.acc, uptoL, Function.comp_def] using this)
  have henc : ∀ j : Nat, j < l1.length → (fun x : TbEl k l1 => #[Value.int .i64 x.1.1, .agg #[.int .i64 x.1.2.f0, .int .i64 x.1.2.f1, .int .i64 x.1.2.f2, .int .i64 x.1.2.f3]]) (TbEl.of k l1 h0 j) = #[.int .i64 ((l1.length : Int) - 1 - j), .agg #[.int .i64 (rd_T59 l1 ((l1.length : Int) - 1 - j)).f0, .int .i64 (rd_T59 l1 ((l1.length : Int) - 1 - j)).f1, .int .i64 (rd_T59 l1 ((l1.length : Int) - 1 - j)).f2, .int .i64 (rd_T59 l1 ((l1.length : Int) - 1 - j)).f3]] := by
   intro j hj
   have hh := impl_TableOf.tb_all _ _ h (l1.length - 1 - j) (by omega)
   have ei : (l1.length : Int) - 1 - (j : Int) = ((l1.length - 1 - j : Nat) : Int) := by omega
   rw [← ei] at hh
   simp only [TbEl.of, dif_pos hh]
  clear h hv
  refine wpIn_rangeFunc_ownH hro (by omega) (gf := 68) (lb := #[.pointer (some ⟨w1.heap.size + 2, 0, none⟩)]) rfl trivial (enters_of Try.func68 (by kernel_rfl) rfl)
   (encs := fun x : TbEl k l1 => #[.int .i64 x.1.1, .agg #[.int .i64 x.1.2.f0, .int .i64 x.1.2.f1, .int .i64 x.1.2.f2, .int .i64 x.1.2.f3]]) (Kp := BackKeepsL w.heap.size (w1.heap.size + 2) (.slice A1 l1.length c1))
   (S := fun ys => ys = uptoL (TbEl.of k l1 h0) l1.length) (Sp := fun pre => ∃ q, q ≤ l1.length ∧ pre = uptoL (TbEl.of k l1 h0) q) (N := l1.length) (w0 := W0)
   (fun l J Jx W hW _ _ hY h0' => backL1_in Fence.wide _ trivial hro (by omega) l _ A1 c1 l1 w hr1 _ (TbEl.of k l1 h0) henc J Jx hY W (B0.trans (hW.mono B0.size)) (Boxed.liesL dS hW) h0')
   backKeepsL_t (backKeepsL_b (by omega)) (Below.refl _ _) (fun _ => rfl)
   (fun pre W => ((Boxed W (w.heap.size + 1) 34 (.slice A1 l1.length c1) ∧ Boxed W (w1.heap.size + 2) 34 (.slice A1 l1.length c1)) ∧ (∃ v, Boxed W (w1.heap.size + 1) 28 v ∧ W.ownsRow w.heap.size 48 4 v (TbEl.acc pre).length (encR (TbEl.acc pre)) ∧ True)) ∧ Below w.heap.size w W)
   (fun _ _ _ => False)
   (OwnFrom.and (OwnFrom.and (OwnFrom.and (Own.from (boxed_own _ _ fun _ => _) _) (Own.from (boxed_own _ _ fun _ => _) _)) (Own.from (holdsRow_own w.heap.size (w1.heap.size + 1) 28 48 4 (fun pre => (TbEl.acc pre).length) (fun pre => encR (TbEl.acc pre)) (fun _ _ => True)) _)) (ownFrom_below (Nat.le_refl _) (by omega)))
   (fun c => ownFrom_pure _ _)
   ⟨⟨⟨d1, dS⟩, _, dO, dR, trivial⟩, B0⟩
   (fun x a' W => ∃ Bx, w1.heap.size + 2 < Bx ∧ W.heap[Bx]? = some (.cells #[.int .i64 x.1.2.f0, .int .i64 x.1.2.f1, .int .i64 x.1.2.f2, .int .i64 x.1.2.f3] 59 (0, 0)) ∧ a' = { tmps := #[.agg #[.slice A0_0 l0_0.length c0_0], .slice A1 l1.length c1, .pointer (some ⟨w.heap.size, 0, none⟩), .pointer (some ⟨w.heap.size + 1, 0, none⟩), .slice none 0 0, .pointer (some ⟨w1.heap.size + 1, 0, none⟩), .int .i64 x.1.1, .pointer (some ⟨Bx, 0, none⟩), undef, undef, undef, undef, .agg #[.slice A0_0 l0_0.length c0_0], .slice A1 l1.length c1, .bool true, .bool false, .slice (some ⟨w1.heap.size, 0, none⟩) 0 0, .slice A1 l1.length c1, .func (.func 68) #[] #[.pointer (some ⟨w1.heap.size + 2, 0, none⟩)], .int .i64 x.1.1, .agg #[.int .i64 x.1.2.f0, .int .i64 x.1.2.f1, .int .i64 x.1.2.f2, .int .i64 x.1.2.f3], undef, undef, undef, undef, undef, undef, undef, undef, undef, undef, undef, undef, undef, undef, undef, undef, undef, undef, undef, undef, undef, undef, undef, undef, undef, undef, undef, undef, undef, undef, undef, undef, undef, undef, undef, undef, undef, undef, undef, undef, undef, undef, undef, undef, undef, undef, undef, undef, undef, undef, undef, undef, undef, undef], defers := [] })
   (fun x a' _ X Y row hs hg hr => by
    obtain ⟨Bx, h1, h2, h3⟩ := hs
    refine ⟨Bx, h1, (hg.block Bx (Array.getElem?_eq_some_iff.1 h2).1 (fun e => ?_)).trans h2, h3⟩
    obtain ⟨o, ho, hc⟩ := (hr Bx e.symm).2
    rw [h2] at ho; cases ho; cases hc)
   ?assign ?body ?done ?stop
  case assign =>
   rintro l pre x W K ⟨⟨⟨i1, iS⟩, vO, iO, iR, _⟩, hB⟩ hK
   gi_wp2
   exact hK _ _ ((KeepsOthers.alloc _ _).from _) ⟨(Below.refl _ W).alloc hB.size _, fun h => h.alloc _⟩ ⟨⟨⟨i1.alloc _, iS.alloc _⟩, vO, iO.alloc _, iR.alloc _, trivial⟩, hB.alloc hB.size _⟩ ⟨W.heap.size, by have := iS.lt; omega, World.alloc_heap_new W _, rfl⟩
  case body =>
   rintro l pre ⟨⟨ix, x⟩, hx⟩ a' W hl ⟨rr, hrr⟩ ⟨⟨⟨i1, iS⟩, vO, iO, iR, _⟩, hB⟩ ⟨Bx, hBx, bX, rfl⟩ hlt
   have hx2 : (impl_TableOf.row k l1 ix x).isSome = true := hx.resolve_right (by omega)
   obtain ⟨rw_, hrow⟩ := Option.isSome_iff_exists.1 hx2
   have HA1 := am (show TbEl.acc (pre ++ [⟨(ix, x), hx⟩]) = TbEl.acc pre ++ rw_ by rw [TbEl.acc_snoc]; simp [TbEl.rows, hrow])
   have hA := am (show (TbEl.acc pre).length ≤ 1000000000000 by have := TbEl.acc_len pre; omega)
   have J0 := am (show TbInv w.heap.size (w.heap.size + 1) (w1.heap.size + 2) (w1.heap.size + 1) (.slice A1 l1.length c1) (TbEl.acc pre) vO W from ⟨i1, iS, iO, iR⟩)
   have HB := am hB
   have fin : ∀ (v2 : Value) (W2 : World), TbInv w.heap.size (w.heap.size + 1) (w1.heap.size + 2) (w1.heap.size + 1) (.slice A1 l1.length c1) (TbEl.acc pre ++ rw_) v2 W2 → KeepsFrom W0.heap.size W W2 → Below w.heap.size W W2 → (Boxed W (w1.heap.size + 2) 34 (.slice A1 l1.length c1) → Boxed W2 (w1.heap.size + 2) 34 (.slice A1 l1.length c1)) →
     KeepsFrom W0.heap.size W W2 ∧ BackKeepsL w.heap.size (w1.heap.size + 2) (.slice A1 l1.length c1) W W2 ∧ (((Boxed W2 (w.heap.size + 1) 34 (.slice A1 l1.length c1) ∧ Boxed W2 (w1.heap.size + 2) 34 (.slice A1 l1.length c1)) ∧ (∃ v, Boxed W2 (w1.heap.size + 1) 28 v ∧ W2.ownsRow w.heap.size 48 4 v (TbEl.acc (pre ++ [⟨(ix, x), hx⟩])).length (encR (TbEl.acc (pre ++ [⟨(ix, x), hx⟩]))) ∧ True)) ∧ Below w.heap.size w W2) := by
    intro v2 W2 T hk hb hs
    rw [HA1.out]
    exact ⟨hk, ⟨hb, hs⟩, ⟨⟨T.b1, T.bS⟩, v2, T.bO, T.row, trivial⟩, HB.out.trans hb⟩
   have FIN := am fin
   clear fin
   have x0 : W.cell? ⟨Bx, 0, none⟩ = some (.int .i64 x.f0) := (blk_cell bX 0).trans rfl
   have x1 : W.cell? ⟨Bx, 1, none⟩ = some (.int .i64 x.f1) := (blk_cell bX 1).trans rfl
   have x2 : W.cell? ⟨Bx, 2, none⟩ = some (.int .i64 x.f2) := (blk_cell bX 2).trans rfl
   have x3 : W.cell? ⟨Bx, 3, none⟩ = some (.int .i64 x.f3) := (blk_cell bX 3).trans rfl
   have ci1 := i1.cell
   have ciO := iO.cell
   have fiO := iO.frozen
   unfold impl_TableOf.row at hrow
   obtain ⟨e, he, hrow⟩ := Option.bind_eq_some_iff.mp hrow
   have KE := am (fun (W' : World) (hb : Below w.heap.size w W') => impl_endOf.calls k A1 c1 l1 ix e W' (Kd.C_below hr1 hb) hc1 he)
   clear he hx2 hl iR i1 iS iO hB
   by_cases k11 : x.f1 = 11
   ·have k11b : (x.f1 == 11) = true := by simp [k11]
    have k7b : (x.f1 == 7) = false := by simp [k11]
    by_cases k3 : x.f3 = 1
    ·have k3b : (x.f3 == 1) = true := by simp [k3]
     rw [if_pos ⟨k11, k3⟩] at hrow
     obtain rfl := Option.some.inj hrow
     clear hrow
     gi_wp2_with (first | (refine ⟨trivial, ?_⟩; gi_at_call 34; refine (CallsIn.inRound l (callsIn_wide.2 (KE.out _ HB.out))).mono ?_; clear KE; rintro e w' ⟨rfl, ⟨n0, rfl⟩⟩; have hbd := am (show Below W.heap.size W (W.drewN n0) from pw_below_drewN (Below.refl _ _) _)) | (gi_at_builtin; refine wpListIn_append_own _ rfl _ _ 28 rfl w.heap.size 48 ir (.agg #[(.int .i64 0), (.int .i64 0), (.int .i64 0), (.int .i64 0)]) 4 32 Try.underlying28 hir hz0 hz1 hz2 rfl (by decide) _ _ _ rfl ((J0.out.below hbd.out).row.alloc _) ⟨W.heap.size, 0, none⟩ 1 1 [.int .i64 (wrap64 (ix + 1)), .int .i64 e, .int .i64 ix, .int .i64 0] rfl rfl (cell_four_new (W.drewN n0) _ _ _ _ _) (by simp [Value.oneCell']) (by have := hA.out; simp only [maxLen]; omega) (by have := hA.out; omega) (by have := HB.out.size; have := hbd.out.size; simp; omega) ?_; intro v' w3 hown' hgrow _; obtain ⟨g', cap', rfl⟩ := ownsRow_succ hown'; have T := am ((J0.out.below hbd.out).app (⟨wrap64 (ix + 1), e, ix, 0⟩ : S48) (by have := HB.out.size; have := hbd.out.size; omega) (by omega) (by omega) (by omega) hown' hgrow); have q1 := T.out.2.1.cell; have q2 := T.out.2.1.frozen; clear hown' hgrow) | (refine ⟨trivial, ?_⟩))
     exact FIN.out _ _ T.out.1 ((KeepsFrom.of_belowL hbd.out _).trans (T.out.2.2.1.from _)) ((hbd.out.mono HB.out.size).trans T.out.2.2.2) (fun _ => T.out.1.bS)
    ·have k3b : (x.f3 == 1) = false := by simpa using k3
     rw [if_neg (fun h => k3 h.2), if_neg (by omega)] at hrow
     obtain rfl := Option.some.inj hrow
     clear hrow
     gi_wp2_with (first | (refine ⟨trivial, ?_⟩; gi_at_call 34; refine (CallsIn.inRound l (callsIn_wide.2 (KE.out _ HB.out))).mono ?_; clear KE; rintro e w' ⟨rfl, ⟨n0, rfl⟩⟩; have hbd := am (show Below W.heap.size W (W.drewN n0) from pw_below_drewN (Below.refl _ _) _)) | (refine ⟨trivial, ?_⟩))
     exact FIN.out _ _ (by rw [List.append_nil]; exact J0.out.below hbd.out) (KeepsFrom.of_belowL hbd.out _) (hbd.out.mono HB.out.size) (fun h => Boxed.liesL h hbd.out)
   ·have k11b : (x.f1 == 11) = false := by simpa using k11
    by_cases k7 : x.f1 = 7
    ·have k7b : (x.f1 == 7) = true := by simp [k7]
     rw [if_neg (fun h => k11 h.1), if_pos k7] at hrow
     obtain ⟨L, hL, hrow⟩ := Option.bind_eq_some_iff.mp hrow
     by_cases hLl : L.length ≤ 1000000
     case neg => rw [if_neg hLl] at hrow; cases hrow
     rw [if_pos hLl] at hrow
     have HRW := am hrow
     have KT := am (fun (W' : World) (hb : Below w.heap.size w W') => impl_tryFrom.calls k A1 c1 l1 ix L W' (Kd.C_below hr1 hb) hc1 hL)
     clear hrow hL
     gi_wp2_with (first | (refine ⟨trivial, ?_⟩; gi_at_call 34; refine (CallsIn.inRound l (callsIn_wide.2 (KE.out _ HB.out))).mono ?_; clear KE; rintro e w' ⟨rfl, ⟨n0, rfl⟩⟩; have hbd := am (show Below W.heap.size W (W.drewN n0) from pw_below_drewN (Below.refl _ _) _)) | (refine ⟨trivial, ?_⟩; gi_at_call 35; refine (CallsIn.inRound l (callsIn_wide.2 (KT.out _ (HB.out.trans (hbd.out.mono HB.out.size))))).mono ?_; clear KT; rintro e w4 ⟨vL, rfl, hRL, hb4⟩; obtain ⟨AL, cL, rfl⟩ := Kd.R_slice hRL; have hbd4 := am (hbd.out.trans (hb4.mono hbd.out.size)); have RL := am hRL; have ci4 := (Boxed.liesL J0.out.b1 hbd4.out).cell; clear hRL hb4) | (refine ⟨trivial, ?_⟩))
     gi_loopw [50] (fun v50 wr => ∃ (m : Nat) (part : List S48) (v : Value), m ≤ L.length ∧ v50 = .int .i64 m ∧ Aside0 (∃ rest, impl_TableOf.rows l1 ix e (L.drop m) = some rest ∧ part ++ rest = rw_) ∧ Aside0 (part.length ≤ m) ∧ Aside0 (TbInv w.heap.size (w.heap.size + 1) (w1.heap.size + 2) (w1.heap.size + 1) (.slice A1 l1.length c1) (TbEl.acc pre ++ part) v wr) ∧ Aside0 (KeepsFrom W0.heap.size W wr) ∧ Aside0 (Below w.heap.size W wr) ∧ Aside0 (Kd.R (Kd.int .i64) 3 wr (W.drewN n0).heap.size (fun _ => True) (.slice AL L.length cL) L)) (fun v50 _ => L.length - (intOf v50).toNat)
     case atStart => exact ⟨0, [], vO, Nat.zero_le _, rfl, ⟨rw_, by simpa using HRW.out, rfl⟩, ⟨Nat.le_refl _⟩, ⟨by rw [List.append_nil]; exact J0.out.below hbd4.out⟩, ⟨KeepsFrom.of_belowL hbd4.out _⟩, ⟨hbd4.out.mono HB.out.size⟩, RL⟩
     case round =>
      obtain ⟨m, part, v, hm, rfl, HRS, HPL, HT, HKF, HBW, HRL⟩ := hrel
      by_cases hlt2 : m < L.length
      ·obtain ⟨rest, hr1', hr2'⟩ := HRS.out
       obtain ⟨q0, q1, rest2, hr3, hr4⟩ := impl_TableOf.rows_step hlt2 hr1'
       clear HRS hr1'
       have hC := (Kd.R_reads' HRL.out).2.2
       obtain ⟨adL, rfl, hcL⟩ := Kd.at_int hC (m : Int) (by omega) (by omega)
       rw [Int.toNat_natCast] at hcL
       obtain ⟨qv, hqv⟩ : ∃ qv, rd L (m : Int) = qv := ⟨_, rfl⟩
       rw [hqv] at q0 q1 hcL hr4
       obtain ⟨adp, rfl, y0, y1, y2, y3⟩ := at_T59 (Kd.C_below hr1 (HB.out.trans HBW.out)) qv q0 q1
       replace q0 := eq_true q0
       replace q1 := eq_true q1
       have cj1 := HT.out.b1.cell
       have cjO := HT.out.bO.cell
       have fjO := HT.out.bO.frozen
       clear hC hqv
       by_cases k8 : (rd_T59 l1 qv).f1 = 8
       ·rw [if_pos k8] at hr4
        have k8b : ((rd_T59 l1 qv).f1 == 8) = true := by simp [k8]
        have HR3 := am (show ∃ rest, impl_TableOf.rows l1 ix e (L.drop (m + 1)) = some rest ∧ (part ++ [(⟨wrap64 (ix + 1), e, qv, (rd_T59 l1 qv).f2⟩ : S48)]) ++ rest = rw_ from ⟨rest2, hr3, by rw [← hr2', hr4]; simp⟩)
        clear hr2' hr3 hr4 k8
        obtain ⟨AP, hAP⟩ : ∃ AP, TbEl.acc pre ++ part = AP := ⟨_, rfl⟩
        have HLN := am (show AP.length ≤ 1000001000000 by have := hA.out; have := HPL.out; rw [← hAP, List.length_append]; omega)
        rw [hAP] at HT
        have HAP := am hAP
        clear hAP
        have hmx : Try.prog.follows .mixedOrders = true := by kernel_rfl
        have HTd := am (HT.out.below (below_drew (Below.refl _ wr)))
        have HRLd := am (Kd.R_drew HRL.out)
        have HBd := am (HBW.out.trans (below_drew (Below.refl _ wr)))
        gi_wp2
        refine wpIn_region_any (by assumption) ?_
        refine wpAnyIn_round (F := Fence.wide) (l := l) rfl (by kernel_rfl) _ _ _ _ ?_
        change wpAnyIn _ _ _ _ _ _ _ _ _ (World.drew _)
        refine wpAnyIn_take (i := 1) (v := ?_) rfl rfl (by kernel_rfl) (by kernel_rfl) (by kernel_rfl) (fun _ _ _ h => h) ⟨Or.inl ⟨by rfl, ?_⟩, fun _ => rfl⟩ ?_
        rotate_left
        ·exact sb
        refine wpAnyIn_take (i := 2) (v := ?_) rfl rfl (by kernel_rfl) (by kernel_rfl) (by kernel_rfl) (fun _ _ _ h => h) ⟨Or.inl ⟨by rfl, ?_⟩, fun _ => rfl⟩ ?_
        rotate_left
        ·exact sb
        refine wpAnyIn_take (i := 3) (v := ?_) rfl rfl (by kernel_rfl) (by kernel_rfl) (by kernel_rfl) (fun _ _ _ h => h) ⟨Or.inl ⟨by rfl, ?_⟩, fun _ => rfl⟩ ?_
        rotate_left
        ·exact sb
        refine wpAnyIn_take (i := 5) (v := ?_) rfl rfl (by kernel_rfl) (by kernel_rfl) (by kernel_rfl) (fun _ _ _ h => h) ⟨Or.inl ⟨by rfl, ?_⟩, fun _ => rfl⟩ ?_
        rotate_left
        ·exact sb
        refine wpAnyIn_ready (rs := [0, 4]) (by kernel_rfl) (by simp) ?_
        refine AllReadyIn.cons rfl (fun K hK => ?_) (AllReadyIn.cons rfl (fun K hK => ?_) AllReadyIn.nil)
        ·go_simp
         refine hK _ _ ?_
         clear hK K
         refine wpAnyIn_ready (rs := [4]) (by kernel_rfl) (by simp) ?_
         refine AllReadyIn.cons rfl (fun K hK => ?_) AllReadyIn.nil
         go_simp
         refine hK _ _ ?_
         clear hK K
         refine wpAnyIn_take (i := 6) (v := ?_) rfl rfl (by kernel_rfl) (by kernel_rfl) (by kernel_rfl) (fun _ _ _ h => h) ⟨Or.inl ⟨by rfl, ?_⟩, fun _ => rfl⟩ ?_
         rotate_left
         ·exact sb
         refine wpAnyIn_take (i := 7) (v := ?_) rfl rfl (by kernel_rfl) (by kernel_rfl) (by kernel_rfl) (fun _ _ _ h => h) ⟨Or.inl ⟨by rfl, ?_⟩, fun _ => rfl⟩ ?_
         rotate_left
         ·exact sb
         refine wpAnyIn_ready (rs := [8]) (by kernel_rfl) (by simp) ?_
         refine AllReadyIn.cons rfl (fun K hK => ?_) AllReadyIn.nil
         go_simp
         refine hK _ _ ?_
         clear hK K
         refine wpAnyIn_take (i := 9) (v := ?_) rfl rfl (by kernel_rfl) (by kernel_rfl) (by kernel_rfl) (fun _ _ _ h => h) ⟨Or.inl ⟨by rfl, ?_⟩, fun _ => rfl⟩ ?_
         rotate_left
         ·exact sb
         refine wpAnyIn_ready (rs := [10]) (by kernel_rfl) (by simp) ?_
         refine AllReadyIn.cons rfl (fun K hK => ?_) AllReadyIn.nil
         go_simp
         refine hK _ _ ?_
         clear hK K
         refine wpAnyIn_ready (rs := [11]) (by kernel_rfl) (by simp) ?_
         refine AllReadyIn.cons rfl (fun K hK => ?_) AllReadyIn.nil
         refine ite_goal (by rfl) ?_
         refine append_opIn (wr.drew.alloc (.cells #[.int .i64 (wrap64 (ix + 1)), .int .i64 e, .int .i64 qv, .int .i64 (rd_T59 l1 qv).f2] 48)) _ _ 28 rfl w.heap.size 48 ir (.agg #[(.int .i64 0), (.int .i64 0), (.int .i64 0), (.int .i64 0)]) 4 32 Try.underlying28 hir hz0 hz1 hz2 rfl (by decide) v _ _ rfl (HTd.out.row.alloc _) ⟨wr.drew.heap.size, 0, none⟩ 1 1 [.int .i64 (wrap64 (ix + 1)), .int .i64 e, .int .i64 qv, .int .i64 (rd_T59 l1 qv).f2] rfl rfl (cell_four_new wr.drew _ _ _ _ _) (by simp [Value.oneCell']) (by have := HLN.out; simp only [maxLen]; omega) (by have := HLN.out; omega) (by have := HB.out.size; have := HBd.out.size; have := HBW.out.size; simp; omega) ?_
         intro v' w5 hown' hgrow
         refine hK _ _ ?_
         clear hK K
         obtain ⟨g', cap', rfl⟩ := ownsRow_succ hown'
         have T := am (HTd.out.app (⟨wrap64 (ix + 1), e, qv, (rd_T59 l1 qv).f2⟩ : S48) (by have := HB.out.size; have := HBd.out.size; omega) (by omega) (by omega) (by omega) hown' hgrow)
         have TL := am (HTd.out.keepL (v' := .slice (some ⟨g', 0, none⟩) (AP.length + 1) cap') HRLd.out T.out.2.1 hgrow)
         have q3 := T.out.2.1.cell
         have q4 := T.out.2.1.frozen
         clear hown' hgrow
         refine wpAnyIn_ready (rs := [12]) (by kernel_rfl) (by simp) ?_
         refine AllReadyIn.cons rfl (fun K hK => ?_) AllReadyIn.nil
         go_simp
         refine hK _ _ ?_
         clear hK K
         refine wpAnyIn_done (by kernel_rfl) ?_ _
         gi_wp2
         go_roundw
         case rel => exact ⟨m + 1, part ++ [(⟨wrap64 (ix + 1), e, qv, (rd_T59 l1 qv).f2⟩ : S48)], _, hlt2, by go_num, HR3, ⟨by have := HPL.out; rw [List.length_append, List.length_singleton]; omega⟩, ⟨by rw [← List.append_assoc, HAP.out]; exact T.out.1⟩, ⟨HKF.out.trans (((KeepsOthers.drew wr).trans T.out.2.2.1).from _)⟩, ⟨HBd.out.trans T.out.2.2.2⟩, TL⟩
         case measure => simp [intOf]; omega
        ·go_simp
         refine hK _ _ ?_
         clear hK K
         refine wpAnyIn_take (i := 6) (v := ?_) rfl rfl (by kernel_rfl) (by kernel_rfl) (by kernel_rfl) (fun _ _ _ h => h) ⟨Or.inl ⟨by rfl, ?_⟩, fun _ => rfl⟩ ?_
         rotate_left
         ·exact sb
         refine wpAnyIn_take (i := 7) (v := ?_) rfl rfl (by kernel_rfl) (by kernel_rfl) (by kernel_rfl) (fun _ _ _ h => h) ⟨Or.inl ⟨by rfl, ?_⟩, fun _ => rfl⟩ ?_
         rotate_left
         ·exact sb
         refine wpAnyIn_ready (rs := [0, 8]) (by kernel_rfl) (by simp) ?_
         refine AllReadyIn.cons rfl (fun K hK => ?_) (AllReadyIn.cons rfl (fun K hK => ?_) AllReadyIn.nil)
         ·go_simp
          refine hK _ _ ?_
          clear hK K
          refine wpAnyIn_ready (rs := [8]) (by kernel_rfl) (by simp) ?_
          refine AllReadyIn.cons rfl (fun K hK => ?_) AllReadyIn.nil
          go_simp
          refine hK _ _ ?_
          clear hK K
          refine wpAnyIn_take (i := 9) (v := ?_) rfl rfl (by kernel_rfl) (by kernel_rfl) (by kernel_rfl) (fun _ _ _ h => h) ⟨Or.inl ⟨by rfl, ?_⟩, fun _ => rfl⟩ ?_
          rotate_left
          ·exact sb
          refine wpAnyIn_ready (rs := [10]) (by kernel_rfl) (by simp) ?_
          refine AllReadyIn.cons rfl (fun K hK => ?_) AllReadyIn.nil
          go_simp
          refine hK _ _ ?_
          clear hK K
          refine wpAnyIn_ready (rs := [11]) (by kernel_rfl) (by simp) ?_
          refine AllReadyIn.cons rfl (fun K hK => ?_) AllReadyIn.nil
          refine ite_goal (by rfl) ?_
          refine append_opIn (wr.drew.alloc (.cells #[.int .i64 (wrap64 (ix + 1)), .int .i64 e, .int .i64 qv, .int .i64 (rd_T59 l1 qv).f2] 48)) _ _ 28 rfl w.heap.size 48 ir (.agg #[(.int .i64 0), (.int .i64 0), (.int .i64 0), (.int .i64 0)]) 4 32 Try.underlying28 hir hz0 hz1 hz2 rfl (by decide) v _ _ rfl (HTd.out.row.alloc _) ⟨wr.drew.heap.size, 0, none⟩ 1 1 [.int .i64 (wrap64 (ix + 1)), .int .i64 e, .int .i64 qv, .int .i64 (rd_T59 l1 qv).f2] rfl rfl (cell_four_new wr.drew _ _ _ _ _) (by simp [Value.oneCell']) (by have := HLN.out; simp only [maxLen]; omega) (by have := HLN.out; omega) (by have := HB.out.size; have := HBd.out.size; have := HBW.out.size; simp; omega) ?_
          intro v' w5 hown' hgrow
          refine hK _ _ ?_
          clear hK K
          obtain ⟨g', cap', rfl⟩ := ownsRow_succ hown'
          have T := am (HTd.out.app (⟨wrap64 (ix + 1), e, qv, (rd_T59 l1 qv).f2⟩ : S48) (by have := HB.out.size; have := HBd.out.size; omega) (by omega) (by omega) (by omega) hown' hgrow)
          have TL := am (HTd.out.keepL (v' := .slice (some ⟨g', 0, none⟩) (AP.length + 1) cap') HRLd.out T.out.2.1 hgrow)
          have q3 := T.out.2.1.cell
          have q4 := T.out.2.1.frozen
          clear hown' hgrow
          refine wpAnyIn_ready (rs := [12]) (by kernel_rfl) (by simp) ?_
          refine AllReadyIn.cons rfl (fun K hK => ?_) AllReadyIn.nil
          go_simp
          refine hK _ _ ?_
          clear hK K
          refine wpAnyIn_done (by kernel_rfl) ?_ _
          gi_wp2
          go_roundw
          case rel => exact ⟨m + 1, part ++ [(⟨wrap64 (ix + 1), e, qv, (rd_T59 l1 qv).f2⟩ : S48)], _, hlt2, by go_num, HR3, ⟨by have := HPL.out; rw [List.length_append, List.length_singleton]; omega⟩, ⟨by rw [← List.append_assoc, HAP.out]; exact T.out.1⟩, ⟨HKF.out.trans (((KeepsOthers.drew wr).trans T.out.2.2.1).from _)⟩, ⟨HBd.out.trans T.out.2.2.2⟩, TL⟩
          case measure => simp [intOf]; omega
         ·go_simp
          refine hK _ _ ?_
          clear hK K
          refine wpAnyIn_take (i := 9) (v := ?_) rfl rfl (by kernel_rfl) (by kernel_rfl) (by kernel_rfl) (fun _ _ _ h => h) ⟨Or.inl ⟨by rfl, ?_⟩, fun _ => rfl⟩ ?_
          rotate_left
          ·exact sb
          refine wpAnyIn_ready (rs := [0, 10]) (by kernel_rfl) (by simp) ?_
          refine AllReadyIn.cons rfl (fun K hK => ?_) (AllReadyIn.cons rfl (fun K hK => ?_) AllReadyIn.nil)
          ·go_simp
           refine hK _ _ ?_
           clear hK K
           refine wpAnyIn_ready (rs := [10]) (by kernel_rfl) (by simp) ?_
           refine AllReadyIn.cons rfl (fun K hK => ?_) AllReadyIn.nil
           go_simp
           refine hK _ _ ?_
           clear hK K
           refine wpAnyIn_ready (rs := [11]) (by kernel_rfl) (by simp) ?_
           refine AllReadyIn.cons rfl (fun K hK => ?_) AllReadyIn.nil
           refine ite_goal (by rfl) ?_
           refine append_opIn (wr.drew.alloc (.cells #[.int .i64 (wrap64 (ix + 1)), .int .i64 e, .int .i64 qv, .int .i64 (rd_T59 l1 qv).f2] 48)) _ _ 28 rfl w.heap.size 48 ir (.agg #[(.int .i64 0), (.int .i64 0), (.int .i64 0), (.int .i64 0)]) 4 32 Try.underlying28 hir hz0 hz1 hz2 rfl (by decide) v _ _ rfl (HTd.out.row.alloc _) ⟨wr.drew.heap.size, 0, none⟩ 1 1 [.int .i64 (wrap64 (ix + 1)), .int .i64 e, .int .i64 qv, .int .i64 (rd_T59 l1 qv).f2] rfl rfl (cell_four_new wr.drew _ _ _ _ _) (by simp [Value.oneCell']) (by have := HLN.out; simp only [maxLen]; omega) (by have := HLN.out; omega) (by have := HB.out.size; have := HBd.out.size; have := HBW.out.size; simp; omega) ?_
           intro v' w5 hown' hgrow
           refine hK _ _ ?_
           clear hK K
           obtain ⟨g', cap', rfl⟩ := ownsRow_succ hown'
           have T := am (HTd.out.app (⟨wrap64 (ix + 1), e, qv, (rd_T59 l1 qv).f2⟩ : S48) (by have := HB.out.size; have := HBd.out.size; omega) (by omega) (by omega) (by omega) hown' hgrow)
           have TL := am (HTd.out.keepL (v' := .slice (some ⟨g', 0, none⟩) (AP.length + 1) cap') HRLd.out T.out.2.1 hgrow)
           have q3 := T.out.2.1.cell
           have q4 := T.out.2.1.frozen
           clear hown' hgrow
           refine wpAnyIn_ready (rs := [12]) (by kernel_rfl) (by simp) ?_
           refine AllReadyIn.cons rfl (fun K hK => ?_) AllReadyIn.nil
           go_simp
           refine hK _ _ ?_
           clear hK K
           refine wpAnyIn_done (by kernel_rfl) ?_ _
           gi_wp2
           go_roundw
           case rel => exact ⟨m + 1, part ++ [(⟨wrap64 (ix + 1), e, qv, (rd_T59 l1 qv).f2⟩ : S48)], _, hlt2, by go_num, HR3, ⟨by have := HPL.out; rw [List.length_append, List.length_singleton]; omega⟩, ⟨by rw [← List.append_assoc, HAP.out]; exact T.out.1⟩, ⟨HKF.out.trans (((KeepsOthers.drew wr).trans T.out.2.2.1).from _)⟩, ⟨HBd.out.trans T.out.2.2.2⟩, TL⟩
           case measure => simp [intOf]; omega
          ·go_simp
           refine hK _ _ ?_
           clear hK K
           have cjA : ((wr.alloc (.cells #[.int .i64 (wrap64 (ix + 1)), .int .i64 e, .int .i64 qv, .int .i64 (rd_T59 l1 qv).f2] 48)).drew).cell? ⟨w1.heap.size + 1, 0, none⟩ = some v := (HT.out.bO.alloc _).cell
           refine wpAnyIn_ready (rs := [0]) (by kernel_rfl) (by simp) ?_
           refine AllReadyIn.cons rfl (fun K hK => ?_) AllReadyIn.nil
           go_simp
           refine hK _ _ ?_
           clear hK K
           refine wpAnyIn_ready (rs := [11]) (by kernel_rfl) (by simp) ?_
           refine AllReadyIn.cons rfl (fun K hK => ?_) AllReadyIn.nil
           refine ite_goal (by rfl) ?_
           refine append_opIn (wr.drew.alloc (.cells #[.int .i64 (wrap64 (ix + 1)), .int .i64 e, .int .i64 qv, .int .i64 (rd_T59 l1 qv).f2] 48)) _ _ 28 rfl w.heap.size 48 ir (.agg #[(.int .i64 0), (.int .i64 0), (.int .i64 0), (.int .i64 0)]) 4 32 Try.underlying28 hir hz0 hz1 hz2 rfl (by decide) v _ _ rfl (HTd.out.row.alloc _) ⟨wr.drew.heap.size, 0, none⟩ 1 1 [.int .i64 (wrap64 (ix + 1)), .int .i64 e, .int .i64 qv, .int .i64 (rd_T59 l1 qv).f2] rfl rfl (cell_four_new wr.drew _ _ _ _ _) (by simp [Value.oneCell']) (by have := HLN.out; simp only [maxLen]; omega) (by have := HLN.out; omega) (by have := HB.out.size; have := HBd.out.size; have := HBW.out.size; simp; omega) ?_
           intro v' w5 hown' hgrow
           refine hK _ _ ?_
           clear hK K
           obtain ⟨g', cap', rfl⟩ := ownsRow_succ hown'
           have T := am (HTd.out.app (⟨wrap64 (ix + 1), e, qv, (rd_T59 l1 qv).f2⟩ : S48) (by have := HB.out.size; have := HBd.out.size; omega) (by omega) (by omega) (by omega) hown' hgrow)
           have TL := am (HTd.out.keepL (v' := .slice (some ⟨g', 0, none⟩) (AP.length + 1) cap') HRLd.out T.out.2.1 hgrow)
           have q3 := T.out.2.1.cell
           have q4 := T.out.2.1.frozen
           clear hown' hgrow
           refine wpAnyIn_ready (rs := [12]) (by kernel_rfl) (by simp) ?_
           refine AllReadyIn.cons rfl (fun K hK => ?_) AllReadyIn.nil
           go_simp
           refine hK _ _ ?_
           clear hK K
           refine wpAnyIn_done (by kernel_rfl) ?_ _
           gi_wp2
           go_roundw
           case rel => exact ⟨m + 1, part ++ [(⟨wrap64 (ix + 1), e, qv, (rd_T59 l1 qv).f2⟩ : S48)], _, hlt2, by go_num, HR3, ⟨by have := HPL.out; rw [List.length_append, List.length_singleton]; omega⟩, ⟨by rw [← List.append_assoc, HAP.out]; exact T.out.1⟩, ⟨HKF.out.trans (((KeepsOthers.drew wr).trans T.out.2.2.1).from _)⟩, ⟨HBd.out.trans T.out.2.2.2⟩, TL⟩
           case measure => simp [intOf]; omega
       ·rw [if_neg k8] at hr4
        have k8b : ((rd_T59 l1 qv).f1 == 8) = false := by simpa using k8
        have HR3 := am (show ∃ rest, impl_TableOf.rows l1 ix e (L.drop (m + 1)) = some rest ∧ part ++ rest = rw_ from ⟨rest2, hr3, by rw [← hr2', hr4]⟩)
        clear hr2' hr3 hr4 k8
        gi_wp2
        go_roundw
        case rel => exact ⟨m + 1, part, v, hlt2, by go_num, HR3, ⟨by have := HPL.out; omega⟩, HT, HKF, HBW, HRL⟩
        case measure => simp [intOf]; omega
      ·obtain rfl : m = L.length := by omega
       obtain ⟨rest, hr1', hr2'⟩ := HRS.out
       rw [List.drop_of_length_le (Nat.le_refl _)] at hr1'
       obtain rfl := Option.some.inj hr1'
       rw [List.append_nil] at hr2'
       subst hr2'
       gi_wp2
       exact FIN.out _ _ HT.out HKF.out HBW.out (fun _ => HT.out.bS)
    ·have k7b : (x.f1 == 7) = false := by simpa using k7
     rw [if_neg (fun h => k11 h.1), if_neg k7] at hrow
     obtain rfl := Option.some.inj hrow
     clear hrow
     gi_wp2_with (first | (refine ⟨trivial, ?_⟩; gi_at_call 34; refine (CallsIn.inRound l (callsIn_wide.2 (KE.out _ HB.out))).mono ?_; clear KE; rintro e w' ⟨rfl, ⟨n0, rfl⟩⟩; have hbd := am (show Below W.heap.size W (W.drewN n0) from pw_below_drewN (Below.refl _ _) _)) | (refine ⟨trivial, ?_⟩))
     exact FIN.out _ _ (by rw [List.append_nil]; exact J0.out.below hbd.out) (KeepsFrom.of_belowL hbd.out _) (hbd.out.mono HB.out.size) (fun h => Boxed.liesL h hbd.out)
  case done =>
   rintro D ys W hD rfl ⟨⟨⟨i1, iS⟩, vO, iO, iR, _⟩, hB⟩ hK
   rw [HR.out] at iR
   have HV := am (ownsRow_R iR hK)
   have HB := am hB
   have HK := am hK
   have cO := iO.cell
   clear iR hB hK i1 iS
   gi_wp2_with (refine ⟨trivial, ?_⟩; gi_at_call 36; refine (callsIn_wide.2 (impl_Range_36.calls (fun k => k ≠ D) vO r r w W HB.out HV.out (show impl_Range_36.f r = some r from rfl))).mono ?_; rintro e W2 ⟨v0, rfl, hR, hB2, hKp⟩)
   have hKD : W2.heap[D]? = some (.deferred (some [])) := (hKp.2 D (Array.getElem?_eq_some_iff.1 HK.out).1 (fun h => h rfl)).trans HK.out
   refine ⟨by simp, .inl ⟨_, _, rfl, run_takeDeferred hKD, ?_⟩⟩
   refine ⟨_, results_tmp rfl _ _ _, v0, rfl, Kd.R_mono (Kd.R_step hR (fun k hk hlt => (grownBy_putObj' W2 D (.deferred none)).block k hlt (fun e => ?_))) (fun _ _ => trivial), hB2.trans (belowK_b (w := w) (Nat.le_refl _) W2 D _ _ (by omega) hKD rfl rfl)⟩
   have hDlt := (Array.getElem?_eq_some_iff.1 HK.out).1
   rcases hk with hk | hk
   ·exact hk (by simpa using e)
   ·have : k = D := by simpa using e
    omega
  case stop =>
   rintro D c pre W _ _ h _
   exact h.elim
end
def laws_eqRange.f (a0_0 : Int) (a0_1 : Int) (a0_2 : Int) (a0_3 : Int) (a1_0 : Int) (a1_1 : Int) (a1_2 : Int) (a1_3 : Int) : Option (Bool) := if a0_0 = a1_0 then (if a0_1 = a1_1 then (if a0_2 = a1_2 then (if a0_3 = a1_3 then (some true) else (some false)) else (some false)) else (some false)) else (some false)
set_option maxHeartbeats 8000000 in
set_option maxRecDepth 100000 in
theorem laws_eqRange.calls (a0_0 : Int) (a0_1 : Int) (a0_2 : Int) (a0_3 : Int) (a1_0 : Int) (a1_1 : Int) (a1_2 : Int) (a1_3 : Int) (r : Bool) (w : World) (h : laws_eqRange.f a0_0 a0_1 a0_2 a0_3 a1_0 a1_1 a1_2 a1_3 = some r) :
  Calls Try.prog 37 #[.agg #[.int .i64 a0_0, .int .i64 a0_1, .int .i64 a0_2, .int .i64 a0_3], .agg #[.int .i64 a1_0, .int .i64 a1_1, .int .i64 a1_2, .int .i64 a1_3]] w fun e w' => e = .returned (.bool r) ∧ Below w.heap.size w w' := by
 have hu48 := Try.underlying48
 have HB := am (Below.refl w.heap.size w)
 have H : (if a0_0 = a1_0 then (if a0_1 = a1_1 then (if a0_2 = a1_2 then (if a0_3 = a1_3 then (some true) else (some false)) else (some false)) else (some false)) else (some false)) = some r := h
 clear h
 by_cases c3 : a0_0 = a1_0
 ·rw [if_pos c3] at H
  have c3b0 : (a0_0 == a1_0) = true := beq_iff_eq.mpr c3
  have c3b1 : (a0_0 != a1_0) = false := bne_eq_false_iff_eq.mpr c3
  clear c3
  by_cases c4 : a0_1 = a1_1
  ·rw [if_pos c4] at H
   have c4b0 : (a0_1 == a1_1) = true := beq_iff_eq.mpr c4
   have c4b1 : (a0_1 != a1_1) = false := bne_eq_false_iff_eq.mpr c4
   clear c4
   by_cases c5 : a0_2 = a1_2
   ·rw [if_pos c5] at H
    have c5b0 : (a0_2 == a1_2) = true := beq_iff_eq.mpr c5
    have c5b1 : (a0_2 != a1_2) = false := bne_eq_false_iff_eq.mpr c5
    clear c5
    by_cases c6 : a0_3 = a1_3
    ·rw [if_pos c6] at H
     have c6b0 : (a0_3 == a1_3) = true := beq_iff_eq.mpr c6
     have c6b1 : (a0_3 != a1_3) = false := bne_eq_false_iff_eq.mpr c6
     clear c6
     obtain rfl := Option.some.inj H
     go_enter Try.func37, Try.ntmps37
     go_wp2_with (first | ((with_reducible refine gate_dst (N := 2) rfl ?_); refine bE (N := 2) (cs := #[.int .i64 a0_0, .int .i64 a0_1, .int .i64 a0_2, .int .i64 a0_3]) (t := 48) ?_; intro gb275 hg w7 hbox hb; have BK275 := am (hbox); have GW275 := am ((Y1 : w.heap.size ≤ gb275)); have GE275 := am ((Y1 : w.heap.size ≤ gb275)); replace HB := am (below_step (bq) hb); clear hb hbox hg) | ((with_reducible refine gate_dst (N := 3) rfl ?_); refine bE (N := 3) (cs := #[.int .i64 a1_0, .int .i64 a1_1, .int .i64 a1_2, .int .i64 a1_3]) (t := 48) ?_; intro gb276 hg w8 hbox hb; have BK276 := am (hbox); have GW276 := am ((Y12 : w.heap.size ≤ gb276)); have GE276 := am ((Y12 : w.heap.size ≤ gb276)); have NB275_276 := am ((Y19 : gb275 ≠ gb276)); have NB276_275 := am ((Y20 : gb276 ≠ gb275)); replace BK275 := am (blk_below (g := gb275) (o := .cells #[.int .i64 a0_0, .int .i64 a0_1, .int .i64 a0_2, .int .i64 a0_3] 48 (0, 0)) (kq BK275.out) hb); replace HB := am (below_step (Y21) hb); clear hb hbox hg; have hnb9 := NB275_276.out; have hnc9 := NB276_275.out; have hcz10_0 := bc0 BK275.out; have hcz10_1 := bc1 BK275.out; have hcz10_2 := bc2 BK275.out; have hcz10_3 := bc3 BK275.out; have hfz10_0 := blk_frozen BK275.out 0; have hfz10_1 := blk_frozen BK275.out 1; have hfz10_2 := blk_frozen BK275.out 2; have hfz10_3 := blk_frozen BK275.out 3; have hcz11_0 := bc0 BK276.out; have hcz11_1 := bc1 BK276.out; have hcz11_2 := bc2 BK276.out; have hcz11_3 := bc3 BK276.out; have hfz11_0 := blk_frozen BK276.out 0; have hfz11_1 := blk_frozen BK276.out 1; have hfz11_2 := blk_frozen BK276.out 2; have hfz11_3 := blk_frozen BK276.out 3))
     go_ret
     exact ⟨Y0, Y22⟩
    ·rw [if_neg c6] at H
     have c6b0 : (a0_3 == a1_3) = false := beq_eq_false_iff_ne.mpr c6
     have c6b1 : (a0_3 != a1_3) = true := bne_iff_ne.mpr c6
     obtain rfl := Option.some.inj H
     go_enter Try.func37, Try.ntmps37
     go_wp2_with (first | ((with_reducible refine gate_dst (N := 2) rfl ?_); refine bE (N := 2) (cs := #[.int .i64 a0_0, .int .i64 a0_1, .int .i64 a0_2, .int .i64 a0_3]) (t := 48) ?_; intro gb275 hg w12 hbox hb; have BK275 := am (hbox); have GW275 := am ((Y1 : w.heap.size ≤ gb275)); have GE275 := am ((Y1 : w.heap.size ≤ gb275)); replace HB := am (below_step (bq) hb); clear hb hbox hg) | ((with_reducible refine gate_dst (N := 3) rfl ?_); refine bE (N := 3) (cs := #[.int .i64 a1_0, .int .i64 a1_1, .int .i64 a1_2, .int .i64 a1_3]) (t := 48) ?_; intro gb276 hg w13 hbox hb; have BK276 := am (hbox); have GW276 := am ((Y12 : w.heap.size ≤ gb276)); have GE276 := am ((Y12 : w.heap.size ≤ gb276)); have NB275_276 := am ((Y19 : gb275 ≠ gb276)); have NB276_275 := am ((Y20 : gb276 ≠ gb275)); replace BK275 := am (blk_below (g := gb275) (o := .cells #[.int .i64 a0_0, .int .i64 a0_1, .int .i64 a0_2, .int .i64 a0_3] 48 (0, 0)) (kq BK275.out) hb); replace HB := am (below_step (Y21) hb); clear hb hbox hg; have hnb14 := NB275_276.out; have hnc14 := NB276_275.out; have hcz15_0 := bc0 BK275.out; have hcz15_1 := bc1 BK275.out; have hcz15_2 := bc2 BK275.out; have hcz15_3 := bc3 BK275.out; have hfz15_0 := blk_frozen BK275.out 0; have hfz15_1 := blk_frozen BK275.out 1; have hfz15_2 := blk_frozen BK275.out 2; have hfz15_3 := blk_frozen BK275.out 3; have hcz16_0 := bc0 BK276.out; have hcz16_1 := bc1 BK276.out; have hcz16_2 := bc2 BK276.out; have hcz16_3 := bc3 BK276.out; have hfz16_0 := blk_frozen BK276.out 0; have hfz16_1 := blk_frozen BK276.out 1; have hfz16_2 := blk_frozen BK276.out 2; have hfz16_3 := blk_frozen BK276.out 3))
     go_ret
     exact ⟨Y0, Y22⟩
   ·rw [if_neg c5] at H
    have c5b0 : (a0_2 == a1_2) = false := beq_eq_false_iff_ne.mpr c5
    have c5b1 : (a0_2 != a1_2) = true := bne_iff_ne.mpr c5
    obtain rfl := Option.some.inj H
    go_enter Try.func37, Try.ntmps37
    go_wp2_with (first | ((with_reducible refine gate_dst (N := 2) rfl ?_); refine bE (N := 2) (cs := #[.int .i64 a0_0, .int .i64 a0_1, .int .i64 a0_2, .int .i64 a0_3]) (t := 48) ?_; intro gb275 hg w17 hbox hb; have BK275 := am (hbox); have GW275 := am ((Y1 : w.heap.size ≤ gb275)); have GE275 := am ((Y1 : w.heap.size ≤ gb275)); replace HB := am (below_step (bq) hb); clear hb hbox hg) | ((with_reducible refine gate_dst (N := 3) rfl ?_); refine bE (N := 3) (cs := #[.int .i64 a1_0, .int .i64 a1_1, .int .i64 a1_2, .int .i64 a1_3]) (t := 48) ?_; intro gb276 hg w18 hbox hb; have BK276 := am (hbox); have GW276 := am ((Y12 : w.heap.size ≤ gb276)); have GE276 := am ((Y12 : w.heap.size ≤ gb276)); have NB275_276 := am ((Y19 : gb275 ≠ gb276)); have NB276_275 := am ((Y20 : gb276 ≠ gb275)); replace BK275 := am (blk_below (g := gb275) (o := .cells #[.int .i64 a0_0, .int .i64 a0_1, .int .i64 a0_2, .int .i64 a0_3] 48 (0, 0)) (kq BK275.out) hb); replace HB := am (below_step (Y21) hb); clear hb hbox hg; have hnb19 := NB275_276.out; have hnc19 := NB276_275.out; have hcz20_0 := bc0 BK275.out; have hcz20_1 := bc1 BK275.out; have hcz20_2 := bc2 BK275.out; have hcz20_3 := bc3 BK275.out; have hfz20_0 := blk_frozen BK275.out 0; have hfz20_1 := blk_frozen BK275.out 1; have hfz20_2 := blk_frozen BK275.out 2; have hfz20_3 := blk_frozen BK275.out 3; have hcz21_0 := bc0 BK276.out; have hcz21_1 := bc1 BK276.out; have hcz21_2 := bc2 BK276.out; have hcz21_3 := bc3 BK276.out; have hfz21_0 := blk_frozen BK276.out 0; have hfz21_1 := blk_frozen BK276.out 1; have hfz21_2 := blk_frozen BK276.out 2; have hfz21_3 := blk_frozen BK276.out 3))
    go_ret
    exact ⟨Y0, Y22⟩
  ·rw [if_neg c4] at H
   have c4b0 : (a0_1 == a1_1) = false := beq_eq_false_iff_ne.mpr c4
   have c4b1 : (a0_1 != a1_1) = true := bne_iff_ne.mpr c4
   obtain rfl := Option.some.inj H
   go_enter Try.func37, Try.ntmps37
   go_wp2_with (first | ((with_reducible refine gate_dst (N := 2) rfl ?_); refine bE (N := 2) (cs := #[.int .i64 a0_0, .int .i64 a0_1, .int .i64 a0_2, .int .i64 a0_3]) (t := 48) ?_; intro gb275 hg w22 hbox hb; have BK275 := am (hbox); have GW275 := am ((Y1 : w.heap.size ≤ gb275)); have GE275 := am ((Y1 : w.heap.size ≤ gb275)); replace HB := am (below_step (bq) hb); clear hb hbox hg) | ((with_reducible refine gate_dst (N := 3) rfl ?_); refine bE (N := 3) (cs := #[.int .i64 a1_0, .int .i64 a1_1, .int .i64 a1_2, .int .i64 a1_3]) (t := 48) ?_; intro gb276 hg w23 hbox hb; have BK276 := am (hbox); have GW276 := am ((Y12 : w.heap.size ≤ gb276)); have GE276 := am ((Y12 : w.heap.size ≤ gb276)); have NB275_276 := am ((Y19 : gb275 ≠ gb276)); have NB276_275 := am ((Y20 : gb276 ≠ gb275)); replace BK275 := am (blk_below (g := gb275) (o := .cells #[.int .i64 a0_0, .int .i64 a0_1, .int .i64 a0_2, .int .i64 a0_3] 48 (0, 0)) (kq BK275.out) hb); replace HB := am (below_step (Y21) hb); clear hb hbox hg; have hnb24 := NB275_276.out; have hnc24 := NB276_275.out; have hcz25_0 := bc0 BK275.out; have hcz25_1 := bc1 BK275.out; have hcz25_2 := bc2 BK275.out; have hcz25_3 := bc3 BK275.out; have hfz25_0 := blk_frozen BK275.out 0; have hfz25_1 := blk_frozen BK275.out 1; have hfz25_2 := blk_frozen BK275.out 2; have hfz25_3 := blk_frozen BK275.out 3; have hcz26_0 := bc0 BK276.out; have hcz26_1 := bc1 BK276.out; have hcz26_2 := bc2 BK276.out; have hcz26_3 := bc3 BK276.out; have hfz26_0 := blk_frozen BK276.out 0; have hfz26_1 := blk_frozen BK276.out 1; have hfz26_2 := blk_frozen BK276.out 2; have hfz26_3 := blk_frozen BK276.out 3))
   go_ret
   exact ⟨Y0, Y22⟩
 ·rw [if_neg c3] at H
  have c3b0 : (a0_0 == a1_0) = false := beq_eq_false_iff_ne.mpr c3
  have c3b1 : (a0_0 != a1_0) = true := bne_iff_ne.mpr c3
  obtain rfl := Option.some.inj H
  go_enter Try.func37, Try.ntmps37
  go_wp2_with (first | ((with_reducible refine gate_dst (N := 2) rfl ?_); refine bE (N := 2) (cs := #[.int .i64 a0_0, .int .i64 a0_1, .int .i64 a0_2, .int .i64 a0_3]) (t := 48) ?_; intro gb275 hg w27 hbox hb; have BK275 := am (hbox); have GW275 := am ((Y1 : w.heap.size ≤ gb275)); have GE275 := am ((Y1 : w.heap.size ≤ gb275)); replace HB := am (below_step (bq) hb); clear hb hbox hg) | ((with_reducible refine gate_dst (N := 3) rfl ?_); refine bE (N := 3) (cs := #[.int .i64 a1_0, .int .i64 a1_1, .int .i64 a1_2, .int .i64 a1_3]) (t := 48) ?_; intro gb276 hg w28 hbox hb; have BK276 := am (hbox); have GW276 := am ((Y12 : w.heap.size ≤ gb276)); have GE276 := am ((Y12 : w.heap.size ≤ gb276)); have NB275_276 := am ((Y19 : gb275 ≠ gb276)); have NB276_275 := am ((Y20 : gb276 ≠ gb275)); replace BK275 := am (blk_below (g := gb275) (o := .cells #[.int .i64 a0_0, .int .i64 a0_1, .int .i64 a0_2, .int .i64 a0_3] 48 (0, 0)) (kq BK275.out) hb); replace HB := am (below_step (Y21) hb); clear hb hbox hg; have hnb29 := NB275_276.out; have hnc29 := NB276_275.out; have hcz30_0 := bc0 BK275.out; have hcz30_1 := bc1 BK275.out; have hcz30_2 := bc2 BK275.out; have hcz30_3 := bc3 BK275.out; have hfz30_0 := blk_frozen BK275.out 0; have hfz30_1 := blk_frozen BK275.out 1; have hfz30_2 := blk_frozen BK275.out 2; have hfz30_3 := blk_frozen BK275.out 3; have hcz31_0 := bc0 BK276.out; have hcz31_1 := bc1 BK276.out; have hcz31_2 := bc2 BK276.out; have hcz31_3 := bc3 BK276.out; have hfz31_0 := blk_frozen BK276.out 0; have hfz31_1 := blk_frozen BK276.out 1; have hfz31_2 := blk_frozen BK276.out 2; have hfz31_3 := blk_frozen BK276.out 3))
  go_ret
  exact ⟨Y0, Y22⟩
end Go.Proofs.Ytbcjbcjpoddkoaa.P
end
