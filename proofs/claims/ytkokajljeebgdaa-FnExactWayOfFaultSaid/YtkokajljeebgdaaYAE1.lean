/- One part of the proofs on this program: functions of the program as plain functions, that the code comes to them, and facts on them. -/
import Derived.Test.YtkokajljeebgdaaYACDE1
import Derived.Test.YtkokajljeebgdaaYAll1
import Derived.Test.YtkokajljeebgdaaYAll3
import Derived.Test.YtkokajljeebgdaaYWAuto
section
namespace Go.Proofs.Ytkokajljeebgdaa.P
open Go.RowKit Go.Proofs.YtkokajljeebgdaaW.PrintWords Go.Proofs.YtkokajljeebgdaaW.PrintLast Go.Proofs.YtkokajljeebgdaaW.PrintMore
attribute [local go_sem] max2_int min2_int max_two min_two max_three min_three max_four min_four isSome_cell_setCell
set_option linter.unusedVariables false
set_option linter.unusedSimpArgs false
def spec_tryOf.l0 : Nat → List (S52) → Int → Option (Int)
 | 0, _, _ => none
 | k + 1, x0, x1 => if 0 ≤ x1 then (if x1 < (x0.length : Int) then (if ((rd_T52 x0 x1).f1) = 7 then (some x1) else ((spec_headOf.f k x0 x1).bind fun t200 => (spec_tryOf.l0 k x0 t200))) else (none)) else (none)
def spec_tryOf.f (k : Nat) (l0 : List (S52)) (a1 : Int) : Option (Int) := spec_tryOf.l0 k l0 a1
set_option maxHeartbeats 8000000 in
set_option maxRecDepth 100000 in
theorem spec_tryOf.calls (k : Nat) (A0 : Option Addr) (c0 : Nat) (l0 : List (S52)) (a1 : Int) (r : Int) (w : World) (hr0 : Kd.C k52 w A0 l0.length l0) (hc0 : l0.length ≤ c0) (h : spec_tryOf.f k l0 a1 = some r) :
  Calls Try.prog 74 #[.slice A0 l0.length c0, .int .i64 a1] w fun e w' => e = .returned (.int .i64 r) ∧ Drawn0 w w' := by
 have HR0 := am hr0
 have HC0 := am hc0
 clear hr0 hc0
 have H : (spec_tryOf.l0 k l0 a1) = some r := h
 clear h
 have H' := am H
 clear H
 go_enter Try.func74, Try.ntmps74
 go_wp2
 go_loopg [1] k (fun kq v1 w' => ∃ (x1_1 : Int), v1 = .int .i64 x1_1 ∧ Aside0 (spec_tryOf.l0 kq l0 x1_1 = some r) ∧ Aside0 (kq ≤ k) ∧ Drawn0 w w')
 case atStart => exact ⟨(a1), (sq), H', ⟨Nat.le_refl _⟩, q1⟩
 case round =>
  clear H'
  try clear p2
  obtain ⟨x1_1, rfl, HA, HK1, ⟨m1, rfl⟩⟩ := hrel
  cases gk with
  | zero => exact absurd HA.out (by simp [spec_tryOf.l0])
  | succ k1 =>
   have H := HA.out
   clear HA
   simp only [spec_tryOf.l0] at H
   by_cases c3 : 0 ≤ x1_1
   ·rw [if_pos c3] at H
    have c3b0 : decide (0 ≤ x1_1) = true := decide_eq_true c3
    clear c3
    by_cases c4 : x1_1 < (l0.length : Int)
    ·rw [if_pos c4] at H
     have c4b0 : decide (x1_1 < (l0.length : Int)) = true := decide_eq_true c4
     clear c4
     by_cases c5 : ((rd_T52 l0 x1_1).f1) = 7
     ·rw [if_pos c5] at H
      have c5b0 : (((rd_T52 l0 x1_1).f1) == 7) = true := beq_iff_eq.mpr c5
      have c5b1 : (((rd_T52 l0 x1_1).f1) != 7) = false := bne_eq_false_iff_eq.mpr c5
      clear c5
      obtain rfl := Option.some.inj H
      have p199 : 0 ≤ (x1_1 : Int) := of_decide_eq_true (uq)
      have q199 : x1_1 < (l0.length : Int) := of_decide_eq_true (uq)
      obtain ⟨ad199, e199, hx199_0, hx199_1, hx199_2, hx199_3⟩ := at_T52 HR0.out x1_1 p199 q199
      cases e199
      replace p199 := eq_true p199
      replace q199 := eq_true q199
      go_wp2
      go_ret
      exact ⟨sq, q1⟩
     ·rw [if_neg c5] at H
      have c5b0 : (((rd_T52 l0 x1_1).f1) == 7) = false := beq_eq_false_iff_ne.mpr c5
      have c5b1 : (((rd_T52 l0 x1_1).f1) != 7) = true := bne_iff_ne.mpr c5
      replace H := Option.bind_eq_some_iff.mp H
      obtain ⟨t200, A60, H⟩ := H
      replace H : (spec_tryOf.l0 k1 l0 t200) = some r := H
      have A6 := am A60
      clear A60
      have H' := am H
      clear H
      have p199 : 0 ≤ (x1_1 : Int) := of_decide_eq_true (uq)
      have q199 : x1_1 < (l0.length : Int) := of_decide_eq_true (uq)
      obtain ⟨ad199, e199, hx199_0, hx199_1, hx199_2, hx199_3⟩ := at_T52 HR0.out x1_1 p199 q199
      cases e199
      replace p199 := eq_true p199
      replace q199 := eq_true q199
      go_wp2_with (first | ((with_reducible refine gate_callee (f := 99) rfl ?_); refine goesL_ (some 13) rfl rfl Try.func99 (by kernel_rfl) rfl #[.slice (some ad199) l0.length c0, .int .i64 x1_1] rfl (aq) ?_; (with_reducible refine (spec_headOf.calls k1 _ _ l0 x1_1 t200 _ ?side1 ?side2 A6.out).mono ?_); (case side1 => exact q28); (case side2 => exact HC0.out); rintro e w' ⟨rfl, ⟨nd, rfl⟩⟩; refine ⟨_, rfl, ?_⟩))
      go_roundg k1
      case measure => have := HK1.out; omega
      case rel => exact ⟨(t200), (sq), H', ⟨by have := HK1.out; omega⟩, q1⟩
    ·rw [if_neg c4] at H
     exact absurd H (by simp)
   ·rw [if_neg c3] at H
    exact absurd H (by simp)
mutual
def impl_tryOf.l0 : Nat → List (S52) → Int → Int → Option (List Int)
 | 0, _, _, _ => none
 | k + 1, x0, x1, x5 => if x5 ≥ 0 then (if 0 ≤ x5 then (if x5 < (x0.length : Int) then (if ((rd_T52 x0 x5).f1) = 7 then (if 0 ≤ x1 then (if x1 < (x0.length : Int) then (impl_tryOf.j1 k x0 x1 x5 (((rd_T52 x0 x5).f0) == ((rd_T52 x0 x1).f0))) else (none)) else (none)) else (impl_tryOf.j1 k x0 x1 x5 false)) else (none)) else (none)) else (some ([] : List Int))
def impl_tryOf.j1 : Nat → List (S52) → Int → Int → Bool → Option (List Int)
 | 0, _, _, _, _ => none
 | k + 1, x0, x1, x5, x29 => if x29 = true then ((impl_tryFrom.f k x0 x5).bind fun t380 => ((slices_Clip_int_int.f t380).bind fun t383 => (some t383))) else (impl_tryOf.l0 k x0 x1 (wrap64 (x5 - 1)))
end
def impl_tryOf.f (k : Nat) (l0 : List (S52)) (a1 : Int) : Option (List Int) := impl_tryOf.l0 k l0 a1 a1
set_option maxHeartbeats 8000000 in
set_option maxRecDepth 100000 in
theorem impl_tryOf.calls (k : Nat) (A0 : Option Addr) (c0 : Nat) (l0 : List (S52)) (a1 : Int) (r : List Int) (w : World) (hr0 : Kd.C k52 w A0 l0.length l0) (hc0 : l0.length ≤ c0) (h : impl_tryOf.f k l0 a1 = some r) :
  Calls Try.prog 72 #[.slice A0 l0.length c0, .int .i64 a1] w fun e w' => ∃ v0_ : Value, e = .returned (v0_) ∧ Kd.R (Kd.int .i64) 3 w' w.heap.size (fun _ => True) v0_ r ∧ Below w.heap.size w w' := by
 have HR0 := am hr0
 have HC0 := am hc0
 clear hr0 hc0
 have HB := am (Below.refl w.heap.size w)
 have H : (impl_tryOf.l0 k l0 a1 a1) = some r := h
 clear h
 have H' := am H
 clear H
 go_enter Try.func72, Try.ntmps72
 go_wp2
 repeat (go_quiet (fail); try go_wp2)
 go_loopg [5] k (fun kq v5 w' => ∃ (x5_1 : Int), v5 = .int .i64 x5_1 ∧ Aside0 (impl_tryOf.l0 kq l0 a1 x5_1 = some r) ∧ Aside0 (kq ≤ k) ∧ Aside0 (Below w.heap.size w w'))
 case atStart => exact ⟨(a1), (sq), H', ⟨Nat.le_refl _⟩, ⟨bq⟩⟩
 case round =>
  clear H'
  try clear p2
  obtain ⟨x5_1, rfl, HA, HK1, HB⟩ := hrel
  cases gk with
  | zero => exact absurd HA.out (by simp [impl_tryOf.l0])
  | succ k1 =>
   have H := HA.out
   clear HA
   simp only [impl_tryOf.l0] at H
   by_cases c3 : x5_1 ≥ 0
   ·rw [if_pos c3] at H
    have c3b0 : decide (0 ≤ x5_1) = true := decide_eq_true c3
    clear c3
    have HC4 := am H
    clear H
    go_upto_region 4 with (fail)
    repeat (go_quiet (fail); go_upto_region 4 with (fail))
    go_cut [29] (fun v29 wc => ∃ (kq : Nat) (x29_3 : Bool), v29 = .bool x29_3 ∧ Aside0 (impl_tryOf.j1 kq l0 a1 x5_1 x29_3 = some r) ∧ Aside0 (kq ≤ k1) ∧ Aside0 (Below w.heap.size w wc))
    case first =>
     have H := HC4.out
     clear HC4
     by_cases c5 : 0 ≤ x5_1
     ·rw [if_pos c5] at H
      have c5b0 : decide (0 ≤ x5_1) = true := decide_eq_true c5
      clear c5
      (first | rw [c5b0] | (simp only [i64_w, i32_w]; rw [c5b0]) | skip)
      by_cases c6 : x5_1 < (l0.length : Int)
      ·rw [if_pos c6] at H
       have c6b0 : decide (x5_1 < (l0.length : Int)) = true := decide_eq_true c6
       clear c6
       by_cases c7 : ((rd_T52 l0 x5_1).f1) = 7
       ·rw [if_pos c7] at H
        have c7b0 : (((rd_T52 l0 x5_1).f1) == 7) = true := beq_iff_eq.mpr c7
        have c7b1 : (((rd_T52 l0 x5_1).f1) != 7) = false := bne_eq_false_iff_eq.mpr c7
        clear c7
        by_cases c8 : 0 ≤ a1
        ·rw [if_pos c8] at H
         have c8b0 : decide (0 ≤ a1) = true := decide_eq_true c8
         clear c8
         by_cases c9 : a1 < (l0.length : Int)
         ·rw [if_pos c9] at H
          have c9b0 : decide (a1 < (l0.length : Int)) = true := decide_eq_true c9
          clear c9
          have H' := am H
          clear H
          have p377 : 0 ≤ (x5_1 : Int) := of_decide_eq_true (uq)
          have q377 : x5_1 < (l0.length : Int) := of_decide_eq_true (uq)
          obtain ⟨ad377, e377, hx377_0, hx377_1, hx377_2, hx377_3⟩ := at_T52 HR0.out x5_1 p377 q377
          cases e377
          replace hx377_0 := cb HB.out hx377_0
          replace hx377_1 := cb HB.out hx377_1
          replace hx377_2 := cb HB.out hx377_2
          replace hx377_3 := cb HB.out hx377_3
          replace p377 := eq_true p377
          replace q377 := eq_true q377
          have p378 : 0 ≤ (x5_1 : Int) := of_decide_eq_true (uq)
          have q378 : x5_1 < (l0.length : Int) := of_decide_eq_true (uq)
          obtain ⟨ad378, e378, hx378_0, hx378_1, hx378_2, hx378_3⟩ := at_T52 HR0.out x5_1 p378 q378
          obtain rfl : ad377 = ad378 := (by injection e378)
          replace hx378_0 := cb HB.out hx378_0
          replace hx378_1 := cb HB.out hx378_1
          replace hx378_2 := cb HB.out hx378_2
          replace hx378_3 := cb HB.out hx378_3
          replace p378 := eq_true p378
          replace q378 := eq_true q378
          have p379 : 0 ≤ (a1 : Int) := of_decide_eq_true (uq)
          have q379 : a1 < (l0.length : Int) := of_decide_eq_true (uq)
          obtain ⟨ad379, e379, hx379_0, hx379_1, hx379_2, hx379_3⟩ := at_T52 HR0.out a1 p379 q379
          obtain rfl : ad377 = ad379 := (by injection e379)
          replace hx379_0 := cb HB.out hx379_0
          replace hx379_1 := cb HB.out hx379_1
          replace hx379_2 := cb HB.out hx379_2
          replace hx379_3 := cb HB.out hx379_3
          replace p379 := eq_true p379
          replace q379 := eq_true q379
          go_wp2
          repeat (go_quiet (fail); try go_wp2)
          go_meet
          case rel => exact ⟨_, ((((rd_T52 l0 x5_1).f0) == ((rd_T52 l0 a1).f0))), (sq), H', ⟨by have := HK1.out; first | omega | exact Nat.le_refl _⟩, ⟨bq⟩⟩
         ·rw [if_neg c9] at H
          exact absurd H (by simp)
        ·rw [if_neg c8] at H
         exact absurd H (by simp)
       ·rw [if_neg c7] at H
        have c7b0 : (((rd_T52 l0 x5_1).f1) == 7) = false := beq_eq_false_iff_ne.mpr c7
        have c7b1 : (((rd_T52 l0 x5_1).f1) != 7) = true := bne_iff_ne.mpr c7
        have H' := am H
        clear H
        have p377 : 0 ≤ (x5_1 : Int) := of_decide_eq_true (uq)
        have q377 : x5_1 < (l0.length : Int) := of_decide_eq_true (uq)
        obtain ⟨ad377, e377, hx377_0, hx377_1, hx377_2, hx377_3⟩ := at_T52 HR0.out x5_1 p377 q377
        cases e377
        replace hx377_0 := cb HB.out hx377_0
        replace hx377_1 := cb HB.out hx377_1
        replace hx377_2 := cb HB.out hx377_2
        replace hx377_3 := cb HB.out hx377_3
        replace p377 := eq_true p377
        replace q377 := eq_true q377
        go_wp2
        repeat (go_quiet (fail); try go_wp2)
        go_meet
        case rel => exact ⟨_, (false), (sq), H', ⟨by have := HK1.out; first | omega | exact Nat.le_refl _⟩, ⟨bq⟩⟩
      ·rw [if_neg c6] at H
       exact absurd H (by simp)
     ·rw [if_neg c5] at H
      exact absurd H (by simp)
    case rest =>
     clear HC4
     try clear p2
     try clear c3
     try clear c3b0
     try clear p3
     try clear q3
     try clear hx3
     try clear c5
     try clear c5b0
     try clear c6
     try clear c6b0
     try clear c7
     try clear c7b0
     try clear c7b1
     try clear c8
     try clear c8b0
     try clear c9
     try clear c9b0
     try clear hx377_0
     try clear hx377_1
     try clear hx377_2
     try clear hx377_3
     try clear hx378_0
     try clear hx378_1
     try clear hx378_2
     try clear hx378_3
     try clear hx379_0
     try clear hx379_1
     try clear hx379_2
     try clear hx379_3
     try clear p2
     try clear p377
     try clear p378
     try clear p379
     try clear q377
     try clear q378
     try clear q379
     obtain ⟨kq, x29_3, rfl, HA, HJ3, HB⟩ := hcut
     cases kq with
     | zero => exact absurd HA.out (by simp [impl_tryOf.j1])
     | succ kj3 =>
      have H := HA.out
      clear HA
      simp only [impl_tryOf.j1] at H
      by_cases c10 : x29_3 = true
      ·subst c10
       have H1 : ((impl_tryFrom.f kj3 l0 x5_1).bind fun t380 => ((slices_Clip_int_int.f t380).bind fun t383 => (some t383))) = some r := by rw [if_pos rfl] at H; exact H
       clear H
       have H := H1
       clear H1
       replace H := Option.bind_eq_some_iff.mp H
       obtain ⟨t380, A110, H⟩ := H
       replace H : ((slices_Clip_int_int.f t380).bind fun t383 => (some t383)) = some r := H
       have A11 := am A110
       clear A110
       replace H := Option.bind_eq_some_iff.mp H
       obtain ⟨t383, A120, H⟩ := H
       replace H : (some t383) = some r := H
       have A12 := am A120
       clear A120
       obtain rfl := Option.some.inj H
       go_wp2_with (first | (go_at_call 80; (with_reducible refine (impl_tryFrom.calls kj3 _ _ l0 x5_1 t380 _ ?side1 ?side2 A11.out).mono ?_); (case side1 => exact cq (Kd.C_below HR0.out HB.out)); (case side2 => exact HC0.out); rintro e w13 ⟨v381, rfl, ho0, hb⟩; have HO382 := am (Kd.R_lower ho0 (below_size (bq))); replace HB := am (below_step (bq) hb); (try clear hb); (try clear hb2); (try clear hk); (try clear hi); (try clear ho0); obtain ⟨Ao14, co14, eo14⟩ := Kd.R_slice HO382.out; subst eo14) | (go_at_call 82; (with_reducible refine (slices_Clip_int_int.calls (fun k_ => some k_ = (.slice Ao14 t380.length co14 : Value).ownBlock) (.slice Ao14 t380.length co14) t380 t383 w _ ?side1 ?side2 A12.out).mono ?_); (case side1 => exact q79); (case side2 => exact Kd.R_tight rfl HO382.out); rintro e w15 ⟨v384, rfl, ho0, hb, hkp⟩; have n0_ := am (Kd.R_mono (ok' := fun k_ => True) ho0 (fun k_ hk_ => trivial)); have n1_ := am (hb); clear HB HO382; have HO385 := n0_; have HB := n1_; clear n0_ n1_; (try clear hb); (try clear hkp); (try clear ho0)))
       repeat (go_quiet (first | (go_at_call 80; (with_reducible refine (impl_tryFrom.calls kj3 _ _ l0 x5_1 t380 _ ?side1 ?side2 A11.out).mono ?_); (case side1 => exact cq (Kd.C_below HR0.out HB.out)); (case side2 => exact HC0.out); rintro e w13 ⟨v381, rfl, ho0, hb⟩; have HO382 := am (Kd.R_lower ho0 (below_size (bq))); replace HB := am (below_step (bq) hb); (try clear hb); (try clear hb2); (try clear hk); (try clear hi); (try clear ho0); obtain ⟨Ao14, co14, eo14⟩ := Kd.R_slice HO382.out; subst eo14) | (go_at_call 82; (with_reducible refine (slices_Clip_int_int.calls (fun k_ => some k_ = (.slice Ao14 t380.length co14 : Value).ownBlock) (.slice Ao14 t380.length co14) t380 t383 w _ ?side1 ?side2 A12.out).mono ?_); (case side1 => exact q79); (case side2 => exact Kd.R_tight rfl HO382.out); rintro e w15 ⟨v384, rfl, ho0, hb, hkp⟩; have n0_ := am (Kd.R_mono (ok' := fun k_ => True) ho0 (fun k_ hk_ => trivial)); have n1_ := am (hb); clear HB HO382; have HO385 := n0_; have HB := n1_; clear n0_ n1_; (try clear hb); (try clear hkp); (try clear ho0))); try go_wp2_with (first | (go_at_call 80; (with_reducible refine (impl_tryFrom.calls kj3 _ _ l0 x5_1 t380 _ ?side1 ?side2 A11.out).mono ?_); (case side1 => exact cq (Kd.C_below HR0.out HB.out)); (case side2 => exact HC0.out); rintro e w13 ⟨v381, rfl, ho0, hb⟩; have HO382 := am (Kd.R_lower ho0 (below_size (bq))); replace HB := am (below_step (bq) hb); (try clear hb); (try clear hb2); (try clear hk); (try clear hi); (try clear ho0); obtain ⟨Ao14, co14, eo14⟩ := Kd.R_slice HO382.out; subst eo14) | (go_at_call 82; (with_reducible refine (slices_Clip_int_int.calls (fun k_ => some k_ = (.slice Ao14 t380.length co14 : Value).ownBlock) (.slice Ao14 t380.length co14) t380 t383 w _ ?side1 ?side2 A12.out).mono ?_); (case side1 => exact q79); (case side2 => exact Kd.R_tight rfl HO382.out); rintro e w15 ⟨v384, rfl, ho0, hb, hkp⟩; have n0_ := am (Kd.R_mono (ok' := fun k_ => True) ho0 (fun k_ hk_ => trivial)); have n1_ := am (hb); clear HB HO382; have HO385 := n0_; have HB := n1_; clear n0_ n1_; (try clear hb); (try clear hkp); (try clear ho0))))
       go_ret
       exact ⟨_, q0, rq HO385.out, bq⟩
      ·replace c10 := Bool.eq_false_iff.mpr c10
       subst c10
       have H1 : (impl_tryOf.l0 kj3 l0 a1 (wrap64 (x5_1 - 1))) = some r := by rw [if_neg (show ¬ (false = true) by decide)] at H; exact H
       clear H
       have H := H1
       clear H1
       have H' := am H
       clear H
       go_wp2
       repeat (go_quiet (fail); try go_wp2)
       go_roundg kj3
       case measure => have := HK1.out; have := HJ3.out; omega
       case rel => exact ⟨(wrap64 (x5_1 - 1)), (sq), H', ⟨by have := HK1.out; have := HJ3.out; omega⟩, ⟨bq⟩⟩
   ·rw [if_neg c3] at H
    have c3b0 : decide (0 ≤ x5_1) = false := decide_eq_false c3
    clear c3
    obtain rfl := Option.some.inj H
    go_wp2
    repeat (go_quiet (fail); try go_wp2)
    go_ret
    exact ⟨_, q0, q49, bq⟩
end Go.Proofs.Ytkokajljeebgdaa.P
end
