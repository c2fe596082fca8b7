/- One part of the proofs on this program: functions of the program as plain functions, that the code comes to them, and facts on them. -/
import Derived.Test.YtkokajljeebgdaaYAll1
import Derived.Test.YtkokajljeebgdaaYAll2
import Derived.Test.YtkokajljeebgdaaYAll3
import Derived.Test.YtkokajljeebgdaaYB1
import Derived.Test.YtkokajljeebgdaaYB4
import Derived.Test.YtkokajljeebgdaaYWAuto
section
namespace Go.Proofs.Ytkokajljeebgdaa.P
open Go.RowKit Go.Proofs.YtkokajljeebgdaaW.PrintWords Go.Proofs.YtkokajljeebgdaaW.PrintLast Go.Proofs.YtkokajljeebgdaaW.PrintMore
attribute [local go_sem] max2_int min2_int max_two min_two max_three min_three max_four min_four isSome_cell_setCell
set_option linter.unusedVariables false
set_option linter.unusedSimpArgs false
mutual
def impl_tryOf.l0 : Nat → List (S52) → Int → Int → Option (List Int)
 | 0, _, _, _ => none
 | k + 1, x0, x1, x5 => if x5 ≥ 0 then (if 0 ≤ x5 then (if x5 < (x0.length : Int) then (if ((rd_T52 x0 x5).f1) = 7 then (if 0 ≤ x1 then (if x1 < (x0.length : Int) then (impl_tryOf.j1 k x0 x1 x5 (((rd_T52 x0 x5).f0) == ((rd_T52 x0 x1).f0))) else (none)) else (none)) else (impl_tryOf.j1 k x0 x1 x5 false)) else (none)) else (none)) else (some ([] : List Int))
def impl_tryOf.j1 : Nat → List (S52) → Int → Int → Bool → Option (List Int)
 | 0, _, _, _, _ => none
 | k + 1, x0, x1, x5, x29 => if x29 = true then ((impl_tryFrom.f k x0 x5).bind fun t380 => ((slices_Clip_int_int.f t380).bind fun t383 => (some t383))) else (impl_tryOf.l0 k x0 x1 (wrap64 (x5 - 1)))
end
def impl_tryOf.f (k : Nat) (l0 : List (S52)) (a1 : Int) : Option (List Int) := impl_tryOf.l0 k l0 a1 a1
set_option maxHeartbeats 8000000 in
set_option maxRecDepth 100000 in
theorem impl_tryOf.calls (k : Nat) (A0 : Option Addr) (c0 : Nat) (l0 : List (S52)) (a1 : Int) (r : List Int) (w : World) (hr0 : Kd.C k52 w A0 l0.length l0) (hc0 : l0.length ≤ c0) (h : impl_tryOf.f k l0 a1 = some r) :
  Calls Try.prog 72 #[.slice A0 l0.length c0, .int .i64 a1] w fun e w' => ∃ v0_ : Value, e = .returned (v0_) ∧ Kd.R (Kd.int .i64) 3 w' w.heap.size (fun _ => True) v0_ r ∧ Below w.heap.size w w' := by
 have HR0 := am hr0
 have HC0 := am hc0
 clear hr0 hc0
 have HB := am (Below.refl w.heap.size w)
 have H : (impl_tryOf.l0 k l0 a1 a1) = some r := h
 clear h
 have H' := am H
 clear H
 go_enter Try.func72, Try.ntmps72
 go_wp2
 repeat (go_quiet (fail); try go_wp2)
 go_loopg [5] k (fun kq v5 w' => ∃ (x5_1 : Int), v5 = .int .i64 x5_1 ∧ Aside0 (impl_tryOf.l0 kq l0 a1 x5_1 = some r) ∧ Aside0 (kq ≤ k) ∧ Aside0 (Below w.heap.size w w'))
 case atStart => exact ⟨(a1), (sq), H', ⟨Nat.le_refl _⟩, ⟨bq⟩⟩
 case round =>
  clear H'
  try clear p2
  obtain ⟨x5_1, rfl, HA, HK1, HB⟩ := hrel
  cases gk with
  | zero => exact absurd HA.out (by simp [impl_tryOf.l0])
  | succ k1 =>
   have H := HA.out
   clear HA
   simp only [impl_tryOf.l0] at H
   by_cases c3 : x5_1 ≥ 0
   ·rw [if_pos c3] at H
    have c3b0 : decide (0 ≤ x5_1) = true := decide_eq_true c3
    clear c3
    have HC4 := am H
    clear H
    go_upto_region 4 with (fail)
    repeat (go_quiet (fail); go_upto_region 4 with (fail))
    go_cut [29] (fun v29 wc => ∃ (kq : Nat) (x29_3 : Bool), v29 = .bool x29_3 ∧ Aside0 (impl_tryOf.j1 kq l0 a1 x5_1 x29_3 = some r) ∧ Aside0 (kq ≤ k1) ∧ Aside0 (Below w.heap.size w wc))
    case first =>
     have H := HC4.out
     clear HC4
     by_cases c5 : 0 ≤ x5_1
     ·rw [if_pos c5] at H
      have c5b0 : decide (0 ≤ x5_1) = true := decide_eq_true c5
      clear c5
      (first | rw [c5b0] | (simp only [i64_w, i32_w]; rw [c5b0]) | skip)
      by_cases c6 : x5_1 < (l0.length : Int)
      ·rw [if_pos c6] at H
       have c6b0 : decide (x5_1 < (l0.length : Int)) = true := decide_eq_true c6
       clear c6
       by_cases c7 : ((rd_T52 l0 x5_1).f1) = 7
       ·rw [if_pos c7] at H
        have c7b0 : (((rd_T52 l0 x5_1).f1) == 7) = true := beq_iff_eq.mpr c7
        have c7b1 : (((rd_T52 l0 x5_1).f1) != 7) = false := bne_eq_false_iff_eq.mpr c7
        clear c7
        by_cases c8 : 0 ≤ a1
        ·rw [if_pos c8] at H
         have c8b0 : decide (0 ≤ a1) = true := decide_eq_true c8
         clear c8
         by_cases c9 : a1 < (l0.length : Int)
         ·rw [if_pos c9] at H
          have c9b0 : decide (a1 < (l0.length : Int)) = true := decide_eq_true c9
          clear c9
          have H' := am H
          clear H
          have p377 : 0 ≤ (x5_1 : Int) := of_decide_eq_true (uq)
          have q377 : x5_1 < (l0.length : Int) := of_decide_eq_true (uq)
          obtain ⟨ad377, e377, hx377_0, hx377_1, hx377_2, hx377_3⟩ := at_T52 HR0.out x5_1 p377 q377
          cases e377
          replace hx377_0 := cb HB.out hx377_0
          replace hx377_1 := cb HB.out hx377_1
          replace hx377_2 := cb HB.out hx377_2
          replace hx377_3 := cb HB.out hx377_3
          replace p377 := eq_true p377
          replace q377 := eq_true q377
          have p378 : 0 ≤ (x5_1 : Int) := of_decide_eq_true (uq)
          have q378 : x5_1 < (l0.length : Int) := of_decide_eq_true (uq)
          obtain ⟨ad378, e378, hx378_0, hx378_1, hx378_2, hx378_3⟩ := at_T52 HR0.out x5_1 p378 q378
          obtain rfl : ad377 = ad378 := (by injection e378)
          replace hx378_0 := cb HB.out hx378_0
          replace hx378_1 := cb HB.out hx378_1
          replace hx378_2 := cb HB.out hx378_2
          replace hx378_3 := cb HB.out hx378_3
          replace p378 := eq_true p378
          replace q378 := eq_true q378
          have p379 : 0 ≤ (a1 : Int) := of_decide_eq_true (uq)
          have q379 : a1 < (l0.length : Int) := of_decide_eq_true (uq)
          obtain ⟨ad379, e379, hx379_0, hx379_1, hx379_2, hx379_3⟩ := at_T52 HR0.out a1 p379 q379
          obtain rfl : ad377 = ad379 := (by injection e379)
          replace hx379_0 := cb HB.out hx379_0
          replace hx379_1 := cb HB.out hx379_1
          replace hx379_2 := cb HB.out hx379_2
          replace hx379_3 := cb HB.out hx379_3
          replace p379 := eq_true p379
          replace q379 := eq_true q379
          go_wp2
          repeat (go_quiet (fail); try go_wp2)
          go_meet
          case rel => exact ⟨_, ((((rd_T52 l0 x5_1).f0) == ((rd_T52 l0 a1).f0))), (sq), H', ⟨by have := HK1.out; first | omega | exact Nat.le_refl _⟩, ⟨bq⟩⟩
         ·rw [if_neg c9] at H
          exact absurd H (by simp)
        ·rw [if_neg c8] at H
         exact absurd H (by simp)
       ·rw [if_neg c7] at H
        have c7b0 : (((rd_T52 l0 x5_1).f1) == 7) = false := beq_eq_false_iff_ne.mpr c7
        have c7b1 : (((rd_T52 l0 x5_1).f1) != 7) = true := bne_iff_ne.mpr c7
        have H' := am H
        clear H
        have p377 : 0 ≤ (x5_1 : Int) := of_decide_eq_true (uq)
        have q377 : x5_1 < (l0.length : Int) := of_decide_eq_true (uq)
        obtain ⟨ad377, e377, hx377_0, hx377_1, hx377_2, hx377_3⟩ := at_T52 HR0.out x5_1 p377 q377
        cases e377
        replace hx377_0 := cb HB.out hx377_0
        replace hx377_1 := cb HB.out hx377_1
        replace hx377_2 := cb HB.out hx377_2
        replace hx377_3 := cb HB.out hx377_3
        replace p377 := eq_true p377
        replace q377 := eq_true q377
        go_wp2
        repeat (go_quiet (fail); try go_wp2)
        go_meet
        case rel => exact ⟨_, (false), (sq), H', ⟨by have := HK1.out; first | omega | exact Nat.le_refl _⟩, ⟨bq⟩⟩
      ·rw [if_neg c6] at H
       exact absurd H (by simp)
     ·rw [if_neg c5] at H
      exact absurd H (by simp)
    case rest =>
     clear HC4
     try clear p2
     try clear c3
     try clear c3b0
     try clear p3
     try clear q3
     try clear hx3
     try clear c5
     try clear c5b0
     try clear c6
     try clear c6b0
     try clear c7
     try clear c7b0
     try clear c7b1
     try clear c8
     try clear c8b0
     try clear c9
     try clear c9b0
     try clear hx377_0
     try clear hx377_1
     try clear hx377_2
     try clear hx377_3
     try clear hx378_0
     try clear hx378_1
     try clear hx378_2
     try clear hx378_3
     try clear hx379_0
     try clear hx379_1
     try clear hx379_2
     try clear hx379_3
     try clear p2
     try clear p377
     try clear p378
     try clear p379
     try clear q377
     try clear q378
     try clear q379
     obtain ⟨kq, x29_3, rfl, HA, HJ3, HB⟩ := hcut
     cases kq with
     | zero => exact absurd HA.out (by simp [impl_tryOf.j1])
     | succ kj3 =>
      have H := HA.out
      clear HA
      simp only [impl_tryOf.j1] at H
      by_cases c10 : x29_3 = true
      ·subst c10
       have H1 : ((impl_tryFrom.f kj3 l0 x5_1).bind fun t380 => ((slices_Clip_int_int.f t380).bind fun t383 => (some t383))) = some r := by rw [if_pos rfl] at H; exact H
       clear H
       have H := H1
       clear H1
       replace H := Option.bind_eq_some_iff.mp H
       obtain ⟨t380, A110, H⟩ := H
       replace H : ((slices_Clip_int_int.f t380).bind fun t383 => (some t383)) = some r := H
       have A11 := am A110
       clear A110
       replace H := Option.bind_eq_some_iff.mp H
       obtain ⟨t383, A120, H⟩ := H
       replace H : (some t383) = some r := H
       have A12 := am A120
       clear A120
       obtain rfl := Option.some.inj H
       go_wp2_with (first | (go_at_call 80; (with_reducible refine (impl_tryFrom.calls kj3 _ _ l0 x5_1 t380 _ ?side1 ?side2 A11.out).mono ?_); (case side1 => exact cq (Kd.C_below HR0.out HB.out)); (case side2 => exact HC0.out); rintro e w13 ⟨v381, rfl, ho0, hb⟩; have HO382 := am (Kd.R_lower ho0 (below_size (bq))); replace HB := am (below_step (bq) hb); (try clear hb); (try clear hb2); (try clear hk); (try clear hi); (try clear ho0); obtain ⟨Ao14, co14, eo14⟩ := Kd.R_slice HO382.out; subst eo14) | (go_at_call 82; (with_reducible refine (slices_Clip_int_int.calls (fun k_ => some k_ = (.slice Ao14 t380.length co14 : Value).ownBlock) (.slice Ao14 t380.length co14) t380 t383 w _ ?side1 ?side2 A12.out).mono ?_); (case side1 => exact Y129); (case side2 => exact Kd.R_tight rfl HO382.out); rintro e w15 ⟨v384, rfl, ho0, hb, hkp⟩; have n0_ := am (Kd.R_mono (ok' := fun k_ => True) ho0 (fun k_ hk_ => trivial)); have n1_ := am (hb); clear HB HO382; have HO385 := n0_; have HB := n1_; clear n0_ n1_; (try clear hb); (try clear hkp); (try clear ho0)))
       repeat (go_quiet (first | (go_at_call 80; (with_reducible refine (impl_tryFrom.calls kj3 _ _ l0 x5_1 t380 _ ?side1 ?side2 A11.out).mono ?_); (case side1 => exact cq (Kd.C_below HR0.out HB.out)); (case side2 => exact HC0.out); rintro e w13 ⟨v381, rfl, ho0, hb⟩; have HO382 := am (Kd.R_lower ho0 (below_size (bq))); replace HB := am (below_step (bq) hb); (try clear hb); (try clear hb2); (try clear hk); (try clear hi); (try clear ho0); obtain ⟨Ao14, co14, eo14⟩ := Kd.R_slice HO382.out; subst eo14) | (go_at_call 82; (with_reducible refine (slices_Clip_int_int.calls (fun k_ => some k_ = (.slice Ao14 t380.length co14 : Value).ownBlock) (.slice Ao14 t380.length co14) t380 t383 w _ ?side1 ?side2 A12.out).mono ?_); (case side1 => exact Y129); (case side2 => exact Kd.R_tight rfl HO382.out); rintro e w15 ⟨v384, rfl, ho0, hb, hkp⟩; have n0_ := am (Kd.R_mono (ok' := fun k_ => True) ho0 (fun k_ hk_ => trivial)); have n1_ := am (hb); clear HB HO382; have HO385 := n0_; have HB := n1_; clear n0_ n1_; (try clear hb); (try clear hkp); (try clear ho0))); try go_wp2_with (first | (go_at_call 80; (with_reducible refine (impl_tryFrom.calls kj3 _ _ l0 x5_1 t380 _ ?side1 ?side2 A11.out).mono ?_); (case side1 => exact cq (Kd.C_below HR0.out HB.out)); (case side2 => exact HC0.out); rintro e w13 ⟨v381, rfl, ho0, hb⟩; have HO382 := am (Kd.R_lower ho0 (below_size (bq))); replace HB := am (below_step (bq) hb); (try clear hb); (try clear hb2); (try clear hk); (try clear hi); (try clear ho0); obtain ⟨Ao14, co14, eo14⟩ := Kd.R_slice HO382.out; subst eo14) | (go_at_call 82; (with_reducible refine (slices_Clip_int_int.calls (fun k_ => some k_ = (.slice Ao14 t380.length co14 : Value).ownBlock) (.slice Ao14 t380.length co14) t380 t383 w _ ?side1 ?side2 A12.out).mono ?_); (case side1 => exact Y129); (case side2 => exact Kd.R_tight rfl HO382.out); rintro e w15 ⟨v384, rfl, ho0, hb, hkp⟩; have n0_ := am (Kd.R_mono (ok' := fun k_ => True) ho0 (fun k_ hk_ => trivial)); have n1_ := am (hb); clear HB HO382; have HO385 := n0_; have HB := n1_; clear n0_ n1_; (try clear hb); (try clear hkp); (try clear ho0))))
       go_ret
       exact ⟨_, Y0, rq HO385.out, bq⟩
      ·replace c10 := Bool.eq_false_iff.mpr c10
       subst c10
       have H1 : (impl_tryOf.l0 kj3 l0 a1 (wrap64 (x5_1 - 1))) = some r := by rw [if_neg (show ¬ (false = true) by decide)] at H; exact H
       clear H
       have H := H1
       clear H1
       have H' := am H
       clear H
       go_wp2
       repeat (go_quiet (fail); try go_wp2)
       go_roundg kj3
       case measure => have := HK1.out; have := HJ3.out; omega
       case rel => exact ⟨(wrap64 (x5_1 - 1)), (sq), H', ⟨by have := HK1.out; have := HJ3.out; omega⟩, ⟨bq⟩⟩
   ·rw [if_neg c3] at H
    have c3b0 : decide (0 ≤ x5_1) = false := decide_eq_false c3
    clear c3
    obtain rfl := Option.some.inj H
    go_wp2
    repeat (go_quiet (fail); try go_wp2)
    go_ret
    exact ⟨_, Y0, Y55, bq⟩
def impl_TryOf.f (k : Nat) (l0_0 : List (S87)) (l1 : List (S52)) (a2 : Int) : Option (List Int) := (impl_lineIn.f k l0_0 l1 a2).bind fun t1072 => (if t1072 = true then (if 0 ≤ a2 then (if a2 < (l1.length : Int) then ((impl_within.f ((rd_T52 l1 a2).f1) 7 10).bind fun t1074 => (if t1074 = true then ((impl_tryOf.f k l1 a2).bind fun t1075 => (some t1075)) else (some ([] : List Int)))) else (none)) else (none)) else (some ([] : List Int)))
set_option maxHeartbeats 8000000 in
set_option maxRecDepth 100000 in
theorem impl_TryOf.calls (k : Nat) (A0_0 : Option Addr) (c0_0 : Nat) (l0_0 : List (S87)) (A1 : Option Addr) (c1 : Nat) (l1 : List (S52)) (a2 : Int) (r : List Int) (w : World) (hr0_0 : Kd.C k87 w A0_0 l0_0.length l0_0) (hc0_0 : l0_0.length ≤ c0_0) (hr1 : Kd.C k52 w A1 l1.length l1) (hc1 : l1.length ≤ c1) (h : impl_TryOf.f k l0_0 l1 a2 = some r) :
  Calls Try.prog 35 #[.agg #[.slice A0_0 l0_0.length c0_0], .slice A1 l1.length c1, .int .i64 a2] w fun e w' => ∃ v0_ : Value, e = .returned (v0_) ∧ Kd.R (Kd.int .i64) 3 w' w.heap.size (fun _ => True) v0_ r ∧ Below w.heap.size w w' := by
 have hu32 := Try.underlying32
 have HR0_0 := am hr0_0
 have HC0_0 := am hc0_0
 clear hr0_0 hc0_0
 have HR1 := am hr1
 have HC1 := am hc1
 clear hr1 hc1
 have HB := am (Below.refl w.heap.size w)
 have H : ((impl_lineIn.f k l0_0 l1 a2).bind fun t1072 => (if t1072 = true then (if 0 ≤ a2 then (if a2 < (l1.length : Int) then ((impl_within.f ((rd_T52 l1 a2).f1) 7 10).bind fun t1074 => (if t1074 = true then ((impl_tryOf.f k l1 a2).bind fun t1075 => (some t1075)) else (some ([] : List Int)))) else (none)) else (none)) else (some ([] : List Int)))) = some r := h
 clear h
 replace H := Option.bind_eq_some_iff.mp H
 obtain ⟨t1072, A40, H⟩ := H
 replace H : (if t1072 = true then (if 0 ≤ a2 then (if a2 < (l1.length : Int) then ((impl_within.f ((rd_T52 l1 a2).f1) 7 10).bind fun t1074 => (if t1074 = true then ((impl_tryOf.f k l1 a2).bind fun t1075 => (some t1075)) else (some ([] : List Int)))) else (none)) else (none)) else (some ([] : List Int))) = some r := H
 have A4 := am A40
 clear A40
 by_cases c5 : t1072 = true
 ·subst c5
  have H1 : (if 0 ≤ a2 then (if a2 < (l1.length : Int) then ((impl_within.f ((rd_T52 l1 a2).f1) 7 10).bind fun t1074 => (if t1074 = true then ((impl_tryOf.f k l1 a2).bind fun t1075 => (some t1075)) else (some ([] : List Int)))) else (none)) else (none)) = some r := by rw [if_pos rfl] at H; exact H
  clear H
  have H := H1
  clear H1
  by_cases c6 : 0 ≤ a2
  ·rw [if_pos c6] at H
   have c6b0 : decide (0 ≤ a2) = true := decide_eq_true c6
   clear c6
   by_cases c7 : a2 < (l1.length : Int)
   ·rw [if_pos c7] at H
    have c7b0 : decide (a2 < (l1.length : Int)) = true := decide_eq_true c7
    clear c7
    replace H := Option.bind_eq_some_iff.mp H
    obtain ⟨t1074, A80, H⟩ := H
    replace H : (if t1074 = true then ((impl_tryOf.f k l1 a2).bind fun t1075 => (some t1075)) else (some ([] : List Int))) = some r := H
    have A8 := am A80
    clear A80
    by_cases c9 : t1074 = true
    ·subst c9
     have H1 : ((impl_tryOf.f k l1 a2).bind fun t1075 => (some t1075)) = some r := by rw [if_pos rfl] at H; exact H
     clear H
     have H := H1
     clear H1
     replace H := Option.bind_eq_some_iff.mp H
     obtain ⟨t1075, A100, H⟩ := H
     replace H : (some t1075) = some r := H
     have A10 := am A100
     clear A100
     obtain rfl := Option.some.inj H
     go_enter Try.func35, Try.ntmps35
     go_wp2_with (first | ((with_reducible refine gate_dst (N := 3) rfl ?_); refine bE (N := 3) (cs := #[.slice A0_0 l0_0.length c0_0]) (t := 32) ?_; intro gb1071 hg w11 hbox hb; have BK1071 := am (hbox); have GW1071 := am ((Y1 : w.heap.size ≤ gb1071)); have GE1071 := am ((Y1 : w.heap.size ≤ gb1071)); replace HB := am (below_step (bq) hb); clear hb hbox hg; have hcz12_0 := bc0 BK1071.out; have hfz12_0 := blk_frozen BK1071.out 0) | ((with_reducible refine gate_callee (f := 48) rfl ?_); refine gL (some 10) Try.func48 #[.agg #[.slice A0_0 l0_0.length c0_0], .slice A1 l1.length c1, .int .i64 a2] ?_; (with_reducible refine (impl_lineIn.calls k _ _ l0_0 _ _ l1 a2 true _ ?side1 ?side2 ?side3 ?side4 A4.out).mono ?_); (case side1 => exact cq (Kd.C_below HR0_0.out HB.out)); (case side2 => exact HC0_0.out); (case side3 => exact cq (Kd.C_below HR1.out HB.out)); (case side4 => exact HC1.out); rintro e w13 ⟨rfl, hb⟩; refine ⟨_, rfl, ?_⟩; replace BK1071 := am (blk_below (g := gb1071) (o := .cells #[.slice A0_0 l0_0.length c0_0] 32 (0, 0)) (kq BK1071.out) hb); replace HB := am (below_step (Y70) hb); (try clear hb); (try clear hb2); (try clear hk); (try clear hi); have p1073 : 0 ≤ (a2 : Int) := of_decide_eq_true (uq); have q1073 : a2 < (l1.length : Int) := of_decide_eq_true (uq); obtain ⟨ad1073, e1073, hx1073_0, hx1073_1, hx1073_2, hx1073_3⟩ := at_T52 HR1.out a2 p1073 q1073; cases e1073; replace hx1073_0 := cb HB.out hx1073_0; replace hx1073_1 := cb HB.out hx1073_1; replace hx1073_2 := cb HB.out hx1073_2; replace hx1073_3 := cb HB.out hx1073_3; replace p1073 := eq_true p1073; replace q1073 := eq_true q1073) | (go_at_call 66; (with_reducible refine (impl_within.calls ((rd_T52 l1 a2).f1) 7 10 true _ A8.out).mono ?_); rintro e w' ⟨rfl, ⟨nd, rfl⟩⟩) | ((with_reducible refine gate_callee (f := 72) rfl ?_); refine gL (some 23) Try.func72 #[.slice (some ad1073) l1.length c1, .int .i64 a2] ?_; (with_reducible refine (impl_tryOf.calls k _ _ l1 a2 t1075 _ ?side1 ?side2 A10.out).mono ?_); (case side1 => repeat (first | exact (Kd.C_below HR1.out (by repeat (first | (with_reducible first | exact HB.out | apply below_alloc | apply pw_below_drewN | apply below_drew1 | refine below_set ?_ GE1071.out) | exact HB.out))) | (with_reducible refine Kd.C_alloc ?_ _) | (with_reducible refine Kd.C_drewN ?_ _) | (with_reducible refine Kd.C_drew ?_))); (case side2 => exact HC1.out); rintro e w14 ⟨v1076, rfl, ho0, hb⟩; refine ⟨_, rfl, ?_⟩; have HO1077 := am (Kd.R_lower ho0 (below_size (Y70))); replace BK1071 := am (blk_below (g := gb1071) (o := .cells #[.slice A0_0 l0_0.length c0_0] 32 (0, 0)) (kq BK1071.out) hb); replace HB := am (below_step (Y70) hb); (try clear hb); (try clear hb2); (try clear hk); (try clear hi); (try clear ho0)))
     go_ret
     exact ⟨_, Y0, rq HO1077.out, Y70⟩
    ·replace c9 := Bool.eq_false_iff.mpr c9
     subst c9
     have H1 : (some ([] : List Int)) = some r := by rw [if_neg (show ¬ (false = true) by decide)] at H; exact H
     clear H
     have H := H1
     clear H1
     obtain rfl := Option.some.inj H
     go_enter Try.func35, Try.ntmps35
     go_wp2_with (first | ((with_reducible refine gate_dst (N := 3) rfl ?_); refine bE (N := 3) (cs := #[.slice A0_0 l0_0.length c0_0]) (t := 32) ?_; intro gb1071 hg w15 hbox hb; have BK1071 := am (hbox); have GW1071 := am ((Y1 : w.heap.size ≤ gb1071)); have GE1071 := am ((Y1 : w.heap.size ≤ gb1071)); replace HB := am (below_step (bq) hb); clear hb hbox hg; have hcz16_0 := bc0 BK1071.out; have hfz16_0 := blk_frozen BK1071.out 0) | ((with_reducible refine gate_callee (f := 48) rfl ?_); refine gL (some 10) Try.func48 #[.agg #[.slice A0_0 l0_0.length c0_0], .slice A1 l1.length c1, .int .i64 a2] ?_; (with_reducible refine (impl_lineIn.calls k _ _ l0_0 _ _ l1 a2 true _ ?side1 ?side2 ?side3 ?side4 A4.out).mono ?_); (case side1 => exact cq (Kd.C_below HR0_0.out HB.out)); (case side2 => exact HC0_0.out); (case side3 => exact cq (Kd.C_below HR1.out HB.out)); (case side4 => exact HC1.out); rintro e w17 ⟨rfl, hb⟩; refine ⟨_, rfl, ?_⟩; replace BK1071 := am (blk_below (g := gb1071) (o := .cells #[.slice A0_0 l0_0.length c0_0] 32 (0, 0)) (kq BK1071.out) hb); replace HB := am (below_step (Y70) hb); (try clear hb); (try clear hb2); (try clear hk); (try clear hi); have p1073 : 0 ≤ (a2 : Int) := of_decide_eq_true (uq); have q1073 : a2 < (l1.length : Int) := of_decide_eq_true (uq); obtain ⟨ad1073, e1073, hx1073_0, hx1073_1, hx1073_2, hx1073_3⟩ := at_T52 HR1.out a2 p1073 q1073; cases e1073; replace hx1073_0 := cb HB.out hx1073_0; replace hx1073_1 := cb HB.out hx1073_1; replace hx1073_2 := cb HB.out hx1073_2; replace hx1073_3 := cb HB.out hx1073_3; replace p1073 := eq_true p1073; replace q1073 := eq_true q1073) | (go_at_call 66; (with_reducible refine (impl_within.calls ((rd_T52 l1 a2).f1) 7 10 false _ A8.out).mono ?_); rintro e w' ⟨rfl, ⟨nd, rfl⟩⟩))
     go_ret
     exact ⟨_, Y0, Y55, Y70⟩
   ·rw [if_neg c7] at H
    exact absurd H (by simp)
  ·rw [if_neg c6] at H
   exact absurd H (by simp)
 ·replace c5 := Bool.eq_false_iff.mpr c5
  subst c5
  have H1 : (some ([] : List Int)) = some r := by rw [if_neg (show ¬ (false = true) by decide)] at H; exact H
  clear H
  have H := H1
  clear H1
  obtain rfl := Option.some.inj H
  go_enter Try.func35, Try.ntmps35
  go_wp2_with (first | ((with_reducible refine gate_dst (N := 3) rfl ?_); refine bE (N := 3) (cs := #[.slice A0_0 l0_0.length c0_0]) (t := 32) ?_; intro gb1071 hg w18 hbox hb; have BK1071 := am (hbox); have GW1071 := am ((Y1 : w.heap.size ≤ gb1071)); have GE1071 := am ((Y1 : w.heap.size ≤ gb1071)); replace HB := am (below_step (bq) hb); clear hb hbox hg; have hcz19_0 := bc0 BK1071.out; have hfz19_0 := blk_frozen BK1071.out 0) | ((with_reducible refine gate_callee (f := 48) rfl ?_); refine gL (some 10) Try.func48 #[.agg #[.slice A0_0 l0_0.length c0_0], .slice A1 l1.length c1, .int .i64 a2] ?_; (with_reducible refine (impl_lineIn.calls k _ _ l0_0 _ _ l1 a2 false _ ?side1 ?side2 ?side3 ?side4 A4.out).mono ?_); (case side1 => exact cq (Kd.C_below HR0_0.out HB.out)); (case side2 => exact HC0_0.out); (case side3 => exact cq (Kd.C_below HR1.out HB.out)); (case side4 => exact HC1.out); rintro e w20 ⟨rfl, hb⟩; refine ⟨_, rfl, ?_⟩; replace BK1071 := am (blk_below (g := gb1071) (o := .cells #[.slice A0_0 l0_0.length c0_0] 32 (0, 0)) (kq BK1071.out) hb); replace HB := am (below_step (Y70) hb); (try clear hb); (try clear hb2); (try clear hk); (try clear hi)))
  go_ret
  exact ⟨_, Y0, Y55, Y70⟩
def spec_goodLine.f (k : Nat) (l0_0 : List (S87)) (l1 : List (S52)) (a2 : Int) : Option (Bool) := (spec_validProgram.f k l0_0 l1).bind fun t158 => (if t158 = true then ((spec_inRange.f a2 0 (wrap64 ((l1.length : Int) - 1))).bind fun t159 => (some t159)) else (some false))
set_option maxHeartbeats 8000000 in
set_option maxRecDepth 100000 in
theorem spec_goodLine.calls (k : Nat) (A0_0 : Option Addr) (c0_0 : Nat) (l0_0 : List (S87)) (A1 : Option Addr) (c1 : Nat) (l1 : List (S52)) (a2 : Int) (r : Bool) (w : World) (hr0_0 : Kd.C k87 w A0_0 l0_0.length l0_0) (hc0_0 : l0_0.length ≤ c0_0) (hr1 : Kd.C k52 w A1 l1.length l1) (hc1 : l1.length ≤ c1) (h : spec_goodLine.f k l0_0 l1 a2 = some r) :
  Calls Try.prog 63 #[.agg #[.slice A0_0 l0_0.length c0_0], .slice A1 l1.length c1, .int .i64 a2] w fun e w' => e = .returned (.bool r) ∧ Below w.heap.size w w' := by
 have hu32 := Try.underlying32
 have HR0_0 := am hr0_0
 have HC0_0 := am hc0_0
 clear hr0_0 hc0_0
 have HR1 := am hr1
 have HC1 := am hc1
 clear hr1 hc1
 have HB := am (Below.refl w.heap.size w)
 have H : ((spec_validProgram.f k l0_0 l1).bind fun t158 => (if t158 = true then ((spec_inRange.f a2 0 (wrap64 ((l1.length : Int) - 1))).bind fun t159 => (some t159)) else (some false))) = some r := h
 clear h
 replace H := Option.bind_eq_some_iff.mp H
 obtain ⟨t158, A40, H⟩ := H
 replace H : (if t158 = true then ((spec_inRange.f a2 0 (wrap64 ((l1.length : Int) - 1))).bind fun t159 => (some t159)) else (some false)) = some r := H
 have A4 := am A40
 clear A40
 by_cases c5 : t158 = true
 ·subst c5
  have H1 : ((spec_inRange.f a2 0 (wrap64 ((l1.length : Int) - 1))).bind fun t159 => (some t159)) = some r := by rw [if_pos rfl] at H; exact H
  clear H
  have H := H1
  clear H1
  replace H := Option.bind_eq_some_iff.mp H
  obtain ⟨t159, A60, H⟩ := H
  replace H : (some t159) = some r := H
  have A6 := am A60
  clear A60
  obtain rfl := Option.some.inj H
  go_enter Try.func63, Try.ntmps63
  go_wp2_with (first | ((with_reducible refine gate_dst (N := 3) rfl ?_); (try (refine gate_guard (by rfl) ?_; dsimp only)); refine box_event ?hg (N := 3) ?hd (cs := #[.slice A0_0 l0_0.length c0_0]) (t := 32) ?hr ?_; (case hd => rfl); (case hg => rfl); (case hr => exact Y5); intro gb157 hg w7 hbox hb; have BK157 := am (hbox); have GW157 := am ((Y1 : w.heap.size ≤ gb157)); have GE157 := am ((Y1 : w.heap.size ≤ gb157)); replace HB := am (below_step (bq) hb); clear hb hbox hg; have hcz8_0 := bc0 BK157.out; have hfz8_0 := blk_frozen BK157.out 0) | ((with_reducible refine gate_callee (f := 55) rfl ?_); refine gL (some 9) Try.func55 #[.agg #[.slice A0_0 l0_0.length c0_0], .slice A1 l1.length c1] ?_; (with_reducible refine (spec_validProgram.calls k _ _ l0_0 _ _ l1 true _ ?side1 ?side2 ?side3 ?side4 A4.out).mono ?_); (case side1 => exact cq (Kd.C_below HR0_0.out HB.out)); (case side2 => exact HC0_0.out); (case side3 => exact cq (Kd.C_below HR1.out HB.out)); (case side4 => exact HC1.out); rintro e w9 ⟨rfl, hb⟩; refine ⟨_, rfl, ?_⟩; replace BK157 := am (blk_below (g := gb157) (o := .cells #[.slice A0_0 l0_0.length c0_0] 32 (0, 0)) (kq BK157.out) hb); replace HB := am (below_step (Y116) hb); (try clear hb); (try clear hb2); (try clear hk); (try clear hi)) | (go_at_call 92; (with_reducible refine (spec_inRange.calls a2 0 (wrap64 ((l1.length : Int) - 1)) t159 _ A6.out).mono ?_); rintro e w' ⟨rfl, ⟨nd, rfl⟩⟩))
  go_ret
  exact ⟨Y0, Y116⟩
 ·replace c5 := Bool.eq_false_iff.mpr c5
  subst c5
  have H1 : (some false) = some r := by rw [if_neg (show ¬ (false = true) by decide)] at H; exact H
  clear H
  have H := H1
  clear H1
  obtain rfl := Option.some.inj H
  go_enter Try.func63, Try.ntmps63
  go_wp2_with (first | ((with_reducible refine gate_dst (N := 3) rfl ?_); (try (refine gate_guard (by rfl) ?_; dsimp only)); refine box_event ?hg (N := 3) ?hd (cs := #[.slice A0_0 l0_0.length c0_0]) (t := 32) ?hr ?_; (case hd => rfl); (case hg => rfl); (case hr => exact Y5); intro gb157 hg w10 hbox hb; have BK157 := am (hbox); have GW157 := am ((Y1 : w.heap.size ≤ gb157)); have GE157 := am ((Y1 : w.heap.size ≤ gb157)); replace HB := am (below_step (bq) hb); clear hb hbox hg; have hcz11_0 := bc0 BK157.out; have hfz11_0 := blk_frozen BK157.out 0) | ((with_reducible refine gate_callee (f := 55) rfl ?_); refine gL (some 9) Try.func55 #[.agg #[.slice A0_0 l0_0.length c0_0], .slice A1 l1.length c1] ?_; (with_reducible refine (spec_validProgram.calls k _ _ l0_0 _ _ l1 false _ ?side1 ?side2 ?side3 ?side4 A4.out).mono ?_); (case side1 => exact cq (Kd.C_below HR0_0.out HB.out)); (case side2 => exact HC0_0.out); (case side3 => exact cq (Kd.C_below HR1.out HB.out)); (case side4 => exact HC1.out); rintro e w12 ⟨rfl, hb⟩; refine ⟨_, rfl, ?_⟩; replace BK157 := am (blk_below (g := gb157) (o := .cells #[.slice A0_0 l0_0.length c0_0] 32 (0, 0)) (kq BK157.out) hb); replace HB := am (below_step (Y116) hb); (try clear hb); (try clear hb2); (try clear hk); (try clear hi)))
  go_ret
  exact ⟨Y0, Y116⟩
def spec_tryOf.l0 : Nat → List (S52) → Int → Option (Int)
 | 0, _, _ => none
 | k + 1, x0, x1 => if 0 ≤ x1 then (if x1 < (x0.length : Int) then (if ((rd_T52 x0 x1).f1) = 7 then (some x1) else ((spec_headOf.f k x0 x1).bind fun t200 => (spec_tryOf.l0 k x0 t200))) else (none)) else (none)
def spec_tryOf.f (k : Nat) (l0 : List (S52)) (a1 : Int) : Option (Int) := spec_tryOf.l0 k l0 a1
set_option maxHeartbeats 8000000 in
set_option maxRecDepth 100000 in
theorem spec_tryOf.calls (k : Nat) (A0 : Option Addr) (c0 : Nat) (l0 : List (S52)) (a1 : Int) (r : Int) (w : World) (hr0 : Kd.C k52 w A0 l0.length l0) (hc0 : l0.length ≤ c0) (h : spec_tryOf.f k l0 a1 = some r) :
  Calls Try.prog 74 #[.slice A0 l0.length c0, .int .i64 a1] w fun e w' => e = .returned (.int .i64 r) ∧ Drawn0 w w' := by
 have HR0 := am hr0
 have HC0 := am hc0
 clear hr0 hc0
 have H : (spec_tryOf.l0 k l0 a1) = some r := h
 clear h
 have H' := am H
 clear H
 go_enter Try.func74, Try.ntmps74
 go_wp2
 go_loopg [1] k (fun kq v1 w' => ∃ (x1_1 : Int), v1 = .int .i64 x1_1 ∧ Aside0 (spec_tryOf.l0 kq l0 x1_1 = some r) ∧ Aside0 (kq ≤ k) ∧ Drawn0 w w')
 case atStart => exact ⟨(a1), (sq), H', ⟨Nat.le_refl _⟩, Y4⟩
 case round =>
  clear H'
  try clear p2
  obtain ⟨x1_1, rfl, HA, HK1, ⟨m1, rfl⟩⟩ := hrel
  cases gk with
  | zero => exact absurd HA.out (by simp [spec_tryOf.l0])
  | succ k1 =>
   have H := HA.out
   clear HA
   simp only [spec_tryOf.l0] at H
   by_cases c3 : 0 ≤ x1_1
   ·rw [if_pos c3] at H
    have c3b0 : decide (0 ≤ x1_1) = true := decide_eq_true c3
    clear c3
    by_cases c4 : x1_1 < (l0.length : Int)
    ·rw [if_pos c4] at H
     have c4b0 : decide (x1_1 < (l0.length : Int)) = true := decide_eq_true c4
     clear c4
     by_cases c5 : ((rd_T52 l0 x1_1).f1) = 7
     ·rw [if_pos c5] at H
      have c5b0 : (((rd_T52 l0 x1_1).f1) == 7) = true := beq_iff_eq.mpr c5
      have c5b1 : (((rd_T52 l0 x1_1).f1) != 7) = false := bne_eq_false_iff_eq.mpr c5
      clear c5
      obtain rfl := Option.some.inj H
      have p199 : 0 ≤ (x1_1 : Int) := of_decide_eq_true (uq)
      have q199 : x1_1 < (l0.length : Int) := of_decide_eq_true (uq)
      obtain ⟨ad199, e199, hx199_0, hx199_1, hx199_2, hx199_3⟩ := at_T52 HR0.out x1_1 p199 q199
      cases e199
      replace p199 := eq_true p199
      replace q199 := eq_true q199
      go_wp2
      go_ret
      exact ⟨sq, Y4⟩
     ·rw [if_neg c5] at H
      have c5b0 : (((rd_T52 l0 x1_1).f1) == 7) = false := beq_eq_false_iff_ne.mpr c5
      have c5b1 : (((rd_T52 l0 x1_1).f1) != 7) = true := bne_iff_ne.mpr c5
      replace H := Option.bind_eq_some_iff.mp H
      obtain ⟨t200, A60, H⟩ := H
      replace H : (spec_tryOf.l0 k1 l0 t200) = some r := H
      have A6 := am A60
      clear A60
      have H' := am H
      clear H
      have p199 : 0 ≤ (x1_1 : Int) := of_decide_eq_true (uq)
      have q199 : x1_1 < (l0.length : Int) := of_decide_eq_true (uq)
      obtain ⟨ad199, e199, hx199_0, hx199_1, hx199_2, hx199_3⟩ := at_T52 HR0.out x1_1 p199 q199
      cases e199
      replace p199 := eq_true p199
      replace q199 := eq_true q199
      go_wp2_with (first | ((with_reducible refine gate_callee (f := 99) rfl ?_); refine gL (some 13) Try.func99 #[.slice (some ad199) l0.length c0, .int .i64 x1_1] ?_; (with_reducible refine (spec_headOf.calls k1 _ _ l0 x1_1 t200 _ ?side1 ?side2 A6.out).mono ?_); (case side1 => exact Y38); (case side2 => exact HC0.out); rintro e w' ⟨rfl, ⟨nd, rfl⟩⟩; refine ⟨_, rfl, ?_⟩))
      go_roundg k1
      case measure => have := HK1.out; omega
      case rel => exact ⟨(t200), (sq), H', ⟨by have := HK1.out; omega⟩, Y4⟩
    ·rw [if_neg c4] at H
     exact absurd H (by simp)
   ·rw [if_neg c3] at H
    exact absurd H (by simp)
def spec_TryOf.j0 : Nat → List (S52) → Int → Bool → Option (List Int)
 | 0, _, _, _ => none
 | k + 1, x1, x2, x28 => if x28 = true then (some ([] : List Int)) else ((spec_tryOf.f k x1 x2).bind fun t1083 => ((spec_chainOf.f k x1 t1083).bind fun t1084 => (some t1084)))
def spec_TryOf.f (k : Nat) (l0_0 : List (S87)) (l1 : List (S52)) (a2 : Int) : Option (List Int) := (spec_goodLine.f k l0_0 l1 a2).bind fun t1079 => (if t1079 = true then (if 0 ≤ a2 then (if a2 < (l1.length : Int) then (if ((rd_T52 l1 a2).f1) = 7 then (spec_TryOf.j0 k l1 a2 false) else ((spec_follows.f ((rd_T52 l1 a2).f1)).bind fun t1082 => (spec_TryOf.j0 k l1 a2 (!t1082)))) else (none)) else (none)) else (spec_TryOf.j0 k l1 a2 true))
set_option maxHeartbeats 8000000 in
set_option maxRecDepth 100000 in
theorem spec_TryOf.calls (k : Nat) (A0_0 : Option Addr) (c0_0 : Nat) (l0_0 : List (S87)) (A1 : Option Addr) (c1 : Nat) (l1 : List (S52)) (a2 : Int) (r : List Int) (w : World) (hr0_0 : Kd.C k87 w A0_0 l0_0.length l0_0) (hc0_0 : l0_0.length ≤ c0_0) (hr1 : Kd.C k52 w A1 l1.length l1) (hc1 : l1.length ≤ c1) (h : spec_TryOf.f k l0_0 l1 a2 = some r) :
  Calls Try.prog 36 #[.agg #[.slice A0_0 l0_0.length c0_0], .slice A1 l1.length c1, .int .i64 a2] w fun e w' => ∃ v0_ : Value, e = .returned (v0_) ∧ Kd.R (Kd.int .i64) 3 w' w.heap.size (fun _ => True) v0_ r ∧ Below w.heap.size w w' := by
 have hu32 := Try.underlying32
 have HR0_0 := am hr0_0
 have HC0_0 := am hc0_0
 clear hr0_0 hc0_0
 have HR1 := am hr1
 have HC1 := am hc1
 clear hr1 hc1
 have HB := am (Below.refl w.heap.size w)
 have H : ((spec_goodLine.f k l0_0 l1 a2).bind fun t1079 => (if t1079 = true then (if 0 ≤ a2 then (if a2 < (l1.length : Int) then (if ((rd_T52 l1 a2).f1) = 7 then (spec_TryOf.j0 k l1 a2 false) else ((spec_follows.f ((rd_T52 l1 a2).f1)).bind fun t1082 => (spec_TryOf.j0 k l1 a2 (!t1082)))) else (none)) else (none)) else (spec_TryOf.j0 k l1 a2 true))) = some r := h
 clear h
 have HC4 := am H
 clear H
 go_enter Try.func36, Try.ntmps36
 go_upto_region 1 with (first | ((with_reducible refine gate_dst (N := 3) rfl ?_); refine bE (N := 3) (cs := #[.slice A0_0 l0_0.length c0_0]) (t := 32) ?_; intro gb1078 hg w5 hbox hb; have BK1078 := am (hbox); have GW1078 := am ((Y1 : w.heap.size ≤ gb1078)); have GE1078 := am ((Y1 : w.heap.size ≤ gb1078)); replace HB := am (below_step (bq) hb); clear hb hbox hg))
 (try simp only [Act.put, List.setIfInBounds_toArray, List.set_cons_zero, List.set_cons_succ])
 go_cut [28] (fun v28 wc => ∃ (kq : Nat) (x28_3 : Bool), v28 = .bool x28_3 ∧ Aside0 (spec_TryOf.j0 kq l1 a2 x28_3 = some r) ∧ Aside0 (kq ≤ k) ∧ Aside0 (wc.heap[gb1078]? = some (.cells #[(.slice A0_0 l0_0.length c0_0)] 32 (0, 0))) ∧ Aside0 (Below w.heap.size w wc))
 case first =>
  have H := HC4.out
  clear HC4
  replace H := Option.bind_eq_some_iff.mp H
  obtain ⟨t1079, A60, H⟩ := H
  replace H : (if t1079 = true then (if 0 ≤ a2 then (if a2 < (l1.length : Int) then (if ((rd_T52 l1 a2).f1) = 7 then (spec_TryOf.j0 k l1 a2 false) else ((spec_follows.f ((rd_T52 l1 a2).f1)).bind fun t1082 => (spec_TryOf.j0 k l1 a2 (!t1082)))) else (none)) else (none)) else (spec_TryOf.j0 k l1 a2 true)) = some r := H
  have A6 := am A60
  clear A60
  by_cases c7 : t1079 = true
  ·subst c7
   have H1 : (if 0 ≤ a2 then (if a2 < (l1.length : Int) then (if ((rd_T52 l1 a2).f1) = 7 then (spec_TryOf.j0 k l1 a2 false) else ((spec_follows.f ((rd_T52 l1 a2).f1)).bind fun t1082 => (spec_TryOf.j0 k l1 a2 (!t1082)))) else (none)) else (none)) = some r := by rw [if_pos rfl] at H; exact H
   clear H
   have H := H1
   clear H1
   by_cases c8 : 0 ≤ a2
   ·rw [if_pos c8] at H
    have c8b0 : decide (0 ≤ a2) = true := decide_eq_true c8
    clear c8
    (first | rw [c8b0] | (simp only [i64_w, i32_w]; rw [c8b0]) | skip)
    by_cases c9 : a2 < (l1.length : Int)
    ·rw [if_pos c9] at H
     have c9b0 : decide (a2 < (l1.length : Int)) = true := decide_eq_true c9
     clear c9
     by_cases c10 : ((rd_T52 l1 a2).f1) = 7
     ·rw [if_pos c10] at H
      have c10b0 : (((rd_T52 l1 a2).f1) == 7) = true := beq_iff_eq.mpr c10
      have c10b1 : (((rd_T52 l1 a2).f1) != 7) = false := bne_eq_false_iff_eq.mpr c10
      clear c10
      have H' := am H
      clear H
      have hcz11_0 := bc0 BK1078.out
      have hfz11_0 := blk_frozen BK1078.out 0
      go_wp2_with (first | ((with_reducible refine gate_callee (f := 63) rfl ?_); refine gL (some 10) Try.func63 #[.agg #[.slice A0_0 l0_0.length c0_0], .slice A1 l1.length c1, .int .i64 a2] ?_; (with_reducible refine (spec_goodLine.calls k _ _ l0_0 _ _ l1 a2 true _ ?side1 ?side2 ?side3 ?side4 A6.out).mono ?_); (case side1 => exact cq (Kd.C_below HR0_0.out HB.out)); (case side2 => exact HC0_0.out); (case side3 => exact cq (Kd.C_below HR1.out HB.out)); (case side4 => exact HC1.out); rintro e w12 ⟨rfl, hb⟩; refine ⟨_, rfl, ?_⟩; replace BK1078 := am (blk_below (g := gb1078) (o := .cells #[.slice A0_0 l0_0.length c0_0] 32 (0, 0)) (kq BK1078.out) hb); replace HB := am (below_step (Y54) hb); (try clear hb); (try clear hb2); (try clear hk); (try clear hi); have p1080 : 0 ≤ (a2 : Int) := of_decide_eq_true (uq); have q1080 : a2 < (l1.length : Int) := of_decide_eq_true (uq); obtain ⟨ad1080, e1080, hx1080_0, hx1080_1, hx1080_2, hx1080_3⟩ := at_T52 HR1.out a2 p1080 q1080; cases e1080; replace hx1080_0 := cb HB.out hx1080_0; replace hx1080_1 := cb HB.out hx1080_1; replace hx1080_2 := cb HB.out hx1080_2; replace hx1080_3 := cb HB.out hx1080_3; replace p1080 := eq_true p1080; replace q1080 := eq_true q1080))
      go_meet
      case rel => exact ⟨_, (false), (sq), H', ⟨Y35⟩, ⟨kq BK1078.out⟩, ⟨Y54⟩⟩
     ·rw [if_neg c10] at H
      have c10b0 : (((rd_T52 l1 a2).f1) == 7) = false := beq_eq_false_iff_ne.mpr c10
      have c10b1 : (((rd_T52 l1 a2).f1) != 7) = true := bne_iff_ne.mpr c10
      replace H := Option.bind_eq_some_iff.mp H
      obtain ⟨t1082, A130, H⟩ := H
      replace H : (spec_TryOf.j0 k l1 a2 (!t1082)) = some r := H
      have A13 := am A130
      clear A130
      have H' := am H
      clear H
      have hcz14_0 := bc0 BK1078.out
      have hfz14_0 := blk_frozen BK1078.out 0
      go_wp2_with (first | ((with_reducible refine gate_callee (f := 63) rfl ?_); refine gL (some 10) Try.func63 #[.agg #[.slice A0_0 l0_0.length c0_0], .slice A1 l1.length c1, .int .i64 a2] ?_; (with_reducible refine (spec_goodLine.calls k _ _ l0_0 _ _ l1 a2 true _ ?side1 ?side2 ?side3 ?side4 A6.out).mono ?_); (case side1 => exact cq (Kd.C_below HR0_0.out HB.out)); (case side2 => exact HC0_0.out); (case side3 => exact cq (Kd.C_below HR1.out HB.out)); (case side4 => exact HC1.out); rintro e w15 ⟨rfl, hb⟩; refine ⟨_, rfl, ?_⟩; replace BK1078 := am (blk_below (g := gb1078) (o := .cells #[.slice A0_0 l0_0.length c0_0] 32 (0, 0)) (kq BK1078.out) hb); replace HB := am (below_step (Y54) hb); (try clear hb); (try clear hb2); (try clear hk); (try clear hi); have p1080 : 0 ≤ (a2 : Int) := of_decide_eq_true (uq); have q1080 : a2 < (l1.length : Int) := of_decide_eq_true (uq); obtain ⟨ad1080, e1080, hx1080_0, hx1080_1, hx1080_2, hx1080_3⟩ := at_T52 HR1.out a2 p1080 q1080; cases e1080; replace hx1080_0 := cb HB.out hx1080_0; replace hx1080_1 := cb HB.out hx1080_1; replace hx1080_2 := cb HB.out hx1080_2; replace hx1080_3 := cb HB.out hx1080_3; replace p1080 := eq_true p1080; replace q1080 := eq_true q1080; have p1081 : 0 ≤ (a2 : Int) := of_decide_eq_true (uq); have q1081 : a2 < (l1.length : Int) := of_decide_eq_true (uq); obtain ⟨ad1081, e1081, hx1081_0, hx1081_1, hx1081_2, hx1081_3⟩ := at_T52 HR1.out a2 p1081 q1081; obtain rfl : ad1080 = ad1081 := (by injection e1081); replace hx1081_0 := cb HB.out hx1081_0; replace hx1081_1 := cb HB.out hx1081_1; replace hx1081_2 := cb HB.out hx1081_2; replace hx1081_3 := cb HB.out hx1081_3; replace p1081 := eq_true p1081; replace q1081 := eq_true q1081) | (go_at_call 70; (with_reducible refine (spec_follows.calls ((rd_T52 l1 a2).f1) t1082 _ A13.out).mono ?_); rintro e w' ⟨rfl, ⟨nd, rfl⟩⟩))
      go_meet
      case rel => exact ⟨_, (!t1082), (sq), H', ⟨Y35⟩, ⟨kq BK1078.out⟩, ⟨Y54⟩⟩
    ·rw [if_neg c9] at H
     exact absurd H (by simp)
   ·rw [if_neg c8] at H
    exact absurd H (by simp)
  ·replace c7 := Bool.eq_false_iff.mpr c7
   subst c7
   have H1 : (spec_TryOf.j0 k l1 a2 true) = some r := by rw [if_neg (show ¬ (false = true) by decide)] at H; exact H
   clear H
   have H := H1
   clear H1
   have H' := am H
   clear H
   have hcz16_0 := bc0 BK1078.out
   have hfz16_0 := blk_frozen BK1078.out 0
   go_wp2_with (first | ((with_reducible refine gate_callee (f := 63) rfl ?_); refine gL (some 10) Try.func63 #[.agg #[.slice A0_0 l0_0.length c0_0], .slice A1 l1.length c1, .int .i64 a2] ?_; (with_reducible refine (spec_goodLine.calls k _ _ l0_0 _ _ l1 a2 false _ ?side1 ?side2 ?side3 ?side4 A6.out).mono ?_); (case side1 => exact cq (Kd.C_below HR0_0.out HB.out)); (case side2 => exact HC0_0.out); (case side3 => exact cq (Kd.C_below HR1.out HB.out)); (case side4 => exact HC1.out); rintro e w17 ⟨rfl, hb⟩; refine ⟨_, rfl, ?_⟩; replace BK1078 := am (blk_below (g := gb1078) (o := .cells #[.slice A0_0 l0_0.length c0_0] 32 (0, 0)) (kq BK1078.out) hb); replace HB := am (below_step (Y54) hb); (try clear hb); (try clear hb2); (try clear hk); (try clear hi)))
   go_meet
   case rel => exact ⟨_, (true), (sq), H', ⟨Y35⟩, ⟨kq BK1078.out⟩, ⟨Y54⟩⟩
 case rest =>
  clear HC4
  try clear c1
  try clear p1
  try clear q1
  try clear hx1
  try clear p2
  try clear c3
  try clear c6
  try clear c7
  try clear c8
  try clear c8b0
  try clear c9
  try clear c9b0
  try clear c10
  try clear c10b0
  try clear c10b1
  try clear p10
  try clear q10
  try clear hx10
  try clear hcz11_0
  try clear hcz14_0
  try clear hcz16_0
  try clear hfz11_0
  try clear hfz14_0
  try clear hfz16_0
  try clear hx1080_0
  try clear hx1080_1
  try clear hx1080_2
  try clear hx1080_3
  try clear hx1081_0
  try clear hx1081_1
  try clear hx1081_2
  try clear hx1081_3
  try clear p1080
  try clear p1081
  try clear q1080
  try clear q1081
  obtain ⟨kq, x28_3, rfl, HA, HJ3, BK1078, HB⟩ := hcut
  cases kq with
  | zero => exact absurd HA.out (by simp [spec_TryOf.j0])
  | succ kj3 =>
   have H := HA.out
   clear HA
   simp only [spec_TryOf.j0] at H
   by_cases c18 : x28_3 = true
   ·subst c18
    have H1 : (some ([] : List Int)) = some r := by rw [if_pos rfl] at H; exact H
    clear H
    have H := H1
    clear H1
    obtain rfl := Option.some.inj H
    go_wp2
    go_ret
    exact ⟨_, Y0, Y55, Y54⟩
   ·replace c18 := Bool.eq_false_iff.mpr c18
    subst c18
    have H1 : ((spec_tryOf.f kj3 l1 a2).bind fun t1083 => ((spec_chainOf.f kj3 l1 t1083).bind fun t1084 => (some t1084))) = some r := by rw [if_neg (show ¬ (false = true) by decide)] at H; exact H
    clear H
    have H := H1
    clear H1
    replace H := Option.bind_eq_some_iff.mp H
    obtain ⟨t1083, A190, H⟩ := H
    replace H : ((spec_chainOf.f kj3 l1 t1083).bind fun t1084 => (some t1084)) = some r := H
    have A19 := am A190
    clear A190
    replace H := Option.bind_eq_some_iff.mp H
    obtain ⟨t1084, A200, H⟩ := H
    replace H : (some t1084) = some r := H
    have A20 := am A200
    clear A200
    obtain rfl := Option.some.inj H
    go_wp2_with (first | ((with_reducible refine gate_callee (f := 74) rfl ?_); refine gL (some 32) Try.func74 #[.slice A1 l1.length c1, .int .i64 a2] ?_; (with_reducible refine (spec_tryOf.calls kj3 _ _ l1 a2 t1083 _ ?side1 ?side2 A19.out).mono ?_); (case side1 => exact cq (Kd.C_below HR1.out HB.out)); (case side2 => exact HC1.out); rintro e w' ⟨rfl, ⟨nd, rfl⟩⟩; refine ⟨_, rfl, ?_⟩) | ((with_reducible refine gate_callee (f := 73) rfl ?_); refine gL (some 33) Try.func73 #[.slice A1 l1.length c1, .int .i64 t1083] ?_; (with_reducible refine (spec_chainOf.calls kj3 _ _ l1 t1083 t1084 _ ?side1 ?side2 A20.out).mono ?_); (case side1 => repeat (first | exact (Kd.C_below HR1.out (by repeat (first | (with_reducible first | exact HB.out | apply below_alloc | apply pw_below_drewN | apply below_drew1 | refine below_set ?_ GE1078.out) | exact HB.out))) | (with_reducible refine Kd.C_alloc ?_ _) | (with_reducible refine Kd.C_drewN ?_ _) | (with_reducible refine Kd.C_drew ?_))); (case side2 => exact HC1.out); rintro e w21 ⟨v1085, rfl, ho0, hb⟩; refine ⟨_, rfl, ?_⟩; have HO1086 := am (Kd.R_lower ho0 (below_size (Y54))); replace BK1078 := am (blk_below (g := gb1078) (o := .cells #[.slice A0_0 l0_0.length c0_0] 32 (0, 0)) (kq BK1078.out) hb); replace HB := am (below_step (Y54) hb); (try clear hb); (try clear hb2); (try clear hk); (try clear hi); (try clear ho0)))
    go_ret
    exact ⟨_, Y0, rq HO1086.out, Y54⟩
def laws_ascends.l0 : Nat → List Int → Int → Option (Bool)
 | 0, _, _ => none
 | k + 1, x0, x3 => if x3 < (x0.length : Int) then (if 0 ≤ x3 then (if 0 ≤ (wrap64 (x3 - 1)) then (if (wrap64 (x3 - 1)) < (x0.length : Int) then (if (rd x0 x3) ≤ (rd x0 (wrap64 (x3 - 1))) then (some false) else (laws_ascends.l0 k x0 (wrap64 (x3 + 1)))) else (none)) else (none)) else (none)) else (some true)
def laws_ascends.f (k : Nat) (l0 : List Int) : Option (Bool) := laws_ascends.l0 k l0 1
set_option maxHeartbeats 8000000 in
set_option maxRecDepth 100000 in
theorem laws_ascends.calls (k : Nat) (A0 : Option Addr) (c0 : Nat) (l0 : List Int) (r : Bool) (w : World) (hr0 : Kd.C (Kd.int .i64) w A0 l0.length l0) (hc0 : l0.length ≤ c0) (h : laws_ascends.f k l0 = some r) :
  Calls Try.prog 37 #[.slice A0 l0.length c0] w fun e w' => e = .returned (.bool r) ∧ Drawn0 w w' := by
 have HR0 := am hr0
 have HC0 := am hc0
 clear hr0 hc0
 have H : (laws_ascends.l0 k l0 1) = some r := h
 clear h
 have H' := am H
 clear H
 go_enter Try.func37, Try.ntmps37
 go_wp2
 repeat (go_quiet (fail); try go_wp2)
 go_loopg [3] k (fun kq v3 w' => ∃ (x3_1 : Int), v3 = .int .i64 x3_1 ∧ Aside0 (laws_ascends.l0 kq l0 x3_1 = some r) ∧ Aside0 (kq ≤ k) ∧ Drawn0 w w')
 case atStart => exact ⟨(1), (sq), H', ⟨Nat.le_refl _⟩, Y4⟩
 case round =>
  clear H'
  obtain ⟨x3_1, rfl, HA, HK1, ⟨m1, rfl⟩⟩ := hrel
  cases gk with
  | zero => exact absurd HA.out (by simp [laws_ascends.l0])
  | succ k1 =>
   have H := HA.out
   clear HA
   simp only [laws_ascends.l0] at H
   by_cases c2 : x3_1 < (l0.length : Int)
   ·rw [if_pos c2] at H
    have c2b0 : decide (x3_1 < (l0.length : Int)) = true := decide_eq_true c2
    clear c2
    by_cases c3 : 0 ≤ x3_1
    ·rw [if_pos c3] at H
     have c3b0 : decide (0 ≤ x3_1) = true := decide_eq_true c3
     clear c3
     obtain ⟨ji4, hji4⟩ : ∃ j_ : Int, (wrap64 (x3_1 - 1)) = j_ := ⟨_, rfl⟩
     replace H : (if 0 ≤ (ji4) then (if (ji4) < (l0.length : Int) then (if (rd l0 x3_1) ≤ (rd l0 (ji4)) then (some false) else (laws_ascends.l0 k1 l0 (wrap64 (x3_1 + 1)))) else (none)) else (none)) = some r := by first | (rw [hji4] at H; exact H) | (simp only [hji4] at H ⊢; exact H)
     have hji4w : (IntKind.i64.wrap (x3_1 - 1)) = ji4 := (i64_w _).trans hji4
     by_cases c5 : 0 ≤ (ji4)
     ·rw [if_pos c5] at H
      have c5b0 : decide (0 ≤ (ji4)) = true := decide_eq_true c5
      clear c5
      by_cases c6 : (ji4) < (l0.length : Int)
      ·rw [if_pos c6] at H
       have c6b0 : decide ((ji4) < (l0.length : Int)) = true := decide_eq_true c6
       clear c6
       by_cases c7 : (rd l0 x3_1) ≤ (rd l0 (ji4))
       ·rw [if_pos c7] at H
        have c7b0 : decide ((rd l0 x3_1) ≤ (rd l0 (ji4))) = true := decide_eq_true c7
        clear c7
        obtain rfl := Option.some.inj H
        have p1087 : 0 ≤ (x3_1 : Int) := of_decide_eq_true (uq)
        have q1087 : x3_1 < (l0.length : Int) := of_decide_eq_true (uq)
        obtain ⟨ad1087, e1087, hx1087_0⟩ := Kd.at_int HR0.out x3_1 p1087 q1087
        cases e1087
        replace p1087 := eq_true p1087
        replace q1087 := eq_true q1087
        have p1088 : 0 ≤ ((ji4) : Int) := of_decide_eq_true (uq)
        have q1088 : (ji4) < (l0.length : Int) := of_decide_eq_true (uq)
        obtain ⟨ad1088, e1088, hx1088_0⟩ := Kd.at_int HR0.out (ji4) p1088 q1088
        obtain rfl : ad1087 = ad1088 := (by injection e1088)
        replace p1088 := eq_true p1088
        replace q1088 := eq_true q1088
        go_wp2
        repeat (go_quiet (fail); try go_wp2)
        go_ret
        exact ⟨by first | rfl | (simp; done) | (simp only [← hji4] <;> (first | rfl | simp)) | (simp [*]; done), Y4⟩
       ·rw [if_neg c7] at H
        have c7b0 : decide ((rd l0 x3_1) ≤ (rd l0 (ji4))) = false := decide_eq_false c7
        clear c7
        have H' := am H
        clear H
        have p1087 : 0 ≤ (x3_1 : Int) := of_decide_eq_true (uq)
        have q1087 : x3_1 < (l0.length : Int) := of_decide_eq_true (uq)
        obtain ⟨ad1087, e1087, hx1087_0⟩ := Kd.at_int HR0.out x3_1 p1087 q1087
        cases e1087
        replace p1087 := eq_true p1087
        replace q1087 := eq_true q1087
        have p1088 : 0 ≤ ((ji4) : Int) := of_decide_eq_true (uq)
        have q1088 : (ji4) < (l0.length : Int) := of_decide_eq_true (uq)
        obtain ⟨ad1088, e1088, hx1088_0⟩ := Kd.at_int HR0.out (ji4) p1088 q1088
        obtain rfl : ad1087 = ad1088 := (by injection e1088)
        replace p1088 := eq_true p1088
        replace q1088 := eq_true q1088
        go_wp2
        repeat (go_quiet (fail); try go_wp2)
        go_roundg k1
        case measure => have := HK1.out; omega
        case rel => exact ⟨(wrap64 (x3_1 + 1)), (sq), H', ⟨by have := HK1.out; omega⟩, Y4⟩
      ·rw [if_neg c6] at H
       exact absurd H (by simp)
     ·rw [if_neg c5] at H
      exact absurd H (by simp)
    ·rw [if_neg c3] at H
     exact absurd H (by simp)
   ·rw [if_neg c2] at H
    have c2b0 : decide (x3_1 < (l0.length : Int)) = false := decide_eq_false c2
    clear c2
    obtain rfl := Option.some.inj H
    go_wp2
    repeat (go_quiet (fail); try go_wp2)
    go_ret
    exact ⟨sq, Y4⟩
mutual
def laws_FnTryOf.j0 : Nat → List (S52) → Int → List Int → Bool → List (S87) → Option (Bool)
 | 0, _, _, _, _, _ => none
 | k + 1, x4, x5, x6, x32, x1097000 => if x32 = true then ((spec_TryOf.f k x1097000 x4 x5).bind fun t1104 => ((laws_equalInts.f k x6 t1104).bind fun t1107 => (some t1107))) else (laws_FnTryOf.l0 k x4 x5 x6 0 x1097000)
def laws_FnTryOf.l0 : Nat → List (S52) → Int → List Int → Int → List (S87) → Option (Bool)
 | 0, _, _, _, _, _ => none
 | k + 1, x4, x5, x6, x7, x1097000 => if x7 < (x6.length : Int) then (if 0 ≤ x7 then ((impl_TryOf.f k x1097000 x4 (rd x6 x7)).bind fun t1109 => ((laws_equalInts.f k t1109 x6).bind fun t1112 => (if t1112 = true then (if 0 ≤ (rd x6 x7) then (if (rd x6 x7) < (x4.length : Int) then (if 0 ≤ x5 then (if x5 < (x4.length : Int) then (if ((rd_T52 x4 (rd x6 x7)).f0) = ((rd_T52 x4 x5).f0) then (laws_FnTryOf.l0 k x4 x5 x6 (wrap64 (x7 + 1)) x1097000) else (some false)) else (none)) else (none)) else (none)) else (none)) else (some false)))) else (none)) else (if 0 < (x6.length : Int) then (if 0 ≤ (rd x6 0) then (if (rd x6 0) < (x4.length : Int) then (if ((rd_T52 x4 (rd x6 0)).f1) = 7 then ((laws_isIn.f k x6 x5).bind fun t1118 => (if t1118 = true then ((laws_ascends.f k x6).bind fun t1119 => (if t1119 = true then (some (decide ((x6.length : Int) > 1))) else (some false))) else (some false))) else (some false)) else (none)) else (none)) else (none))
end
def laws_FnTryOf.f (k : Nat) (l0 : List Int) : Option (Bool) := if (l0.length : Int) > 1048576 then (some true) else ((spec_DrawTryOf.f k l0).bind fun bt1089 => ((impl_TryOf.f k bt1089.1 bt1089.2.1 bt1089.2.2).bind fun t1097 => ((spec_TryOf.f k bt1089.1 bt1089.2.1 bt1089.2.2).bind fun t1100 => ((laws_equalInts.f k t1097 t1100).bind fun t1103 => (if t1103 = true then (laws_FnTryOf.j0 k bt1089.2.1 bt1089.2.2 t1097 ((t1097.length : Int) == 0) bt1089.1) else (laws_FnTryOf.j0 k bt1089.2.1 bt1089.2.2 t1097 true bt1089.1))))))
def laws_FnTryOf.T10 : Bool × List (List Nat × List Nat) := (true, [([], []), ([], []), ([], []), ([], []), ([2, 3], [2, 3]), ([4], [4]), ([0, 1, 5], [0, 1, 5]), ([], []), ([6, 7, 6], [6, 7]), ([8], [8]), ([9, 8], [9]), ([10], [10]), ([10], [10]), ([10], [10]), ([12, 13, 10], [10, 12, 13]), ([14, 10], [10, 14]), ([11, 15, 10], [10, 11, 15]), ([16, 10], [10, 16]), ([17, 10], [10, 17]), ([10], [10]), ([10], [10]), ([19, 20, 10], [10, 19, 20]), ([21, 10], [10, 21]), ([22, 10], [10, 22]), ([18, 23, 10], [10, 18, 23]), ([10, 24], [10, 24])])
def laws_FnTryOf.B10 : List Nat := [0, 0, 0, 0, 12, 28, 63, 0, 255, 511, 1023, 2047, 2047, 2047, 14335, 30719, 65535, 131071, 262143, 2047, 2047, 1574911, 3672063, 7866367, 16777215, 33554431]
theorem laws_FnTryOf.tab10 : rtab .any (opsOf Try.f7 10) = laws_FnTryOf.T10 := by kernel_rfl
theorem laws_FnTryOf.bits10 : waitsOk laws_FnTryOf.T10.2 laws_FnTryOf.B10 = true := by kernel_rfl
set_option maxHeartbeats 8000000 in
set_option maxRecDepth 100000 in
theorem laws_FnTryOf.calls (k : Nat) (A0 : Option Addr) (c0 : Nat) (l0 : List Int) (r : Bool) (w : World) (hr0 : Kd.C (Kd.int .u8) w A0 l0.length l0) (hc0 : l0.length ≤ c0) (hT : r = true) (h : laws_FnTryOf.f k l0 = some r) :
  Calls Try.prog 7 #[.slice A0 l0.length c0] w fun e w' => e = .returned (.bool r) ∧ Below w.heap.size w w' := by
 have hu32 := Try.underlying32
 have HR0 := am hr0
 have HC0 := am hc0
 clear hr0 hc0
 have HB := am (Below.refl w.heap.size w)
 have H : (if (l0.length : Int) > 1048576 then (some true) else ((spec_DrawTryOf.f k l0).bind fun bt1089 => ((impl_TryOf.f k bt1089.1 bt1089.2.1 bt1089.2.2).bind fun t1097 => ((spec_TryOf.f k bt1089.1 bt1089.2.1 bt1089.2.2).bind fun t1100 => ((laws_equalInts.f k t1097 t1100).bind fun t1103 => (if t1103 = true then (laws_FnTryOf.j0 k bt1089.2.1 bt1089.2.2 t1097 ((t1097.length : Int) == 0) bt1089.1) else (laws_FnTryOf.j0 k bt1089.2.1 bt1089.2.2 t1097 true bt1089.1))))))) = some r := h
 clear h
 by_cases c2 : (l0.length : Int) > 1048576
 ·rw [if_pos c2] at H
  have c2b0 : decide (1048576 < (l0.length : Int)) = true := decide_eq_true c2
  have c2b1 : decide (1048576 < l0.length) = true := decide_eq_true (by omega)
  clear c2
  obtain rfl := Option.some.inj H
  go_enter Try.func7, Try.ntmps7
  go_wp2
  go_ret
  exact ⟨Y0, bq⟩
 ·rw [if_neg c2] at H
  have c2b0 : decide (1048576 < (l0.length : Int)) = false := decide_eq_false c2
  have c2b1 : decide (1048576 < l0.length) = false := decide_eq_false (by omega)
  clear c2
  replace H := Option.bind_eq_some_iff.mp H
  obtain ⟨⟨t1089, t1092, t1095⟩, A30, H⟩ := H
  replace H : ((impl_TryOf.f k t1089 t1092 t1095).bind fun t1097 => ((spec_TryOf.f k t1089 t1092 t1095).bind fun t1100 => ((laws_equalInts.f k t1097 t1100).bind fun t1103 => (if t1103 = true then (laws_FnTryOf.j0 k t1092 t1095 t1097 ((t1097.length : Int) == 0) t1089) else (laws_FnTryOf.j0 k t1092 t1095 t1097 true t1089))))) = some r := H
  have A3 := am A30
  clear A30
  replace H := Option.bind_eq_some_iff.mp H
  obtain ⟨t1097, A40, H⟩ := H
  replace H : ((spec_TryOf.f k t1089 t1092 t1095).bind fun t1100 => ((laws_equalInts.f k t1097 t1100).bind fun t1103 => (if t1103 = true then (laws_FnTryOf.j0 k t1092 t1095 t1097 ((t1097.length : Int) == 0) t1089) else (laws_FnTryOf.j0 k t1092 t1095 t1097 true t1089)))) = some r := H
  have A4 := am A40
  clear A40
  have HC5 := am H
  clear H
  go_enter Try.func7, Try.ntmps7
  go_upto_region 5 with (first | ((with_reducible refine gate_callee (f := 34) rfl ?_); refine gL (some 13) Try.func34 #[.slice A0 l0.length c0] ?_; (with_reducible refine (spec_DrawTryOf.calls k _ _ l0 t1089 t1092 t1095 _ ?side1 ?side2 A3.out).mono ?_); (case side1 => exact Y38); (case side2 => exact HC0.out); rintro e w6 ⟨v1090, v1093, rfl, ho0, ho1, hb⟩; refine ⟨_, rfl, ?_⟩; have HO1091 := am (Kd.R_lower ho0 (below_size (bq))); have HO1094 := am (Kd.Q_lower ho1 (below_size (bq))); replace HB := am (below_step (bq) hb); (try clear hb); (try clear hb2); (try clear hk); (try clear hi); (try clear ho0); (try clear ho1)) | ((with_reducible refine gate_dst (N := 3) rfl ?_); (try (refine gate_guard (by rfl) ?_; dsimp only)); refine box_event ?hg (N := 3) ?hd (cs := #[.slice none 0 0]) (t := 32) ?hr ?_; (case hd => rfl); (case hg => rfl); (case hr => exact Y5); intro gb1096 hg w7 hbox hb; have BK1096 := am (hbox); have GW1096 := am ((Y1 : w.heap.size ≤ gb1096)); have GE1096 := am ((Y1 : w.heap.size ≤ gb1096)); replace HO1091 := am (Kd.R_below (rq HO1091.out) hb); replace HO1094 := am (Kd.Q_below (Y130) hb); replace HB := am (below_step (bq) hb); clear hb hbox hg; obtain ⟨Ao8, co8, eo8⟩ := Kd.R_slice HO1091.out; subst eo8; have hcz9_0 := bc0 BK1096.out; have hfz9_0 := blk_frozen BK1096.out 0; obtain ⟨Ao10, co10, eo10, _⟩ := Kd.Q_slice HO1094.out; subst eo10) | ((with_reducible refine gate_callee (f := 35) rfl ?_); refine gL (some 20) Try.func35 #[.agg #[.slice Ao8 t1089.length co8], .slice Ao10 t1092.length co10, .int .i64 t1095] ?_; (with_reducible refine (impl_TryOf.calls k _ _ t1089 _ _ t1092 t1095 t1097 _ ?side1 ?side2 ?side3 ?side4 A4.out).mono ?_); (case side1 => refine (Kd.R_reads' (e := 87) (base := w.heap.size) (ok := fun k_ => True) (n := t1089.length) (c := co8) ?_).2.2; exact (Y169)); (case side2 => exact (Kd.R_reads' HO1091.out).2.1); (case side3 => refine (Kd.Q_reads' (e := 52) (base := w.heap.size) (ok := fun k_ => True) (n := t1092.length) (c := co10) ?_).2.2; exact (Y170)); (case side4 => exact (Kd.Q_reads' HO1094.out).2.1); rintro e w11 ⟨v1098, rfl, ho0, hb⟩; refine ⟨_, rfl, ?_⟩; have HO1099 := am (Kd.R_lower ho0 (below_size (Y34))); replace HO1091 := am (Kd.R_below (Y169) hb); replace HO1094 := am (Kd.Q_below (Y170) hb); replace BK1096 := am (blk_below (g := gb1096) (o := .cells #[.slice Ao8 t1089.length co8] 32 (0, 0)) (by (with_reducible repeat (first | refine blk_drewN ?_ _ | refine blk_drew ?_ | refine blk_alloc ?_ _)); refine blk_put (cs := #[.slice none 0 0]) ?_ 0 _ rfl; (with_reducible repeat (first | refine blk_drewN ?_ _ | refine blk_drew ?_ | refine blk_alloc ?_ _)); exact BK1096.out) hb); replace HB := am (below_step (Y34) hb); (try clear hb); (try clear hb2); (try clear hk); (try clear hi); (try clear ho0)))
  (try simp only [Act.put, List.setIfInBounds_toArray, List.set_cons_zero, List.set_cons_succ])
  go_cut [32] (fun v32 wc => ∃ (kq : Nat) (x32_4 : Bool), v32 = .bool x32_4 ∧ Aside0 (laws_FnTryOf.j0 kq t1092 t1095 t1097 x32_4 t1089 = some r) ∧ Aside0 (kq ≤ k) ∧ Aside0 (Kd.Q k52 52 wc w.heap.size (fun _ => True) (.slice Ao10 t1092.length co10) t1092) ∧ Aside0 (Kd.R (Kd.int .i64) 3 wc w.heap.size (fun _ => True) v1098 t1097) ∧ Aside0 (Kd.R k87 87 wc w.heap.size (fun _ => True) (.slice Ao8 t1089.length co8) t1089) ∧ Aside0 (wc.heap[gb1096]? = some (.cells #[(.slice Ao8 t1089.length co8)] 32 (0, 0))) ∧ Aside0 (Below w.heap.size w wc))
  case first =>
   have H := HC5.out
   clear HC5
   replace H := Option.bind_eq_some_iff.mp H
   obtain ⟨t1100, A120, H⟩ := H
   replace H : ((laws_equalInts.f k t1097 t1100).bind fun t1103 => (if t1103 = true then (laws_FnTryOf.j0 k t1092 t1095 t1097 ((t1097.length : Int) == 0) t1089) else (laws_FnTryOf.j0 k t1092 t1095 t1097 true t1089))) = some r := H
   have A12 := am A120
   clear A120
   replace H := Option.bind_eq_some_iff.mp H
   obtain ⟨t1103, A130, H⟩ := H
   replace H : (if t1103 = true then (laws_FnTryOf.j0 k t1092 t1095 t1097 ((t1097.length : Int) == 0) t1089) else (laws_FnTryOf.j0 k t1092 t1095 t1097 true t1089)) = some r := H
   have A13 := am A130
   clear A130
   by_cases c14 : t1103 = true
   ·subst c14
    have H1 : (laws_FnTryOf.j0 k t1092 t1095 t1097 ((t1097.length : Int) == 0) t1089) = some r := by rw [if_pos rfl] at H; exact H
    clear H
    have H := H1
    clear H1
    have H' := am H
    clear H
    have hcz15_0 := bc0 BK1096.out
    have hfz15_0 := blk_frozen BK1096.out 0
    go_wp2_with (first | ((with_reducible refine gate_callee (f := 36) rfl ?_); refine gL (some 25) Try.func36 #[.agg #[.slice Ao8 t1089.length co8], .slice Ao10 t1092.length co10, .int .i64 t1095] ?_; (with_reducible refine (spec_TryOf.calls k _ _ t1089 _ _ t1092 t1095 t1100 _ ?side1 ?side2 ?side3 ?side4 A12.out).mono ?_); (case side1 => exact cq (Kd.R_reads' HO1091.out).2.2); (case side2 => exact (Kd.R_reads' HO1091.out).2.1); (case side3 => exact cq (Kd.Q_reads' HO1094.out).2.2); (case side4 => exact (Kd.Q_reads' HO1094.out).2.1); rintro e w16 ⟨v1101, rfl, ho0, hb⟩; refine ⟨_, rfl, ?_⟩; have HO1102 := am (Kd.R_lower (Kd.R_new' ho0 (Kd.R_lt (rq HO1099.out))) (below_size (Y34))); replace HO1091 := am (Kd.R_below (rq HO1091.out) hb); replace HO1094 := am (Kd.Q_below (Y130) hb); replace HO1099 := am (Kd.R_elder' (rq HO1099.out) (Kd.R_base ho0) hb); replace BK1096 := am (blk_below (g := gb1096) (o := .cells #[.slice Ao8 t1089.length co8] 32 (0, 0)) (kq BK1096.out) hb); replace HB := am (below_step (Y34) hb); (try clear hb); (try clear hb2); (try clear hk); (try clear hi); (try clear ho0); obtain ⟨Ao17, co17, eo17⟩ := Kd.R_slice HO1099.out; subst eo17; obtain ⟨Ao18, co18, eo18⟩ := Kd.R_slice HO1102.out; subst eo18) | ((with_reducible refine gate_callee (f := 27) rfl ?_); refine gL (some 26) Try.func27 #[.slice Ao17 t1097.length co17, .slice Ao18 t1100.length co18] ?_; (with_reducible refine (laws_equalInts.calls k _ _ t1097 _ _ t1100 true _ ?side1 ?side2 ?side3 ?side4 A13.out).mono ?_); (case side1 => exact cq (Kd.R_reads' HO1099.out).2.2); (case side2 => exact (Kd.R_reads' HO1099.out).2.1); (case side3 => exact cq (Kd.R_reads' HO1102.out).2.2); (case side4 => exact (Kd.R_reads' HO1102.out).2.1); rintro e w' ⟨rfl, ⟨nd, rfl⟩⟩; refine ⟨_, rfl, ?_⟩))
    go_meet
    case rel => exact ⟨_, (((t1097.length : Int) == 0)), (sq), H', ⟨Y35⟩, ⟨by (with_reducible repeat (first | apply Kd.Q_alloc | apply Kd.Q_drewN | apply Kd.Q_drew)); exact HO1094.out⟩, ⟨by (with_reducible repeat (first | apply Kd.R_alloc | apply Kd.R_drewN | apply Kd.R_drew)); exact Kd.R_mono HO1099.out (fun _ hk => trivial)⟩, ⟨rq HO1091.out⟩, ⟨kq BK1096.out⟩, ⟨Y34⟩⟩
   ·replace c14 := Bool.eq_false_iff.mpr c14
    subst c14
    have H1 : (laws_FnTryOf.j0 k t1092 t1095 t1097 true t1089) = some r := by rw [if_neg (show ¬ (false = true) by decide)] at H; exact H
    clear H
    have H := H1
    clear H1
    have H' := am H
    clear H
    have hcz19_0 := bc0 BK1096.out
    have hfz19_0 := blk_frozen BK1096.out 0
    go_wp2_with (first | ((with_reducible refine gate_callee (f := 36) rfl ?_); refine gL (some 25) Try.func36 #[.agg #[.slice Ao8 t1089.length co8], .slice Ao10 t1092.length co10, .int .i64 t1095] ?_; (with_reducible refine (spec_TryOf.calls k _ _ t1089 _ _ t1092 t1095 t1100 _ ?side1 ?side2 ?side3 ?side4 A12.out).mono ?_); (case side1 => exact cq (Kd.R_reads' HO1091.out).2.2); (case side2 => exact (Kd.R_reads' HO1091.out).2.1); (case side3 => exact cq (Kd.Q_reads' HO1094.out).2.2); (case side4 => exact (Kd.Q_reads' HO1094.out).2.1); rintro e w20 ⟨v1101, rfl, ho0, hb⟩; refine ⟨_, rfl, ?_⟩; have HO1102 := am (Kd.R_lower (Kd.R_new' ho0 (Kd.R_lt (rq HO1099.out))) (below_size (Y34))); replace HO1091 := am (Kd.R_below (rq HO1091.out) hb); replace HO1094 := am (Kd.Q_below (Y130) hb); replace HO1099 := am (Kd.R_elder' (rq HO1099.out) (Kd.R_base ho0) hb); replace BK1096 := am (blk_below (g := gb1096) (o := .cells #[.slice Ao8 t1089.length co8] 32 (0, 0)) (kq BK1096.out) hb); replace HB := am (below_step (Y34) hb); (try clear hb); (try clear hb2); (try clear hk); (try clear hi); (try clear ho0); obtain ⟨Ao21, co21, eo21⟩ := Kd.R_slice HO1099.out; subst eo21; obtain ⟨Ao22, co22, eo22⟩ := Kd.R_slice HO1102.out; subst eo22) | ((with_reducible refine gate_callee (f := 27) rfl ?_); refine gL (some 26) Try.func27 #[.slice Ao21 t1097.length co21, .slice Ao22 t1100.length co22] ?_; (with_reducible refine (laws_equalInts.calls k _ _ t1097 _ _ t1100 false _ ?side1 ?side2 ?side3 ?side4 A13.out).mono ?_); (case side1 => exact cq (Kd.R_reads' HO1099.out).2.2); (case side2 => exact (Kd.R_reads' HO1099.out).2.1); (case side3 => exact cq (Kd.R_reads' HO1102.out).2.2); (case side4 => exact (Kd.R_reads' HO1102.out).2.1); rintro e w' ⟨rfl, ⟨nd, rfl⟩⟩; refine ⟨_, rfl, ?_⟩))
    go_meet
    case rel => exact ⟨_, (true), (sq), H', ⟨Y35⟩, ⟨by (with_reducible repeat (first | apply Kd.Q_alloc | apply Kd.Q_drewN | apply Kd.Q_drew)); exact HO1094.out⟩, ⟨by (with_reducible repeat (first | apply Kd.R_alloc | apply Kd.R_drewN | apply Kd.R_drew)); exact Kd.R_mono HO1099.out (fun _ hk => trivial)⟩, ⟨rq HO1091.out⟩, ⟨kq BK1096.out⟩, ⟨Y34⟩⟩
  case rest =>
   clear HC5
   try clear c1
   try clear c2
   try clear c2b0
   try clear c2b1
   try clear p2
   try clear c3
   try clear c7
   try clear c14
   try clear hcz15_0
   try clear hcz19_0
   try clear hcz9_0
   try clear hfz15_0
   try clear hfz19_0
   try clear hfz9_0
   obtain ⟨kq, x32_4, rfl, HA, HJ4, HO_4, HO_6, HO_1097000, BK1096, HB⟩ := hcut
   cases kq with
   | zero => exact absurd HA.out (by simp [laws_FnTryOf.j0])
   | succ kj4 =>
    have H := HA.out
    clear HA
    simp only [laws_FnTryOf.j0] at H
    by_cases c23 : x32_4 = true
    ·subst c23
     have H1 : ((spec_TryOf.f kj4 t1089 t1092 t1095).bind fun t1104 => ((laws_equalInts.f kj4 t1097 t1104).bind fun t1107 => (some t1107))) = some r := by rw [if_pos rfl] at H; exact H
     clear H
     have H := H1
     clear H1
     replace H := Option.bind_eq_some_iff.mp H
     obtain ⟨t1104, A240, H⟩ := H
     replace H : ((laws_equalInts.f kj4 t1097 t1104).bind fun t1107 => (some t1107)) = some r := H
     have A24 := am A240
     clear A240
     replace H := Option.bind_eq_some_iff.mp H
     obtain ⟨t1107, A250, H⟩ := H
     replace H : (some t1107) = some r := H
     have A25 := am A250
     clear A250
     obtain rfl := Option.some.inj H
     have hcz26_0 := bc0 BK1096.out
     have hfz26_0 := blk_frozen BK1096.out 0
     go_wp2_with (first | ((with_reducible refine gate_callee (f := 36) rfl ?_); refine gL (some 37) Try.func36 #[.agg #[.slice Ao8 t1089.length co8], .slice Ao10 t1092.length co10, .int .i64 t1095] ?_; (with_reducible refine (spec_TryOf.calls kj4 _ _ t1089 _ _ t1092 t1095 t1104 _ ?side1 ?side2 ?side3 ?side4 A24.out).mono ?_); (case side1 => exact cq (Kd.R_reads' HO_1097000.out).2.2); (case side2 => exact (Kd.R_reads' HO_1097000.out).2.1); (case side3 => exact cq (Kd.Q_reads' HO_4.out).2.2); (case side4 => exact (Kd.Q_reads' HO_4.out).2.1); rintro e w27 ⟨v1105, rfl, ho0, hb⟩; refine ⟨_, rfl, ?_⟩; have HO1106 := am (Kd.R_lower (Kd.R_new' ho0 (Kd.R_lt (rq HO_6.out))) (below_size (Y34))); replace HO_4 := am (Kd.Q_below (by (with_reducible repeat (first | apply Kd.Q_alloc | apply Kd.Q_drewN | apply Kd.Q_drew)); exact HO_4.out) hb); replace HO_6 := am (Kd.R_elder' (rq HO_6.out) (Kd.R_base ho0) hb); replace HO_1097000 := am (Kd.R_below (rq HO_1097000.out) hb); replace BK1096 := am (blk_below (g := gb1096) (o := .cells #[.slice Ao8 t1089.length co8] 32 (0, 0)) (kq BK1096.out) hb); replace HB := am (below_step (Y34) hb); (try clear hb); (try clear hb2); (try clear hk); (try clear hi); (try clear ho0); obtain ⟨Ao28, co28, eo28⟩ := Kd.R_slice HO_6.out; subst eo28; obtain ⟨Ao29, co29, eo29⟩ := Kd.R_slice HO1106.out; subst eo29) | ((with_reducible refine gate_callee (f := 27) rfl ?_); refine gL (some 38) Try.func27 #[.slice Ao28 t1097.length co28, .slice Ao29 t1104.length co29] ?_; (with_reducible refine (laws_equalInts.calls kj4 _ _ t1097 _ _ t1104 t1107 _ ?side1 ?side2 ?side3 ?side4 A25.out).mono ?_); (case side1 => exact cq (Kd.R_reads' HO_6.out).2.2); (case side2 => exact (Kd.R_reads' HO_6.out).2.1); (case side3 => exact cq (Kd.R_reads' HO1106.out).2.2); (case side4 => exact (Kd.R_reads' HO1106.out).2.1); rintro e w' ⟨rfl, ⟨nd, rfl⟩⟩; refine ⟨_, rfl, ?_⟩))
     go_ret
     exact ⟨Y0, Y34⟩
    ·replace c23 := Bool.eq_false_iff.mpr c23
     subst c23
     have H1 : (laws_FnTryOf.l0 kj4 t1092 t1095 t1097 0 t1089) = some r := by rw [if_neg (show ¬ (false = true) by decide)] at H; exact H
     clear H
     have H := H1
     clear H1
     have H' := am H
     clear H
     go_wp2
     go_loopg [7] kj4 (fun kq v7 w' => ∃ (x7_2 : Int), v7 = .int .i64 x7_2 ∧ Aside0 (laws_FnTryOf.l0 kq t1092 t1095 t1097 x7_2 t1089 = some r) ∧ Aside0 (kq ≤ kj4) ∧ Aside0 (Kd.Q k52 52 w' w.heap.size (fun _ => True) (.slice Ao10 t1092.length co10) t1092) ∧ Aside0 (Kd.R (Kd.int .i64) 3 w' w.heap.size (fun _ => True) v1098 t1097) ∧ Aside0 (Kd.R k87 87 w' w.heap.size (fun _ => True) (.slice Ao8 t1089.length co8) t1089) ∧ Aside0 (w'.heap[gb1096]? = some (.cells #[(.slice Ao8 t1089.length co8)] 32 (0, 0))) ∧ Aside0 (Below w.heap.size w w'))
     case atStart => exact ⟨(0), (sq), H', ⟨Nat.le_refl _⟩, ⟨by (with_reducible repeat (first | apply Kd.Q_alloc | apply Kd.Q_drewN | apply Kd.Q_drew)); exact HO_4.out⟩, ⟨rq HO_6.out⟩, ⟨rq HO_1097000.out⟩, ⟨kq BK1096.out⟩, ⟨Y34⟩⟩
     case round =>
      clear H'
      try clear c1
      try clear c2
      try clear c2b0
      try clear c2b1
      try clear p2
      try clear c3
      try clear c7
      try clear c14
      try clear c23
      try clear c27
      try clear hcz15_0
      try clear hcz19_0
      try clear hcz26_0
      try clear hcz9_0
      try clear hfz15_0
      try clear hfz19_0
      try clear hfz26_0
      try clear hfz9_0
      try clear p2
      obtain ⟨x7_2, rfl, HA, HK2, HO_4, HO_6, HO_1097000, BK1096, HB⟩ := hrel
      cases gk with
      | zero => exact absurd HA.out (by simp [laws_FnTryOf.l0])
      | succ k2 =>
       have H := HA.out
       clear HA
       simp only [laws_FnTryOf.l0] at H
       by_cases c30 : x7_2 < (t1097.length : Int)
       ·rw [if_pos c30] at H
        have c30b0 : decide (x7_2 < (t1097.length : Int)) = true := decide_eq_true c30
        clear c30
        by_cases c31 : 0 ≤ x7_2
        ·rw [if_pos c31] at H
         have c31b0 : decide (0 ≤ x7_2) = true := decide_eq_true c31
         clear c31
         replace H := Option.bind_eq_some_iff.mp H
         obtain ⟨t1109, A320, H⟩ := H
         replace H : ((laws_equalInts.f k2 t1109 t1097).bind fun t1112 => (if t1112 = true then (if 0 ≤ (rd t1097 x7_2) then (if (rd t1097 x7_2) < (t1092.length : Int) then (if 0 ≤ t1095 then (if t1095 < (t1092.length : Int) then (if ((rd_T52 t1092 (rd t1097 x7_2)).f0) = ((rd_T52 t1092 t1095).f0) then (laws_FnTryOf.l0 k2 t1092 t1095 t1097 (wrap64 (x7_2 + 1)) t1089) else (some false)) else (none)) else (none)) else (none)) else (none)) else (some false))) = some r := H
         have A32 := am A320
         clear A320
         replace H := Option.bind_eq_some_iff.mp H
         obtain ⟨t1112, A330, H⟩ := H
         replace H : (if t1112 = true then (if 0 ≤ (rd t1097 x7_2) then (if (rd t1097 x7_2) < (t1092.length : Int) then (if 0 ≤ t1095 then (if t1095 < (t1092.length : Int) then (if ((rd_T52 t1092 (rd t1097 x7_2)).f0) = ((rd_T52 t1092 t1095).f0) then (laws_FnTryOf.l0 k2 t1092 t1095 t1097 (wrap64 (x7_2 + 1)) t1089) else (some false)) else (none)) else (none)) else (none)) else (none)) else (some false)) = some r := H
         have A33 := am A330
         clear A330
         by_cases c34 : t1112 = true
         ·subst c34
          have H1 : (if 0 ≤ (rd t1097 x7_2) then (if (rd t1097 x7_2) < (t1092.length : Int) then (if 0 ≤ t1095 then (if t1095 < (t1092.length : Int) then (if ((rd_T52 t1092 (rd t1097 x7_2)).f0) = ((rd_T52 t1092 t1095).f0) then (laws_FnTryOf.l0 k2 t1092 t1095 t1097 (wrap64 (x7_2 + 1)) t1089) else (some false)) else (none)) else (none)) else (none)) else (none)) = some r := by rw [if_pos rfl] at H; exact H
          clear H
          have H := H1
          clear H1
          by_cases c35 : 0 ≤ (rd t1097 x7_2)
          ·rw [if_pos c35] at H
           have c35b0 : decide (0 ≤ (rd t1097 x7_2)) = true := decide_eq_true c35
           clear c35
           by_cases c36 : (rd t1097 x7_2) < (t1092.length : Int)
           ·rw [if_pos c36] at H
            have c36b0 : decide ((rd t1097 x7_2) < (t1092.length : Int)) = true := decide_eq_true c36
            clear c36
            by_cases c37 : 0 ≤ t1095
            ·rw [if_pos c37] at H
             have c37b0 : decide (0 ≤ t1095) = true := decide_eq_true c37
             clear c37
             by_cases c38 : t1095 < (t1092.length : Int)
             ·rw [if_pos c38] at H
              have c38b0 : decide (t1095 < (t1092.length : Int)) = true := decide_eq_true c38
              clear c38
              by_cases c39 : ((rd_T52 t1092 (rd t1097 x7_2)).f0) = ((rd_T52 t1092 t1095).f0)
              ·rw [if_pos c39] at H
               have c39b0 : (((rd_T52 t1092 (rd t1097 x7_2)).f0) == ((rd_T52 t1092 t1095).f0)) = true := beq_iff_eq.mpr c39
               have c39b1 : (((rd_T52 t1092 (rd t1097 x7_2)).f0) != ((rd_T52 t1092 t1095).f0)) = false := bne_eq_false_iff_eq.mpr c39
               clear c39
               have H' := am H
               clear H
               obtain ⟨Ao40, co40, eo40⟩ := Kd.R_slice HO_6.out
               subst eo40
               try go_wp2
               replace HO_4 := am (Kd.Q_drew HO_4.out)
               replace HO_6 := am (Kd.R_drew HO_6.out)
               replace HO_1097000 := am (Kd.R_drew HO_1097000.out)
               replace BK1096 := am (blk_drew BK1096.out)
               replace HB := am (below_drew1 HB.out)
               have p1108 : 0 ≤ (x7_2 : Int) := of_decide_eq_true (uq)
               have q1108 : x7_2 < (t1097.length : Int) := of_decide_eq_true (uq)
               obtain ⟨ad1108, e1108, hx1108_0⟩ := Kd.at_int (Kd.R_reads' HO_6.out).2.2 x7_2 p1108 q1108
               cases e1108
               replace p1108 := eq_true p1108
               replace q1108 := eq_true q1108
               have p1113 : 0 ≤ (x7_2 : Int) := of_decide_eq_true (uq)
               have q1113 : x7_2 < (t1097.length : Int) := of_decide_eq_true (uq)
               obtain ⟨ad1113, e1113, hx1113_0⟩ := Kd.at_int (Kd.R_reads' HO_6.out).2.2 x7_2 p1113 q1113
               obtain rfl : ad1108 = ad1113 := (by injection e1113)
               replace p1113 := eq_true p1113
               replace q1113 := eq_true q1113
               have p1114 : 0 ≤ ((rd t1097 x7_2) : Int) := of_decide_eq_true (uq)
               have q1114 : (rd t1097 x7_2) < (t1092.length : Int) := of_decide_eq_true (uq)
               obtain ⟨ad1114, e1114, hx1114_0, hx1114_1, hx1114_2, hx1114_3⟩ := at_T52 (Kd.Q_reads' HO_4.out).2.2 (rd t1097 x7_2) p1114 q1114
               cases e1114
               replace p1114 := eq_true p1114
               replace q1114 := eq_true q1114
               have p1115 : 0 ≤ (t1095 : Int) := of_decide_eq_true (uq)
               have q1115 : t1095 < (t1092.length : Int) := of_decide_eq_true (uq)
               obtain ⟨ad1115, e1115, hx1115_0, hx1115_1, hx1115_2, hx1115_3⟩ := at_T52 (Kd.Q_reads' HO_4.out).2.2 t1095 p1115 q1115
               obtain rfl : ad1114 = ad1115 := (by injection e1115)
               replace p1115 := eq_true p1115
               replace q1115 := eq_true q1115
               refine start_ (n := 26) (S := fun w' => w'.cell? ⟨gb1096, 0, none⟩ = some (.slice Ao8 t1089.length co8) ∧ w'.cell? (ad1108.add (x7_2).toNat) = some (.int .i64 (rd t1097 x7_2)) ∧ w'.cell? (ad1108.add (x7_2).toNat) = some (.int .i64 (rd t1097 x7_2)) ∧ w'.cell? (ad1114.add (((rd t1097 x7_2)).toNat * 4)) = some (.int .i64 ((rd_T52 t1092 (rd t1097 x7_2)).f0)) ∧ w'.cell? ⟨(ad1114.add (((rd t1097 x7_2)).toNat * 4)).block, (ad1114.add (((rd t1097 x7_2)).toNat * 4)).off + 1, none⟩ = some (.int .i64 ((rd_T52 t1092 (rd t1097 x7_2)).f1)) ∧ w'.cell? ⟨(ad1114.add (((rd t1097 x7_2)).toNat * 4)).block, (ad1114.add (((rd t1097 x7_2)).toNat * 4)).off + 2, none⟩ = some (.int .i64 ((rd_T52 t1092 (rd t1097 x7_2)).f2)) ∧ w'.cell? ⟨(ad1114.add (((rd t1097 x7_2)).toNat * 4)).block, (ad1114.add (((rd t1097 x7_2)).toNat * 4)).off + 3, none⟩ = some (.int .i64 ((rd_T52 t1092 (rd t1097 x7_2)).f3)) ∧ w'.cell? (ad1114.add ((t1095).toNat * 4)) = some (.int .i64 ((rd_T52 t1092 t1095).f0)) ∧ w'.cell? ⟨(ad1114.add ((t1095).toNat * 4)).block, (ad1114.add ((t1095).toNat * 4)).off + 1, none⟩ = some (.int .i64 ((rd_T52 t1092 t1095).f1)) ∧ w'.cell? ⟨(ad1114.add ((t1095).toNat * 4)).block, (ad1114.add ((t1095).toNat * 4)).off + 2, none⟩ = some (.int .i64 ((rd_T52 t1092 t1095).f2)) ∧ w'.cell? ⟨(ad1114.add ((t1095).toNat * 4)).block, (ad1114.add ((t1095).toNat * 4)).off + 3, none⟩ = some (.int .i64 ((rd_T52 t1092 t1095).f3))) (ds := []) #[false, false, false, false, false, false, false, false, false, false, false, false, false, false, false, false, false, false, false, false, false, false, false, false, false, false] (by kernel_rfl) rfl rfl ⟨(blk_cell BK1096.out 0).trans rfl, hx1108_0, hx1113_0, hx1114_0, hx1114_1, hx1114_2, hx1114_3, hx1115_0, hx1115_1, hx1115_2, hx1115_3⟩ (fun hHeld => ?_); refine with_tabW laws_FnTryOf.tab10 laws_FnTryOf.bits10 (fun HT_ HW_ => ?_)
               generalize wr.drew = w41 at HO_4 HO_6 HO_1097000 BK1096 HB hx1108_0 hx1113_0 hx1114_0 hx1114_1 hx1114_2 hx1114_3 hx1115_0 hx1115_1 hx1115_2 hx1115_3 hHeld ⊢
               refine pq (i := 1) (N := some 46) #[false, true, false, false, false, false, false, false, false, false, false, false, false, false, false, false, false, false, false, false, false, false, false, false, false, false] ?_
               refine pq (i := 2) (N := some 47) #[false, true, true, false, false, false, false, false, false, false, false, false, false, false, false, false, false, false, false, false, false, false, false, false, false, false] ?_
               refine pq (i := 3) (N := some 48) #[false, true, true, true, false, false, false, false, false, false, false, false, false, false, false, false, false, false, false, false, false, false, false, false, false, false] ?_
               refine pq (i := 4) (N := some 49) #[false, true, true, true, true, false, false, false, false, false, false, false, false, false, false, false, false, false, false, false, false, false, false, false, false, false] ?_
               refine pq (i := 7) (N := some 52) #[false, true, true, true, true, false, false, true, false, false, false, false, false, false, false, false, false, false, false, false, false, false, false, false, false, false] ?_
               refine take_ (i := 0) (N := some 45) (v := ?_) (a' := ?_) #[true, true, true, true, true, false, false, true, false, false, false, false, false, false, false, false, false, false, false, false, false, false, false, false, false, false] rfl rfl (take_ofW HT_.out HW_.out (by kernel_rfl)) (fun _ _ _ h => h) (Or.inl ⟨by rfl, ?_⟩) hHeld ?_ ?_
               rotate_left
               ·rintro w' ⟨s0, s1, s2, s3, s4, s5, s6, s7, s8, s9, s10⟩
                go_simp
                with_reducible rfl
               rotate_left
               ·exact sa
               refine take_ (i := 5) (N := some 50) (v := ?_) (a' := ?_) #[true, true, true, true, true, true, false, true, false, false, false, false, false, false, false, false, false, false, false, false, false, false, false, false, false, false] rfl rfl (take_ofW HT_.out HW_.out (by kernel_rfl)) (fun _ _ _ h => h) (Or.inl ⟨by rfl, ?_⟩) hHeld ?_ ?_
               rotate_left
               ·rintro w' ⟨s0, s1, s2, s3, s4, s5, s6, s7, s8, s9, s10⟩
                go_simp
                with_reducible rfl
               rotate_left
               ·exact sa
               refine one_ (i := 6) (N := some 51) #[true, true, true, true, true, true, true, true, false, false, false, false, false, false, false, false, false, false, false, false, false, false, false, false, false, false] rfl rfl (one_of HT_.out (by kernel_rfl)) (by decide) (fun K hK => ?_)
               refine goes_ Try.func35 (by kernel_rfl) rfl #[.agg #[.slice Ao8 t1089.length co8], .slice _ t1092.length co10, .int .i64 (rd t1097 x7_2)] (by rfl) rfl rfl (aq) ?_
               with_reducible refine (impl_TryOf.calls k2 _ _ t1089 _ _ t1092 (rd t1097 x7_2) t1109 _ ?side1 ?side2 ?side3 ?side4 A32.out).mono ?_
               (case side1 => exact cq (Kd.R_reads' HO_1097000.out).2.2)
               (case side2 => exact (Kd.R_reads' HO_1097000.out).2.1)
               (case side3 => exact cq (Kd.Q_reads' HO_4.out).2.2)
               (case side4 => exact (Kd.Q_reads' HO_4.out).2.1)
               rintro e w42 ⟨v1110, rfl, ho0, hb⟩
               have HS1_ := (hb.cell (World.block_lt_of_cell? _ _ (hHeld.2.1))).trans (hHeld.2.1)
               have HS2_ := (hb.cell (World.block_lt_of_cell? _ _ (hHeld.2.2.1))).trans (hHeld.2.2.1)
               have HS3_ := (hb.cell (World.block_lt_of_cell? _ _ (hHeld.2.2.2.1))).trans (hHeld.2.2.2.1)
               have HS4_ := (hb.cell (World.block_lt_of_cell? _ _ (hHeld.2.2.2.2.1))).trans (hHeld.2.2.2.2.1)
               have HS5_ := (hb.cell (World.block_lt_of_cell? _ _ (hHeld.2.2.2.2.2.1))).trans (hHeld.2.2.2.2.2.1)
               have HS6_ := (hb.cell (World.block_lt_of_cell? _ _ (hHeld.2.2.2.2.2.2.1))).trans (hHeld.2.2.2.2.2.2.1)
               have HS7_ := (hb.cell (World.block_lt_of_cell? _ _ (hHeld.2.2.2.2.2.2.2.1))).trans (hHeld.2.2.2.2.2.2.2.1)
               have HS8_ := (hb.cell (World.block_lt_of_cell? _ _ (hHeld.2.2.2.2.2.2.2.2.1))).trans (hHeld.2.2.2.2.2.2.2.2.1)
               have HS9_ := (hb.cell (World.block_lt_of_cell? _ _ (hHeld.2.2.2.2.2.2.2.2.2.1))).trans (hHeld.2.2.2.2.2.2.2.2.2.1)
               have HS10_ := (hb.cell (World.block_lt_of_cell? _ _ (hHeld.2.2.2.2.2.2.2.2.2.2))).trans (hHeld.2.2.2.2.2.2.2.2.2.2)
               refine ⟨_, rfl, ?_⟩
               have HO1111 := am (Kd.R_lower (Kd.R_new' ho0 (Kd.R_lt (rq HO_6.out))) (below_size (Y34)))
               replace HO_4 := am (Kd.Q_below (by (with_reducible repeat (first | apply Kd.Q_alloc | apply Kd.Q_drewN | apply Kd.Q_drew)); exact HO_4.out) hb)
               replace HO_6 := am (Kd.R_elder' (rq HO_6.out) (Kd.R_base ho0) hb)
               replace HO_1097000 := am (Kd.R_below (rq HO_1097000.out) hb)
               replace BK1096 := am (blk_below (g := gb1096) (o := .cells #[.slice Ao8 t1089.length co8] 32 (0, 0)) (kq BK1096.out) hb)
               replace HB := am (below_step (Y34) hb)
               (try clear hb)
               (try clear hb2)
               (try clear hk)
               (try clear hi)
               (try clear ho0)
               obtain ⟨Ao43, co43, eo43⟩ := Kd.R_slice HO1111.out
               (first | subst eo43 | (injection eo43 with f1_ f2_ f3_; have f4_ := f1_.symm; have f5_ := f3_.symm; clear f1_ f2_ f3_; subst f4_; subst f5_))
               refine hK.out _ _ ⟨(blk_cell BK1096.out 0).trans rfl, HS1_, HS2_, HS3_, HS4_, HS5_, HS6_, HS7_, HS8_, HS9_, HS10_⟩ (fun hHeld => ?_)
               clear hK K
               refine norm_ (a' := ?_) ?_ ?_
               rotate_left
               ·show Act.put _ (some 51) _ = _
                simp only [Act.put, List.setIfInBounds_toArray, List.set_cons_zero, List.set_cons_succ, i64_w, i32_w]
                rfl
               refine one_ (i := 8) (N := some 53) #[true, true, true, true, true, true, true, true, true, false, false, false, false, false, false, false, false, false, false, false, false, false, false, false, false, false] rfl rfl (one_of HT_.out (by kernel_rfl)) (by decide) (fun K hK => ?_)
               refine goes_ Try.func27 (by kernel_rfl) rfl #[.slice Ao43 t1109.length co43, .slice (some ad1108) t1097.length co40] (by rfl) rfl rfl (aq) ?_
               with_reducible refine (laws_equalInts.calls k2 _ _ t1109 _ _ t1097 true _ ?side1 ?side2 ?side3 ?side4 A33.out).mono ?_
               (case side1 => exact cq (Kd.R_reads' HO1111.out).2.2)
               (case side2 => exact (Kd.R_reads' HO1111.out).2.1)
               (case side3 => exact cq (Kd.R_reads' HO_6.out).2.2)
               (case side4 => exact (Kd.R_reads' HO_6.out).2.1)
               rintro e w' ⟨rfl, ⟨nd, rfl⟩⟩
               refine ⟨_, rfl, ?_⟩
               refine hK.out _ _ ⟨(blk_cell BK1096.out 0).trans rfl, hHeld.2.1, hHeld.2.2.1, hHeld.2.2.2.1, hHeld.2.2.2.2.1, hHeld.2.2.2.2.2.1, hHeld.2.2.2.2.2.2.1, hHeld.2.2.2.2.2.2.2.1, hHeld.2.2.2.2.2.2.2.2.1, hHeld.2.2.2.2.2.2.2.2.2.1, hHeld.2.2.2.2.2.2.2.2.2.2⟩ (fun hHeld => ?_)
               clear hK K
               refine norm_ (a' := ?_) ?_ ?_
               rotate_left
               ·show Act.put _ (some 53) _ = _
                simp only [Act.put, List.setIfInBounds_toArray, List.set_cons_zero, List.set_cons_succ, i64_w, i32_w]
                rfl
               refine pq (i := 9) (N := some 54) #[true, true, true, true, true, true, true, true, true, true, false, false, false, false, false, false, false, false, false, false, false, false, false, false, false, false] ?_
               refine pq (i := 10) (N := some 55) #[true, true, true, true, true, true, true, true, true, true, true, false, false, false, false, false, false, false, false, false, false, false, false, false, false, false] ?_
               refine pq (i := 11) (N := some 56) #[true, true, true, true, true, true, true, true, true, true, true, true, false, false, false, false, false, false, false, false, false, false, false, false, false, false] ?_
               refine pq (i := 12) (N := some 57) #[true, true, true, true, true, true, true, true, true, true, true, true, true, false, false, false, false, false, false, false, false, false, false, false, false, false] ?_
               refine pq (i := 13) (N := some 58) #[true, true, true, true, true, true, true, true, true, true, true, true, true, true, false, false, false, false, false, false, false, false, false, false, false, false] ?_
               refine pq (i := 14) (N := some 59) #[true, true, true, true, true, true, true, true, true, true, true, true, true, true, true, false, false, false, false, false, false, false, false, false, false, false] ?_
               refine pq (i := 19) (N := some 64) #[true, true, true, true, true, true, true, true, true, true, true, true, true, true, true, false, false, false, false, true, false, false, false, false, false, false] ?_
               refine pq (i := 20) (N := some 65) #[true, true, true, true, true, true, true, true, true, true, true, true, true, true, true, false, false, false, false, true, true, false, false, false, false, false] ?_
               refine pq (i := 21) (N := some 66) #[true, true, true, true, true, true, true, true, true, true, true, true, true, true, true, false, false, false, false, true, true, true, false, false, false, false] ?_
               refine pq (i := 22) (N := some 67) #[true, true, true, true, true, true, true, true, true, true, true, true, true, true, true, false, false, false, false, true, true, true, true, false, false, false] ?_
               refine take_ (i := 15) (N := some 60) (v := ?_) (a' := ?_) #[true, true, true, true, true, true, true, true, true, true, true, true, true, true, true, true, false, false, false, true, true, true, true, false, false, false] rfl rfl (take_ofW HT_.out HW_.out (by kernel_rfl)) (fun _ _ _ h => h) (Or.inl ⟨by rfl, ?_⟩) hHeld ?_ ?_
               rotate_left
               ·rintro w' ⟨s0, s1, s2, s3, s4, s5, s6, s7, s8, s9, s10⟩
                go_simp
                with_reducible rfl
               rotate_left
               ·exact sa
               refine pq (i := 16) (N := some 61) #[true, true, true, true, true, true, true, true, true, true, true, true, true, true, true, true, true, false, false, true, true, true, true, false, false, false] ?_
               refine pq (i := 17) (N := some 62) #[true, true, true, true, true, true, true, true, true, true, true, true, true, true, true, true, true, true, false, true, true, true, true, false, false, false] ?_
               refine take_ (i := 18) (N := some 63) (v := ?_) (a' := ?_) #[true, true, true, true, true, true, true, true, true, true, true, true, true, true, true, true, true, true, true, true, true, true, true, false, false, false] rfl rfl (take_ofW HT_.out HW_.out (by kernel_rfl)) (fun _ _ _ h => h) (Or.inl ⟨by rfl, ?_⟩) hHeld ?_ ?_
               rotate_left
               ·rintro w' ⟨s0, s1, s2, s3, s4, s5, s6, s7, s8, s9, s10⟩
                go_simp
                with_reducible rfl
               rotate_left
               ·exact sa
               refine take_ (i := 23) (N := some 68) (v := ?_) (a' := ?_) #[true, true, true, true, true, true, true, true, true, true, true, true, true, true, true, true, true, true, true, true, true, true, true, true, false, false] rfl rfl (take_ofW HT_.out HW_.out (by kernel_rfl)) (fun _ _ _ h => h) (Or.inl ⟨by rfl, ?_⟩) hHeld ?_ ?_
               rotate_left
               ·rintro w' ⟨s0, s1, s2, s3, s4, s5, s6, s7, s8, s9, s10⟩
                go_simp
                with_reducible rfl
               rotate_left
               ·exact sa
               refine pq (i := 24) (N := some 69) #[true, true, true, true, true, true, true, true, true, true, true, true, true, true, true, true, true, true, true, true, true, true, true, true, true, false] ?_
               refine pq (i := 25) (N := some 70) #[true, true, true, true, true, true, true, true, true, true, true, true, true, true, true, true, true, true, true, true, true, true, true, true, true, true] ?_
               refine done_ (done_of HT_.out (by kernel_rfl)) ?_
               try go_wp2
               go_roundg k2
               case measure => have := HJ4.out; have := HK2.out; omega
               case rel => exact ⟨(wrap64 (x7_2 + 1)), (sq), H', ⟨by have := HJ4.out; have := HK2.out; omega⟩, ⟨by (with_reducible repeat (first | apply Kd.Q_alloc | apply Kd.Q_drewN | apply Kd.Q_drew)); exact HO_4.out⟩, ⟨by (with_reducible repeat (first | apply Kd.R_alloc | apply Kd.R_drewN | apply Kd.R_drew)); exact Kd.R_mono HO_6.out (fun _ hk => trivial)⟩, ⟨rq HO_1097000.out⟩, ⟨kq BK1096.out⟩, ⟨Y34⟩⟩
              ·rw [if_neg c39] at H
               have c39b0 : (((rd_T52 t1092 (rd t1097 x7_2)).f0) == ((rd_T52 t1092 t1095).f0)) = false := beq_eq_false_iff_ne.mpr c39
               have c39b1 : (((rd_T52 t1092 (rd t1097 x7_2)).f0) != ((rd_T52 t1092 t1095).f0)) = true := bne_iff_ne.mpr c39
               exact absurd ((Option.some.inj H).trans hT) Bool.false_ne_true
             ·rw [if_neg c38] at H
              exact absurd H (by simp)
            ·rw [if_neg c37] at H
             exact absurd H (by simp)
           ·rw [if_neg c36] at H
            exact absurd H (by simp)
          ·rw [if_neg c35] at H
           exact absurd H (by simp)
         ·replace c34 := Bool.eq_false_iff.mpr c34
          subst c34
          have H1 : (some false) = some r := by rw [if_neg (show ¬ (false = true) by decide)] at H; exact H
          clear H
          have H := H1
          clear H1
          exact absurd ((Option.some.inj H).trans hT) Bool.false_ne_true
        ·rw [if_neg c31] at H
         exact absurd H (by simp)
       ·rw [if_neg c30] at H
        have c30b0 : decide (x7_2 < (t1097.length : Int)) = false := decide_eq_false c30
        clear c30
        by_cases c44 : 0 < (t1097.length : Int)
        ·rw [if_pos c44] at H
         have c44b0 : decide (0 < (t1097.length : Int)) = true := decide_eq_true c44
         have c44b1 : decide (0 < t1097.length) = true := decide_eq_true (by omega)
         clear c44
         by_cases c45 : 0 ≤ (rd t1097 0)
         ·rw [if_pos c45] at H
          have c45b0 : decide (0 ≤ (rd t1097 0)) = true := decide_eq_true c45
          clear c45
          by_cases c46 : (rd t1097 0) < (t1092.length : Int)
          ·rw [if_pos c46] at H
           have c46b0 : decide ((rd t1097 0) < (t1092.length : Int)) = true := decide_eq_true c46
           clear c46
           by_cases c47 : ((rd_T52 t1092 (rd t1097 0)).f1) = 7
           ·rw [if_pos c47] at H
            have c47b0 : (((rd_T52 t1092 (rd t1097 0)).f1) == 7) = true := beq_iff_eq.mpr c47
            have c47b1 : (((rd_T52 t1092 (rd t1097 0)).f1) != 7) = false := bne_eq_false_iff_eq.mpr c47
            clear c47
            replace H := Option.bind_eq_some_iff.mp H
            obtain ⟨t1118, A480, H⟩ := H
            replace H : (if t1118 = true then ((laws_ascends.f k2 t1097).bind fun t1119 => (if t1119 = true then (some (decide ((t1097.length : Int) > 1))) else (some false))) else (some false)) = some r := H
            have A48 := am A480
            clear A480
            by_cases c49 : t1118 = true
            ·subst c49
             have H1 : ((laws_ascends.f k2 t1097).bind fun t1119 => (if t1119 = true then (some (decide ((t1097.length : Int) > 1))) else (some false))) = some r := by rw [if_pos rfl] at H; exact H
             clear H
             have H := H1
             clear H1
             replace H := Option.bind_eq_some_iff.mp H
             obtain ⟨t1119, A500, H⟩ := H
             replace H : (if t1119 = true then (some (decide ((t1097.length : Int) > 1))) else (some false)) = some r := H
             have A50 := am A500
             clear A500
             by_cases c51 : t1119 = true
             ·subst c51
              have H1 : (some (decide ((t1097.length : Int) > 1))) = some r := by rw [if_pos rfl] at H; exact H
              clear H
              have H := H1
              clear H1
              obtain rfl := Option.some.inj H
              obtain ⟨Ao52, co52, eo52⟩ := Kd.R_slice HO_6.out
              subst eo52
              have p1116 : 0 ≤ (0 : Int) := (by omega)
              have q1116 : 0 < (t1097.length : Int) := of_decide_eq_true (uq)
              obtain ⟨ad1116, e1116, hx1116_0⟩ := Kd.at_int (Kd.R_reads' HO_6.out).2.2 0 p1116 q1116
              cases e1116
              have qi1116 : (0 < t1097.length) = True := eq_true (by omega)
              (try rw [show ((0 : Int)).toNat = 0 from rfl] at hx1116_0)
              (try rw [Addr.add_zero'] at hx1116_0)
              replace p1116 := eq_true p1116
              replace q1116 := eq_true q1116
              have p1117 : 0 ≤ ((rd t1097 0) : Int) := of_decide_eq_true (uq)
              have q1117 : (rd t1097 0) < (t1092.length : Int) := of_decide_eq_true (uq)
              obtain ⟨ad1117, e1117, hx1117_0, hx1117_1, hx1117_2, hx1117_3⟩ := at_T52 (Kd.Q_reads' HO_4.out).2.2 (rd t1097 0) p1117 q1117
              cases e1117
              replace p1117 := eq_true p1117
              replace q1117 := eq_true q1117
              go_wp2_with (first | (go_at_call 33; (with_reducible refine (laws_isIn.calls k2 _ _ t1097 t1095 true _ ?side1 ?side2 A48.out).mono ?_); (case side1 => exact cq (Kd.R_reads' HO_6.out).2.2); (case side2 => exact (Kd.R_reads' HO_6.out).2.1); rintro e w' ⟨rfl, ⟨nd, rfl⟩⟩) | (go_at_call 37; (with_reducible refine (laws_ascends.calls k2 _ _ t1097 true _ ?side1 ?side2 A50.out).mono ?_); (case side1 => exact cq (Kd.R_reads' HO_6.out).2.2); (case side2 => exact (Kd.R_reads' HO_6.out).2.1); rintro e w' ⟨rfl, ⟨nd, rfl⟩⟩))
              go_ret
              exact ⟨Y0, Y34⟩
             ·replace c51 := Bool.eq_false_iff.mpr c51
              subst c51
              have H1 : (some false) = some r := by rw [if_neg (show ¬ (false = true) by decide)] at H; exact H
              clear H
              have H := H1
              clear H1
              exact absurd ((Option.some.inj H).trans hT) Bool.false_ne_true
            ·replace c49 := Bool.eq_false_iff.mpr c49
             subst c49
             have H1 : (some false) = some r := by rw [if_neg (show ¬ (false = true) by decide)] at H; exact H
             clear H
             have H := H1
             clear H1
             exact absurd ((Option.some.inj H).trans hT) Bool.false_ne_true
           ·rw [if_neg c47] at H
            have c47b0 : (((rd_T52 t1092 (rd t1097 0)).f1) == 7) = false := beq_eq_false_iff_ne.mpr c47
            have c47b1 : (((rd_T52 t1092 (rd t1097 0)).f1) != 7) = true := bne_iff_ne.mpr c47
            exact absurd ((Option.some.inj H).trans hT) Bool.false_ne_true
          ·rw [if_neg c46] at H
           exact absurd H (by simp)
         ·rw [if_neg c45] at H
          exact absurd H (by simp)
        ·rw [if_neg c44] at H
         exact absurd H (by simp)
def laws_FnTryOf.Pure : Prop := ∀ (l0 : List Int), l0.length ≤ maxLen → l0.length * 1 ≤ 140737488351232 → (∀ x ∈ l0, (Lit.int .u8 x).wf = true) → ∃ k, laws_FnTryOf.f k l0 = some true
theorem laws_FnTryOf.walk (P : laws_FnTryOf.Pure) (a0 : Option Addr) (len0 cap0 : Nat) (z0 : List Int) (w : World) (w0 : (a0 = none ∧ len0 = 0 ∧ cap0 = 0 ∧ z0 = []) ∨ ∃ x, a0 = some x ∧ len0 ≤ cap0 ∧ cap0 ≤ maxLen ∧ z0.length = cap0 ∧ (∀ i, i < z0.length → w.cell? (x.add i) = some (.int .u8 (z0.getD i 0))) ∧ ∀ n ∈ z0, (Lit.int .u8 n).wf = true) (y0 : len0 * 1 ≤ 140737488351232) :
  Calls Try.prog 7 #[.slice a0 len0 cap0] w fun e w' => e = .returned (.bool true) ∧ Below w.heap.size w w' := by
 obtain ⟨l0, rfl, hr0, hm0, hw0, hc0⟩ := ReadsInt.ofRowC w0
 obtain ⟨k, h⟩ := P l0 hm0 y0 hw0
 refine (laws_FnTryOf.calls k _ _ l0 true w (Kd.C_of_reads (d := (0 : Int)) (h1 := fun _ => rfl) hr0) hc0 rfl h).mono ?_
 rintro e w' ⟨rfl, hd⟩
 exact ⟨rfl, hd⟩
end Go.Proofs.Ytkokajljeebgdaa.P
end
