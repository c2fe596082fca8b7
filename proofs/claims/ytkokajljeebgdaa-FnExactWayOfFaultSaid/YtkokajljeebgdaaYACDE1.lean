/- One part of the proofs on this program: functions of the program as plain functions, that the code comes to them, and facts on them. -/
import Derived.Test.YtkokajljeebgdaaYAll1
import Derived.Test.YtkokajljeebgdaaYAll2
import Derived.Test.YtkokajljeebgdaaYAll3
import Derived.Test.YtkokajljeebgdaaYWAuto
section
namespace Go.Proofs.Ytkokajljeebgdaa.P
open Go.RowKit Go.Proofs.YtkokajljeebgdaaW.PrintWords Go.Proofs.YtkokajljeebgdaaW.PrintLast Go.Proofs.YtkokajljeebgdaaW.PrintMore
attribute [local go_sem] max2_int min2_int max_two min_two max_three min_three max_four min_four isSome_cell_setCell
set_option linter.unusedVariables false
set_option linter.unusedSimpArgs false
def spec_goodLine.f (k : Nat) (l0_0 : List (S87)) (l1 : List (S52)) (a2 : Int) : Option (Bool) := (spec_validProgram.f k l0_0 l1).bind fun t158 => (if t158 = true then ((spec_inRange.f a2 0 (wrap64 ((l1.length : Int) - 1))).bind fun t159 => (some t159)) else (some false))
set_option maxHeartbeats 8000000 in
set_option maxRecDepth 100000 in
theorem spec_goodLine.calls (k : Nat) (A0_0 : Option Addr) (c0_0 : Nat) (l0_0 : List (S87)) (A1 : Option Addr) (c1 : Nat) (l1 : List (S52)) (a2 : Int) (r : Bool) (w : World) (hr0_0 : Kd.C k87 w A0_0 l0_0.length l0_0) (hc0_0 : l0_0.length ≤ c0_0) (hr1 : Kd.C k52 w A1 l1.length l1) (hc1 : l1.length ≤ c1) (h : spec_goodLine.f k l0_0 l1 a2 = some r) :
  Calls Try.prog 63 #[.agg #[.slice A0_0 l0_0.length c0_0], .slice A1 l1.length c1, .int .i64 a2] w fun e w' => e = .returned (.bool r) ∧ Below w.heap.size w w' := by
 have hu32 := Try.underlying32
 have HR0_0 := am hr0_0
 have HC0_0 := am hc0_0
 clear hr0_0 hc0_0
 have HR1 := am hr1
 have HC1 := am hc1
 clear hr1 hc1
 have HB := am (Below.refl w.heap.size w)
 have H : ((spec_validProgram.f k l0_0 l1).bind fun t158 => (if t158 = true then ((spec_inRange.f a2 0 (wrap64 ((l1.length : Int) - 1))).bind fun t159 => (some t159)) else (some false))) = some r := h
 clear h
 replace H := Option.bind_eq_some_iff.mp H
 obtain ⟨t158, A40, H⟩ := H
 replace H : (if t158 = true then ((spec_inRange.f a2 0 (wrap64 ((l1.length : Int) - 1))).bind fun t159 => (some t159)) else (some false)) = some r := H
 have A4 := am A40
 clear A40
 by_cases c5 : t158 = true
 ·subst c5
  have H1 : ((spec_inRange.f a2 0 (wrap64 ((l1.length : Int) - 1))).bind fun t159 => (some t159)) = some r := by rw [if_pos rfl] at H; exact H
  clear H
  have H := H1
  clear H1
  replace H := Option.bind_eq_some_iff.mp H
  obtain ⟨t159, A60, H⟩ := H
  replace H : (some t159) = some r := H
  have A6 := am A60
  clear A60
  obtain rfl := Option.some.inj H
  go_enter Try.func63, Try.ntmps63
  go_wp2_with (first | ((with_reducible refine gate_dst (N := 3) rfl ?_); (try (refine gate_guard (by rfl) ?_; dsimp only)); refine box_event ?hg (N := 3) ?hd (cs := #[.slice A0_0 l0_0.length c0_0]) (t := 32) ?hr ?_; (case hd => rfl); (case hg => rfl); (case hr => exact q2); intro gb157 hg w7 hbox hb; have BK157 := am (hbox); have GW157 := am ((by rw [hg]; exact (below_size (bq)) : w.heap.size ≤ gb157)); have GE157 := am ((by rw [hg]; exact (below_size (bq)) : w.heap.size ≤ gb157)); replace HB := am (below_step (bq) hb); clear hb hbox hg; have hcz8_0 := bc0 BK157.out; have hfz8_0 := blk_frozen BK157.out 0) | ((with_reducible refine gate_callee (f := 55) rfl ?_); refine goesL_ (some 9) rfl rfl Try.func55 (by kernel_rfl) rfl #[.agg #[.slice A0_0 l0_0.length c0_0], .slice A1 l1.length c1] rfl (aq) ?_; (with_reducible refine (spec_validProgram.calls k _ _ l0_0 _ _ l1 true _ ?side1 ?side2 ?side3 ?side4 A4.out).mono ?_); (case side1 => exact cq (Kd.C_below HR0_0.out HB.out)); (case side2 => exact HC0_0.out); (case side3 => exact cq (Kd.C_below HR1.out HB.out)); (case side4 => exact HC1.out); rintro e w9 ⟨rfl, hb⟩; refine ⟨_, rfl, ?_⟩; replace BK157 := am (blk_below (g := gb157) (o := .cells #[.slice A0_0 l0_0.length c0_0] 32 (0, 0)) (kq BK157.out) hb); replace HB := am (below_step (q92) hb); (try clear hb); (try clear hb2); (try clear hk); (try clear hi)) | (go_at_call 92; (with_reducible refine (spec_inRange.calls a2 0 (wrap64 ((l1.length : Int) - 1)) t159 _ A6.out).mono ?_); rintro e w' ⟨rfl, ⟨nd, rfl⟩⟩))
  go_ret
  exact ⟨q0, q92⟩
 ·replace c5 := Bool.eq_false_iff.mpr c5
  subst c5
  have H1 : (some false) = some r := by rw [if_neg (show ¬ (false = true) by decide)] at H; exact H
  clear H
  have H := H1
  clear H1
  obtain rfl := Option.some.inj H
  go_enter Try.func63, Try.ntmps63
  go_wp2_with (first | ((with_reducible refine gate_dst (N := 3) rfl ?_); (try (refine gate_guard (by rfl) ?_; dsimp only)); refine box_event ?hg (N := 3) ?hd (cs := #[.slice A0_0 l0_0.length c0_0]) (t := 32) ?hr ?_; (case hd => rfl); (case hg => rfl); (case hr => exact q2); intro gb157 hg w10 hbox hb; have BK157 := am (hbox); have GW157 := am ((by rw [hg]; exact (below_size (bq)) : w.heap.size ≤ gb157)); have GE157 := am ((by rw [hg]; exact (below_size (bq)) : w.heap.size ≤ gb157)); replace HB := am (below_step (bq) hb); clear hb hbox hg; have hcz11_0 := bc0 BK157.out; have hfz11_0 := blk_frozen BK157.out 0) | ((with_reducible refine gate_callee (f := 55) rfl ?_); refine goesL_ (some 9) rfl rfl Try.func55 (by kernel_rfl) rfl #[.agg #[.slice A0_0 l0_0.length c0_0], .slice A1 l1.length c1] rfl (aq) ?_; (with_reducible refine (spec_validProgram.calls k _ _ l0_0 _ _ l1 false _ ?side1 ?side2 ?side3 ?side4 A4.out).mono ?_); (case side1 => exact cq (Kd.C_below HR0_0.out HB.out)); (case side2 => exact HC0_0.out); (case side3 => exact cq (Kd.C_below HR1.out HB.out)); (case side4 => exact HC1.out); rintro e w12 ⟨rfl, hb⟩; refine ⟨_, rfl, ?_⟩; replace BK157 := am (blk_below (g := gb157) (o := .cells #[.slice A0_0 l0_0.length c0_0] 32 (0, 0)) (kq BK157.out) hb); replace HB := am (below_step (q92) hb); (try clear hb); (try clear hb2); (try clear hk); (try clear hi)))
  go_ret
  exact ⟨q0, q92⟩
def spec_goodRaise.f (k : Nat) (l0_0 : List (S87)) (l1 : List (S52)) (a2 : Int) (a3 : Int) : Option (Bool) := (spec_goodLine.f k l0_0 l1 a2).bind fun t161 => (if t161 = true then ((spec_hasClass.f l0_0 a3).bind fun t162 => (some t162)) else (some false))
set_option maxHeartbeats 8000000 in
set_option maxRecDepth 100000 in
theorem spec_goodRaise.calls (k : Nat) (A0_0 : Option Addr) (c0_0 : Nat) (l0_0 : List (S87)) (A1 : Option Addr) (c1 : Nat) (l1 : List (S52)) (a2 : Int) (a3 : Int) (r : Bool) (w : World) (hr0_0 : Kd.C k87 w A0_0 l0_0.length l0_0) (hc0_0 : l0_0.length ≤ c0_0) (hr1 : Kd.C k52 w A1 l1.length l1) (hc1 : l1.length ≤ c1) (h : spec_goodRaise.f k l0_0 l1 a2 a3 = some r) :
  Calls Try.prog 42 #[.agg #[.slice A0_0 l0_0.length c0_0], .slice A1 l1.length c1, .int .i64 a2, .int .i64 a3] w fun e w' => e = .returned (.bool r) ∧ Below w.heap.size w w' := by
 have hu32 := Try.underlying32
 have HR0_0 := am hr0_0
 have HC0_0 := am hc0_0
 clear hr0_0 hc0_0
 have HR1 := am hr1
 have HC1 := am hc1
 clear hr1 hc1
 have HB := am (Below.refl w.heap.size w)
 have H : ((spec_goodLine.f k l0_0 l1 a2).bind fun t161 => (if t161 = true then ((spec_hasClass.f l0_0 a3).bind fun t162 => (some t162)) else (some false))) = some r := h
 clear h
 replace H := Option.bind_eq_some_iff.mp H
 obtain ⟨t161, A50, H⟩ := H
 replace H : (if t161 = true then ((spec_hasClass.f l0_0 a3).bind fun t162 => (some t162)) else (some false)) = some r := H
 have A5 := am A50
 clear A50
 by_cases c6 : t161 = true
 ·subst c6
  have H1 : ((spec_hasClass.f l0_0 a3).bind fun t162 => (some t162)) = some r := by rw [if_pos rfl] at H; exact H
  clear H
  have H := H1
  clear H1
  replace H := Option.bind_eq_some_iff.mp H
  obtain ⟨t162, A70, H⟩ := H
  replace H : (some t162) = some r := H
  have A7 := am A70
  clear A70
  obtain rfl := Option.some.inj H
  go_enter Try.func42, Try.ntmps42
  go_wp2_with (first | ((with_reducible refine gate_dst (N := 4) rfl ?_); refine bE (N := 4) (cs := #[.slice A0_0 l0_0.length c0_0]) (t := 32) ?_; intro gb160 hg w8 hbox hb; have BK160 := am (hbox); have GW160 := am ((by rw [hg]; exact (below_size (bq)) : w.heap.size ≤ gb160)); have GE160 := am ((by rw [hg]; exact (below_size (bq)) : w.heap.size ≤ gb160)); replace HB := am (below_step (bq) hb); clear hb hbox hg; have hcz9_0 := bc0 BK160.out; have hfz9_0 := blk_frozen BK160.out 0) | ((with_reducible refine gate_callee (f := 63) rfl ?_); refine goesL_ (some 12) rfl rfl Try.func63 (by kernel_rfl) rfl #[.agg #[.slice A0_0 l0_0.length c0_0], .slice A1 l1.length c1, .int .i64 a2] rfl (aq) ?_; (with_reducible refine (spec_goodLine.calls k _ _ l0_0 _ _ l1 a2 true _ ?side1 ?side2 ?side3 ?side4 A5.out).mono ?_); (case side1 => exact cq (Kd.C_below HR0_0.out HB.out)); (case side2 => exact HC0_0.out); (case side3 => exact cq (Kd.C_below HR1.out HB.out)); (case side4 => exact HC1.out); rintro e w10 ⟨rfl, hb⟩; refine ⟨_, rfl, ?_⟩; replace BK160 := am (blk_below (g := gb160) (o := .cells #[.slice A0_0 l0_0.length c0_0] 32 (0, 0)) (kq BK160.out) hb); replace HB := am (below_step (q85) hb); (try clear hb); (try clear hb2); (try clear hk); (try clear hi); have hcz11_0 := bc0 BK160.out; have hfz11_0 := blk_frozen BK160.out 0) | (go_at_call 76; (with_reducible refine (spec_hasClass.calls _ _ l0_0 a3 t162 _ ?side1 ?side2 A7.out).mono ?_); (case side1 => exact cq (Kd.C_below HR0_0.out HB.out)); (case side2 => exact HC0_0.out); rintro e w12 ⟨rfl, hb⟩; replace BK160 := am (blk_below (g := gb160) (o := .cells #[.slice A0_0 l0_0.length c0_0] 32 (0, 0)) (kq BK160.out) hb); replace HB := am (below_step (q85) hb); (try clear hb); (try clear hb2); (try clear hk); (try clear hi)))
  go_ret
  exact ⟨q0, q85⟩
 ·replace c6 := Bool.eq_false_iff.mpr c6
  subst c6
  have H1 : (some false) = some r := by rw [if_neg (show ¬ (false = true) by decide)] at H; exact H
  clear H
  have H := H1
  clear H1
  obtain rfl := Option.some.inj H
  go_enter Try.func42, Try.ntmps42
  go_wp2_with (first | ((with_reducible refine gate_dst (N := 4) rfl ?_); refine bE (N := 4) (cs := #[.slice A0_0 l0_0.length c0_0]) (t := 32) ?_; intro gb160 hg w13 hbox hb; have BK160 := am (hbox); have GW160 := am ((by rw [hg]; exact (below_size (bq)) : w.heap.size ≤ gb160)); have GE160 := am ((by rw [hg]; exact (below_size (bq)) : w.heap.size ≤ gb160)); replace HB := am (below_step (bq) hb); clear hb hbox hg; have hcz14_0 := bc0 BK160.out; have hfz14_0 := blk_frozen BK160.out 0) | ((with_reducible refine gate_callee (f := 63) rfl ?_); refine goesL_ (some 12) rfl rfl Try.func63 (by kernel_rfl) rfl #[.agg #[.slice A0_0 l0_0.length c0_0], .slice A1 l1.length c1, .int .i64 a2] rfl (aq) ?_; (with_reducible refine (spec_goodLine.calls k _ _ l0_0 _ _ l1 a2 false _ ?side1 ?side2 ?side3 ?side4 A5.out).mono ?_); (case side1 => exact cq (Kd.C_below HR0_0.out HB.out)); (case side2 => exact HC0_0.out); (case side3 => exact cq (Kd.C_below HR1.out HB.out)); (case side4 => exact HC1.out); rintro e w15 ⟨rfl, hb⟩; refine ⟨_, rfl, ?_⟩; replace BK160 := am (blk_below (g := gb160) (o := .cells #[.slice A0_0 l0_0.length c0_0] 32 (0, 0)) (kq BK160.out) hb); replace HB := am (below_step (q85) hb); (try clear hb); (try clear hb2); (try clear hk); (try clear hi)))
  go_ret
  exact ⟨q0, q85⟩
def spec_enclosing.l0 : Nat → List (S52) → List Int → Int → Int → Option (List Int)
 | 0, _, _, _, _ => none
 | k + 1, x0, x5, x6, x7 => if x7 ≥ 0 then (if 0 ≤ x7 then (if x7 < (x0.length : Int) then (if ((rd_T52 x0 x7).f0) < x6 then (if x5.length < 17592186044416 then (spec_enclosing.l0 k x0 (x5 ++ [x7]) ((rd_T52 x0 x7).f0) (wrap64 (x7 - 1))) else (none)) else (spec_enclosing.l0 k x0 x5 x6 (wrap64 (x7 - 1)))) else (none)) else (none)) else (some x5)
def spec_enclosing.f (k : Nat) (l0 : List (S52)) (a1 : Int) : Option (List Int) := if 0 ≤ a1 then (if a1 < (l0.length : Int) then (spec_enclosing.l0 k l0 (([] : List Int)) ((rd_T52 l0 a1).f0) (wrap64 (a1 - 1))) else (none)) else (none)
set_option maxHeartbeats 8000000 in
set_option maxRecDepth 100000 in
theorem spec_enclosing.calls (k : Nat) (A0 : Option Addr) (c0 : Nat) (l0 : List (S52)) (a1 : Int) (r : List Int) (w : World) (hr0 : Kd.C k52 w A0 l0.length l0) (hc0 : l0.length ≤ c0) (h : spec_enclosing.f k l0 a1 = some r) :
  Calls Try.prog 43 #[.slice A0 l0.length c0, .int .i64 a1] w fun e w' => ∃ v0_ : Value, e = .returned (v0_) ∧ Kd.R (Kd.int .i64) 3 w' w.heap.size (fun _ => True) v0_ r ∧ Below w.heap.size w w' := by
 have HR0 := am hr0
 have HC0 := am hc0
 clear hr0 hc0
 have HB := am (Below.refl w.heap.size w)
 have H : (if 0 ≤ a1 then (if a1 < (l0.length : Int) then (spec_enclosing.l0 k l0 (([] : List Int)) ((rd_T52 l0 a1).f0) (wrap64 (a1 - 1))) else (none)) else (none)) = some r := h
 clear h
 obtain ⟨y163, hy163⟩ : ∃ y_ : List Int, y_ = (([] : List Int)) := ⟨_, rfl⟩
 replace H : (if 0 ≤ a1 then (if a1 < (l0.length : Int) then (spec_enclosing.l0 k l0 y163 ((rd_T52 l0 a1).f0) (wrap64 (a1 - 1))) else (none)) else (none)) = some r := by first | (rw [hy163]; with_reducible exact H) | (have H2_ := (Option.bind_some _ _).symm.trans H; rw [hy163]; with_reducible exact H2_) | (have H2_ := (Option.bind_some _ _).symm.trans H; with_reducible exact H2_) | with_reducible exact H | (rw [hy163]; exact H) | exact H
 have Ny163 := am hy163
 clear hy163
 by_cases c3 : 0 ≤ a1
 ·rw [if_pos c3] at H
  have c3b0 : decide (0 ≤ a1) = true := decide_eq_true c3
  clear c3
  by_cases c4 : a1 < (l0.length : Int)
  ·rw [if_pos c4] at H
   have c4b0 : decide (a1 < (l0.length : Int)) = true := decide_eq_true c4
   clear c4
   have H' := am H
   clear H
   go_enter Try.func43, Try.ntmps43
   go_wp2_with (first | ((with_reducible refine gate_dst (N := 8) rfl ?_); refine Kd.R_lit (Kd.int .i64) _ 3 ?hg (N := 8) ?hd (xs := ([] : List Int)) (inner := []) (ok := fun _ => True) (okp := fun _ => True) ?hr ?hp (fun _ hk => hk) trivial (Below.refl _ _) (Nat.le_refl _) (by simp) ?_; (case hd => rfl); (case hg => rfl); (case hr => exact q2); (case hp => exact (Reps.none _ _)); intro v164 w5 ho6 hb hg_ hnew_; clear hg_ hnew_; (first | rw [← Ny163.out] at ho6 | (simp only [Int.reduceToNat] at ho6; rw [← Ny163.out] at ho6)); have HO165 := am (Kd.R_lower ho6 (below_size (bq))); replace HB := am (below_step (bq) hb); clear hb ho6; have p166 : 0 ≤ (a1 : Int) := of_decide_eq_true (uq); have q166 : a1 < (l0.length : Int) := of_decide_eq_true (uq); obtain ⟨ad166, e166, hx166_0, hx166_1, hx166_2, hx166_3⟩ := at_T52 HR0.out a1 p166 q166; cases e166; replace hx166_0 := cb HB.out hx166_0; replace hx166_1 := cb HB.out hx166_1; replace hx166_2 := cb HB.out hx166_2; replace hx166_3 := cb HB.out hx166_3; replace p166 := eq_true p166; replace q166 := eq_true q166))
   go_loopg [5, 6, 7] k (fun kq v5 v6 v7 w' => ∃ (x5_1 : List Int) (x6_1 : Int) (x7_1 : Int), v6 = .int .i64 x6_1 ∧ v7 = .int .i64 x7_1 ∧ Aside0 (spec_enclosing.l0 kq l0 x5_1 x6_1 x7_1 = some r) ∧ Aside0 (kq ≤ k) ∧ Aside0 (Kd.R (Kd.int .i64) 3 w' w.heap.size (fun _ => True) v5 x5_1) ∧ Aside0 (Below w.heap.size w w'))
   case atStart => exact ⟨(y163), ((rd_T52 l0 a1).f0), (wrap64 (a1 - 1)), (sq), (sq), H', ⟨Nat.le_refl _⟩, ⟨rq HO165.out⟩, ⟨bq⟩⟩
   case round =>
    clear H'
    try clear p1
    try clear q1
    try clear hx1
    try clear p2
    try clear c3
    try clear c3b0
    try clear c4
    try clear c4b0
    try clear p6
    try clear hx166_0
    try clear hx166_1
    try clear hx166_2
    try clear hx166_3
    try clear p166
    try clear q166
    obtain ⟨x5_1, x6_1, x7_1, rfl, rfl, HA, HK1, HO_5, HB⟩ := hrel
    cases gk with
    | zero => exact absurd HA.out (by simp [spec_enclosing.l0])
    | succ k1 =>
     have H := HA.out
     clear HA
     simp only [spec_enclosing.l0] at H
     by_cases c7 : x7_1 ≥ 0
     ·rw [if_pos c7] at H
      have c7b0 : decide (0 ≤ x7_1) = true := decide_eq_true c7
      clear c7
      by_cases c8 : 0 ≤ x7_1
      ·rw [if_pos c8] at H
       have c8b0 : decide (0 ≤ x7_1) = true := decide_eq_true c8
       clear c8
       by_cases c9 : x7_1 < (l0.length : Int)
       ·rw [if_pos c9] at H
        have c9b0 : decide (x7_1 < (l0.length : Int)) = true := decide_eq_true c9
        clear c9
        by_cases c10 : ((rd_T52 l0 x7_1).f0) < x6_1
        ·rw [if_pos c10] at H
         have c10b0 : decide (((rd_T52 l0 x7_1).f0) < x6_1) = true := decide_eq_true c10
         clear c10
         by_cases c11 : x5_1.length < 17592186044416
         ·rw [if_pos c11] at H
          have LMc11 := am c11
          clear c11
          obtain ⟨y169, hy169⟩ : ∃ y_ : List Int, y_ = (x5_1 ++ [x7_1]) := ⟨_, rfl⟩
          replace H : (spec_enclosing.l0 k1 l0 y169 ((rd_T52 l0 x7_1).f0) (wrap64 (x7_1 - 1))) = some r := by first | (rw [hy169]; with_reducible exact H) | (have H2_ := (Option.bind_some _ _).symm.trans H; rw [hy169]; with_reducible exact H2_) | (have H2_ := (Option.bind_some _ _).symm.trans H; with_reducible exact H2_) | with_reducible exact H | (rw [hy169]; exact H) | exact H
          have Ny169 := am hy169
          clear hy169
          have H' := am H
          clear H
          have p167 : 0 ≤ (x7_1 : Int) := of_decide_eq_true (uq)
          have q167 : x7_1 < (l0.length : Int) := of_decide_eq_true (uq)
          obtain ⟨ad167, e167, hx167_0, hx167_1, hx167_2, hx167_3⟩ := at_T52 HR0.out x7_1 p167 q167
          obtain rfl : ad166 = ad167 := (by injection e167)
          replace hx167_0 := cb HB.out hx167_0
          replace hx167_1 := cb HB.out hx167_1
          replace hx167_2 := cb HB.out hx167_2
          replace hx167_3 := cb HB.out hx167_3
          replace p167 := eq_true p167
          replace q167 := eq_true q167
          have p168 : 0 ≤ (x7_1 : Int) := of_decide_eq_true (uq)
          have q168 : x7_1 < (l0.length : Int) := of_decide_eq_true (uq)
          obtain ⟨ad168, e168, hx168_0, hx168_1, hx168_2, hx168_3⟩ := at_T52 HR0.out x7_1 p168 q168
          obtain rfl : ad166 = ad168 := (by injection e168)
          replace hx168_0 := cb HB.out hx168_0
          replace hx168_1 := cb HB.out hx168_1
          replace hx168_2 := cb HB.out hx168_2
          replace hx168_3 := cb HB.out hx168_3
          replace p168 := eq_true p168
          replace q168 := eq_true q168
          go_wp2_with (first | ((with_reducible refine gate_builtin (b := .append) (xs := #[.tmp 32, .tmp 34]) rfl ?_); at_builtin; refine Kd.R_append (Kd.int .i64) (w0 := w) w.heap.size rfl (.tmp 32) (.tmp 34) 28 3 (.int .i64 0) 8 rfl Try.underlying28 info3 rfl (by decide) (by omega) u5 x5_1 x7_1 [.int .i64 x7_1] (fun _ => True) (fun _ => False) rfl rfl ?aP (fun _ hk => hk.elim) ?aF ?aO ?aB ?aS ?aL ?_; (case aP => exact rfl); (case aB => exact (bq)); (case aF => exact (fun _ _ => trivial)); (case aO => exact (rq HO_5.out)); (case aS => exact (below_size (bq))); (case aL => have := LMc11.out; omega); intro v170 w12 ho hb hg hat; rw [← Ny169.out] at ho; have n0_ := am (hb); have n1_ := am (ho); clear HB HO_5; have HB := n0_; have HO171 := n1_; clear n0_ n1_ ho hb hg hat))
          go_roundg k1
          case measure => have := HK1.out; omega
          case rel => exact ⟨(y169), ((rd_T52 l0 x7_1).f0), (wrap64 (x7_1 - 1)), (sq), (sq), H', ⟨by have := HK1.out; omega⟩, ⟨rq HO171.out⟩, ⟨bq⟩⟩
         ·rw [if_neg c11] at H
          exact absurd H (by simp)
        ·rw [if_neg c10] at H
         have c10b0 : decide (((rd_T52 l0 x7_1).f0) < x6_1) = false := decide_eq_false c10
         clear c10
         have H' := am H
         clear H
         have p167 : 0 ≤ (x7_1 : Int) := of_decide_eq_true (uq)
         have q167 : x7_1 < (l0.length : Int) := of_decide_eq_true (uq)
         obtain ⟨ad167, e167, hx167_0, hx167_1, hx167_2, hx167_3⟩ := at_T52 HR0.out x7_1 p167 q167
         obtain rfl : ad166 = ad167 := (by injection e167)
         replace hx167_0 := cb HB.out hx167_0
         replace hx167_1 := cb HB.out hx167_1
         replace hx167_2 := cb HB.out hx167_2
         replace hx167_3 := cb HB.out hx167_3
         replace p167 := eq_true p167
         replace q167 := eq_true q167
         go_wp2
         go_roundg k1
         case measure => have := HK1.out; omega
         case rel => exact ⟨(x5_1), (x6_1), (wrap64 (x7_1 - 1)), (sq), (sq), H', ⟨by have := HK1.out; omega⟩, ⟨rq HO_5.out⟩, ⟨bq⟩⟩
       ·rw [if_neg c9] at H
        exact absurd H (by simp)
      ·rw [if_neg c8] at H
       exact absurd H (by simp)
     ·rw [if_neg c7] at H
      have c7b0 : decide (0 ≤ x7_1) = false := decide_eq_false c7
      clear c7
      obtain rfl := Option.some.inj H
      go_wp2
      go_ret
      exact ⟨_, q0, rq HO_5.out, bq⟩
  ·rw [if_neg c4] at H
   exact absurd H (by simp)
 ·rw [if_neg c3] at H
  exact absurd H (by simp)
def impl_lineIn.f (k : Nat) (l0_0 : List (S87)) (l1 : List (S52)) (a2 : Int) : Option (Bool) := (impl_ValidProgram.f k l0_0 l1).bind fun t328 => (if t328 = true then ((impl_within.f a2 0 (wrap64 ((l1.length : Int) - 1))).bind fun t329 => (some t329)) else (some false))
set_option maxHeartbeats 8000000 in
set_option maxRecDepth 100000 in
theorem impl_lineIn.calls (k : Nat) (A0_0 : Option Addr) (c0_0 : Nat) (l0_0 : List (S87)) (A1 : Option Addr) (c1 : Nat) (l1 : List (S52)) (a2 : Int) (r : Bool) (w : World) (hr0_0 : Kd.C k87 w A0_0 l0_0.length l0_0) (hc0_0 : l0_0.length ≤ c0_0) (hr1 : Kd.C k52 w A1 l1.length l1) (hc1 : l1.length ≤ c1) (h : impl_lineIn.f k l0_0 l1 a2 = some r) :
  Calls Try.prog 48 #[.agg #[.slice A0_0 l0_0.length c0_0], .slice A1 l1.length c1, .int .i64 a2] w fun e w' => e = .returned (.bool r) ∧ Below w.heap.size w w' := by
 have hu32 := Try.underlying32
 have HR0_0 := am hr0_0
 have HC0_0 := am hc0_0
 clear hr0_0 hc0_0
 have HR1 := am hr1
 have HC1 := am hc1
 clear hr1 hc1
 have HB := am (Below.refl w.heap.size w)
 have H : ((impl_ValidProgram.f k l0_0 l1).bind fun t328 => (if t328 = true then ((impl_within.f a2 0 (wrap64 ((l1.length : Int) - 1))).bind fun t329 => (some t329)) else (some false))) = some r := h
 clear h
 replace H := Option.bind_eq_some_iff.mp H
 obtain ⟨t328, A40, H⟩ := H
 replace H : (if t328 = true then ((impl_within.f a2 0 (wrap64 ((l1.length : Int) - 1))).bind fun t329 => (some t329)) else (some false)) = some r := H
 have A4 := am A40
 clear A40
 by_cases c5 : t328 = true
 ·subst c5
  have H1 : ((impl_within.f a2 0 (wrap64 ((l1.length : Int) - 1))).bind fun t329 => (some t329)) = some r := by rw [if_pos rfl] at H; exact H
  clear H
  have H := H1
  clear H1
  replace H := Option.bind_eq_some_iff.mp H
  obtain ⟨t329, A60, H⟩ := H
  replace H : (some t329) = some r := H
  have A6 := am A60
  clear A60
  obtain rfl := Option.some.inj H
  go_enter Try.func48, Try.ntmps48
  go_wp2_with (first | ((with_reducible refine gate_dst (N := 3) rfl ?_); (try (refine gate_guard (by rfl) ?_; dsimp only)); refine box_event ?hg (N := 3) ?hd (cs := #[.slice A0_0 l0_0.length c0_0]) (t := 32) ?hr ?_; (case hd => rfl); (case hg => rfl); (case hr => exact q2); intro gb327 hg w7 hbox hb; have BK327 := am (hbox); have GW327 := am ((by rw [hg]; exact (below_size (bq)) : w.heap.size ≤ gb327)); have GE327 := am ((by rw [hg]; exact (below_size (bq)) : w.heap.size ≤ gb327)); replace HB := am (below_step (bq) hb); clear hb hbox hg; have hcz8_0 := bc0 BK327.out; have hfz8_0 := blk_frozen BK327.out 0) | ((with_reducible refine gate_callee (f := 29) rfl ?_); refine goesL_ (some 9) rfl rfl Try.func29 (by kernel_rfl) rfl #[.agg #[.slice A0_0 l0_0.length c0_0], .slice A1 l1.length c1] rfl (aq) ?_; (with_reducible refine (impl_ValidProgram.calls k _ _ l0_0 _ _ l1 true _ ?side1 ?side2 ?side3 ?side4 A4.out).mono ?_); (case side1 => exact cq (Kd.C_below HR0_0.out HB.out)); (case side2 => exact HC0_0.out); (case side3 => exact cq (Kd.C_below HR1.out HB.out)); (case side4 => exact HC1.out); rintro e w9 ⟨rfl, hb⟩; refine ⟨_, rfl, ?_⟩; replace BK327 := am (blk_below (g := gb327) (o := .cells #[.slice A0_0 l0_0.length c0_0] 32 (0, 0)) (kq BK327.out) hb); replace HB := am (below_step (q93) hb); (try clear hb); (try clear hb2); (try clear hk); (try clear hi)) | (go_at_call 66; (with_reducible refine (impl_within.calls a2 0 (wrap64 ((l1.length : Int) - 1)) t329 _ A6.out).mono ?_); rintro e w' ⟨rfl, ⟨nd, rfl⟩⟩))
  go_ret
  exact ⟨q0, q93⟩
 ·replace c5 := Bool.eq_false_iff.mpr c5
  subst c5
  have H1 : (some false) = some r := by rw [if_neg (show ¬ (false = true) by decide)] at H; exact H
  clear H
  have H := H1
  clear H1
  obtain rfl := Option.some.inj H
  go_enter Try.func48, Try.ntmps48
  go_wp2_with (first | ((with_reducible refine gate_dst (N := 3) rfl ?_); (try (refine gate_guard (by rfl) ?_; dsimp only)); refine box_event ?hg (N := 3) ?hd (cs := #[.slice A0_0 l0_0.length c0_0]) (t := 32) ?hr ?_; (case hd => rfl); (case hg => rfl); (case hr => exact q2); intro gb327 hg w10 hbox hb; have BK327 := am (hbox); have GW327 := am ((by rw [hg]; exact (below_size (bq)) : w.heap.size ≤ gb327)); have GE327 := am ((by rw [hg]; exact (below_size (bq)) : w.heap.size ≤ gb327)); replace HB := am (below_step (bq) hb); clear hb hbox hg; have hcz11_0 := bc0 BK327.out; have hfz11_0 := blk_frozen BK327.out 0) | ((with_reducible refine gate_callee (f := 29) rfl ?_); refine goesL_ (some 9) rfl rfl Try.func29 (by kernel_rfl) rfl #[.agg #[.slice A0_0 l0_0.length c0_0], .slice A1 l1.length c1] rfl (aq) ?_; (with_reducible refine (impl_ValidProgram.calls k _ _ l0_0 _ _ l1 false _ ?side1 ?side2 ?side3 ?side4 A4.out).mono ?_); (case side1 => exact cq (Kd.C_below HR0_0.out HB.out)); (case side2 => exact HC0_0.out); (case side3 => exact cq (Kd.C_below HR1.out HB.out)); (case side4 => exact HC1.out); rintro e w12 ⟨rfl, hb⟩; refine ⟨_, rfl, ?_⟩; replace BK327 := am (blk_below (g := gb327) (o := .cells #[.slice A0_0 l0_0.length c0_0] 32 (0, 0)) (kq BK327.out) hb); replace HB := am (below_step (q93) hb); (try clear hb); (try clear hb2); (try clear hk); (try clear hi)))
  go_ret
  exact ⟨q0, q93⟩
def slices_Clip_int_int.f (l0 : List Int) : Option (List Int) := some (l0)
set_option maxHeartbeats 8000000 in
set_option maxRecDepth 100000 in
theorem slices_Clip_int_int.calls (P0_ : Nat → Prop) (u9000_ : Value) (l0 : List Int) (r : List Int) (w0 w : World) (hB : Below w0.heap.size w0 w) (ho0 : Kd.R (Kd.int .i64) 3 w w0.heap.size P0_ u9000_ l0) (h : slices_Clip_int_int.f l0 = some r) :
  Calls Try.prog 82 #[u9000_] w fun e w' => ∃ v0_ : Value, e = .returned (v0_) ∧ Kd.R (Kd.int .i64) 3 w' w0.heap.size (fun k_ => (P0_ k_ ∨ w.heap.size ≤ k_)) v0_ r ∧ Below w0.heap.size w0 w' ∧ Kept w w' (fun k_ => P0_ k_) := by
 have HO0 := am (show Kd.R (Kd.int .i64) 3 w w0.heap.size (fun k_ => (P0_ k_ ∨ w.heap.size ≤ k_)) u9000_ l0 from Kd.R_mono ho0 (fun k_ hk => (.inl hk)))
 have HK := am (Kept.refl w (fun k_ => P0_ k_))
 have HW0 := am hB.size
 have HB := am hB
 clear hB
 have H : (some (l0)) = some r := h
 clear h
 obtain ⟨y330, hy330⟩ : ∃ y_ : List Int, y_ = (l0) := ⟨_, rfl⟩
 replace H : (some y330) = some r := by first | (rw [hy330]; with_reducible exact H) | (have H2_ := (Option.bind_some _ _).symm.trans H; rw [hy330]; with_reducible exact H2_) | (have H2_ := (Option.bind_some _ _).symm.trans H; with_reducible exact H2_) | with_reducible exact H | (rw [hy330]; exact H) | exact H
 have Ny330 := am hy330
 clear hy330
 obtain rfl := Option.some.inj H
 obtain ⟨Ao2, co2, eo2⟩ := Kd.R_slice HO0.out
 subst eo2
 obtain ⟨i03, hi03, _, hsz3, _⟩ := info_parts info3
 have hy3 : y330.length = l0.length := (by rw [Ny330.out])
 have hcut3 := cut_clip (P := Try.prog) 28 3 Try.underlying28 hi03 Ao2 _ co2 _ (Kd.R_reads' HO0.out).2.1 hy3
 have hr3 := Kd.R_clip HO0.out Ny330.out
 clear hy3 hi03 hsz3 HO0
 have HO332 := am hr3
 clear hr3
 go_enter Try.func82, Try.ntmps82
 go_wp2
 go_ret
 exact ⟨_, q0, rq HO332.out, bq, q21⟩
def impl_enclosing.l0 : Nat → List (S52) → Int → List Int → Int → Option (List Int)
 | 0, _, _, _, _ => none
 | k + 1, x0, x1, x5, x6 => if x6 ≥ 0 then (if 0 ≤ x6 then (if x6 < (x0.length : Int) then ((impl_Line_opens.f ((rd_T52 x0 x6).f0) ((rd_T52 x0 x6).f1) ((rd_T52 x0 x6).f2) ((rd_T52 x0 x6).f3)).bind fun t340 => (if t340 = true then ((impl_endOf.f k x0 x6).bind fun t341 => (if t341 > x1 then (if x5.length < 17592186044416 then (impl_enclosing.l0 k x0 x1 (x5 ++ [x6]) (wrap64 (x6 - 1))) else (none)) else (impl_enclosing.l0 k x0 x1 x5 (wrap64 (x6 - 1))))) else (impl_enclosing.l0 k x0 x1 x5 (wrap64 (x6 - 1))))) else (none)) else (none)) else ((slices_Clip_int_int.f x5).bind fun t336 => (some t336))
def impl_enclosing.f (k : Nat) (l0 : List (S52)) (a1 : Int) : Option (List Int) := impl_enclosing.l0 k l0 a1 (([] : List Int)) (wrap64 (a1 - 1))
set_option maxHeartbeats 8000000 in
set_option maxRecDepth 100000 in
theorem impl_enclosing.calls (k : Nat) (A0 : Option Addr) (c0 : Nat) (l0 : List (S52)) (a1 : Int) (r : List Int) (w : World) (hr0 : Kd.C k52 w A0 l0.length l0) (hc0 : l0.length ≤ c0) (h : impl_enclosing.f k l0 a1 = some r) :
  Calls Try.prog 62 #[.slice A0 l0.length c0, .int .i64 a1] w fun e w' => ∃ v0_ : Value, e = .returned (v0_) ∧ Kd.R (Kd.int .i64) 3 w' w.heap.size (fun _ => True) v0_ r ∧ Below w.heap.size w w' := by
 have hu52 := Try.underlying52
 have HR0 := am hr0
 have HC0 := am hc0
 clear hr0 hc0
 have HB := am (Below.refl w.heap.size w)
 have H : (impl_enclosing.l0 k l0 a1 (([] : List Int)) (wrap64 (a1 - 1))) = some r := h
 clear h
 obtain ⟨y333, hy333⟩ : ∃ y_ : List Int, y_ = (([] : List Int)) := ⟨_, rfl⟩
 replace H : (impl_enclosing.l0 k l0 a1 y333 (wrap64 (a1 - 1))) = some r := by first | (rw [hy333]; with_reducible exact H) | (have H2_ := (Option.bind_some _ _).symm.trans H; rw [hy333]; with_reducible exact H2_) | (have H2_ := (Option.bind_some _ _).symm.trans H; with_reducible exact H2_) | with_reducible exact H | (rw [hy333]; exact H) | exact H
 have Ny333 := am hy333
 clear hy333
 have H' := am H
 clear H
 go_enter Try.func62, Try.ntmps62
 go_wp2_with (first | ((with_reducible refine gate_dst (N := 7) rfl ?_); refine Kd.R_lit (Kd.int .i64) _ 3 ?hg (N := 7) ?hd (xs := ([] : List Int)) (inner := []) (ok := fun _ => True) (okp := fun _ => True) ?hr ?hp (fun _ hk => hk) trivial (Below.refl _ _) (Nat.le_refl _) (by simp) ?_; (case hd => rfl); (case hg => rfl); (case hr => exact q2); (case hp => exact (Reps.none _ _)); intro v334 w3 ho4 hb hg_ hnew_; clear hg_ hnew_; (first | rw [← Ny333.out] at ho4 | (simp only [Int.reduceToNat] at ho4; rw [← Ny333.out] at ho4)); have HO335 := am (Kd.R_lower ho4 (below_size (bq))); replace HB := am (below_step (bq) hb); clear hb ho4))
 go_loopg [5, 6] k (fun kq v5 v6 w' => ∃ (x5_1 : List Int) (x6_1 : Int), v6 = .int .i64 x6_1 ∧ Aside0 (impl_enclosing.l0 kq l0 a1 x5_1 x6_1 = some r) ∧ Aside0 (kq ≤ k) ∧ Aside0 (Kd.R (Kd.int .i64) 3 w' w.heap.size (fun _ => True) v5 x5_1) ∧ Aside0 (Below w.heap.size w w'))
 case atStart => exact ⟨(y333), (wrap64 (a1 - 1)), (sq), H', ⟨Nat.le_refl _⟩, ⟨rq HO335.out⟩, ⟨bq⟩⟩
 case round =>
  clear H'
  try clear p2
  obtain ⟨x5_1, x6_1, rfl, HA, HK1, HO_5, HB⟩ := hrel
  cases gk with
  | zero => exact absurd HA.out (by simp [impl_enclosing.l0])
  | succ k1 =>
   have H := HA.out
   clear HA
   simp only [impl_enclosing.l0] at H
   by_cases c5 : x6_1 ≥ 0
   ·rw [if_pos c5] at H
    have c5b0 : decide (0 ≤ x6_1) = true := decide_eq_true c5
    clear c5
    by_cases c6 : 0 ≤ x6_1
    ·rw [if_pos c6] at H
     have c6b0 : decide (0 ≤ x6_1) = true := decide_eq_true c6
     clear c6
     by_cases c7 : x6_1 < (l0.length : Int)
     ·rw [if_pos c7] at H
      have c7b0 : decide (x6_1 < (l0.length : Int)) = true := decide_eq_true c7
      clear c7
      replace H := Option.bind_eq_some_iff.mp H
      obtain ⟨t340, A80, H⟩ := H
      replace H : (if t340 = true then ((impl_endOf.f k1 l0 x6_1).bind fun t341 => (if t341 > a1 then (if x5_1.length < 17592186044416 then (impl_enclosing.l0 k1 l0 a1 (x5_1 ++ [x6_1]) (wrap64 (x6_1 - 1))) else (none)) else (impl_enclosing.l0 k1 l0 a1 x5_1 (wrap64 (x6_1 - 1))))) else (impl_enclosing.l0 k1 l0 a1 x5_1 (wrap64 (x6_1 - 1)))) = some r := H
      have A8 := am A80
      clear A80
      by_cases c9 : t340 = true
      ·subst c9
       have H1 : ((impl_endOf.f k1 l0 x6_1).bind fun t341 => (if t341 > a1 then (if x5_1.length < 17592186044416 then (impl_enclosing.l0 k1 l0 a1 (x5_1 ++ [x6_1]) (wrap64 (x6_1 - 1))) else (none)) else (impl_enclosing.l0 k1 l0 a1 x5_1 (wrap64 (x6_1 - 1))))) = some r := by rw [if_pos rfl] at H; exact H
       clear H
       have H := H1
       clear H1
       replace H := Option.bind_eq_some_iff.mp H
       obtain ⟨t341, A100, H⟩ := H
       replace H : (if t341 > a1 then (if x5_1.length < 17592186044416 then (impl_enclosing.l0 k1 l0 a1 (x5_1 ++ [x6_1]) (wrap64 (x6_1 - 1))) else (none)) else (impl_enclosing.l0 k1 l0 a1 x5_1 (wrap64 (x6_1 - 1)))) = some r := H
       have A10 := am A100
       clear A100
       by_cases c11 : t341 > a1
       ·rw [if_pos c11] at H
        have c11b0 : decide (a1 < t341) = true := decide_eq_true c11
        clear c11
        by_cases c12 : x5_1.length < 17592186044416
        ·rw [if_pos c12] at H
         have LMc12 := am c12
         clear c12
         obtain ⟨y342, hy342⟩ : ∃ y_ : List Int, y_ = (x5_1 ++ [x6_1]) := ⟨_, rfl⟩
         replace H : (impl_enclosing.l0 k1 l0 a1 y342 (wrap64 (x6_1 - 1))) = some r := by first | (rw [hy342]; with_reducible exact H) | (have H2_ := (Option.bind_some _ _).symm.trans H; rw [hy342]; with_reducible exact H2_) | (have H2_ := (Option.bind_some _ _).symm.trans H; with_reducible exact H2_) | with_reducible exact H | (rw [hy342]; exact H) | exact H
         have Ny342 := am hy342
         clear hy342
         have H' := am H
         clear H
         have p339 : 0 ≤ (x6_1 : Int) := of_decide_eq_true (uq)
         have q339 : x6_1 < (l0.length : Int) := of_decide_eq_true (uq)
         obtain ⟨ad339, e339, hx339_0, hx339_1, hx339_2, hx339_3⟩ := at_T52 HR0.out x6_1 p339 q339
         cases e339
         replace hx339_0 := cb HB.out hx339_0
         replace hx339_1 := cb HB.out hx339_1
         replace hx339_2 := cb HB.out hx339_2
         replace hx339_3 := cb HB.out hx339_3
         replace p339 := eq_true p339
         replace q339 := eq_true q339
         go_wp2_with (first | ((with_reducible refine gate_callee (f := 67) rfl ?_); refine goesL_ (some 18) rfl rfl Try.func67 (by kernel_rfl) rfl #[.agg #[.int .i64 ((rd_T52 l0 x6_1).f0), .int .i64 ((rd_T52 l0 x6_1).f1), .int .i64 ((rd_T52 l0 x6_1).f2), .int .i64 ((rd_T52 l0 x6_1).f3)]] rfl (aq) ?_; (with_reducible refine (impl_Line_opens.calls ((rd_T52 l0 x6_1).f0) ((rd_T52 l0 x6_1).f1) ((rd_T52 l0 x6_1).f2) ((rd_T52 l0 x6_1).f3) true _ A8.out).mono ?_); rintro e w13 ⟨rfl, hb⟩; refine ⟨_, rfl, ?_⟩; replace HO_5 := am (Kd.R_below (rq HO_5.out) hb); replace HB := am (below_step (bq) hb); (try clear hb); (try clear hb2); (try clear hk); (try clear hi)) | (go_at_call 89; (with_reducible refine (impl_endOf.calls k1 _ _ l0 x6_1 t341 _ ?side1 ?side2 A10.out).mono ?_); (case side1 => exact cq (Kd.C_below HR0.out HB.out)); (case side2 => exact HC0.out); rintro e w' ⟨rfl, ⟨nd, rfl⟩⟩) | ((with_reducible refine gate_builtin (b := .append) (xs := #[.tmp 26, .tmp 28]) rfl ?_); at_builtin; refine Kd.R_append (Kd.int .i64) (w0 := w) w.heap.size rfl (.tmp 26) (.tmp 28) 28 3 (.int .i64 0) 8 rfl Try.underlying28 info3 rfl (by decide) (by omega) u5 x5_1 x6_1 [.int .i64 x6_1] (fun _ => True) (fun _ => False) rfl rfl ?aP (fun _ hk => hk.elim) ?aF ?aO ?aB ?aS ?aL ?_; (case aP => exact rfl); (case aB => exact (bq)); (case aF => exact (fun _ _ => trivial)); (case aO => exact (rq HO_5.out)); (case aS => exact (below_size (bq))); (case aL => have := LMc12.out; omega); intro v343 w14 ho hb hg hat; rw [← Ny342.out] at ho; have n0_ := am (hb); have n1_ := am (ho); clear HB HO_5; have HB := n0_; have HO344 := n1_; clear n0_ n1_ ho hb hg hat))
         go_roundg k1
         case measure => have := HK1.out; omega
         case rel => exact ⟨(y342), (wrap64 (x6_1 - 1)), (sq), H', ⟨by have := HK1.out; omega⟩, ⟨rq HO344.out⟩, ⟨bq⟩⟩
        ·rw [if_neg c12] at H
         exact absurd H (by simp)
       ·rw [if_neg c11] at H
        have c11b0 : decide (a1 < t341) = false := decide_eq_false c11
        clear c11
        have H' := am H
        clear H
        have p339 : 0 ≤ (x6_1 : Int) := of_decide_eq_true (uq)
        have q339 : x6_1 < (l0.length : Int) := of_decide_eq_true (uq)
        obtain ⟨ad339, e339, hx339_0, hx339_1, hx339_2, hx339_3⟩ := at_T52 HR0.out x6_1 p339 q339
        cases e339
        replace hx339_0 := cb HB.out hx339_0
        replace hx339_1 := cb HB.out hx339_1
        replace hx339_2 := cb HB.out hx339_2
        replace hx339_3 := cb HB.out hx339_3
        replace p339 := eq_true p339
        replace q339 := eq_true q339
        go_wp2_with (first | ((with_reducible refine gate_callee (f := 67) rfl ?_); refine goesL_ (some 18) rfl rfl Try.func67 (by kernel_rfl) rfl #[.agg #[.int .i64 ((rd_T52 l0 x6_1).f0), .int .i64 ((rd_T52 l0 x6_1).f1), .int .i64 ((rd_T52 l0 x6_1).f2), .int .i64 ((rd_T52 l0 x6_1).f3)]] rfl (aq) ?_; (with_reducible refine (impl_Line_opens.calls ((rd_T52 l0 x6_1).f0) ((rd_T52 l0 x6_1).f1) ((rd_T52 l0 x6_1).f2) ((rd_T52 l0 x6_1).f3) true _ A8.out).mono ?_); rintro e w15 ⟨rfl, hb⟩; refine ⟨_, rfl, ?_⟩; replace HO_5 := am (Kd.R_below (rq HO_5.out) hb); replace HB := am (below_step (bq) hb); (try clear hb); (try clear hb2); (try clear hk); (try clear hi)) | (go_at_call 89; (with_reducible refine (impl_endOf.calls k1 _ _ l0 x6_1 t341 _ ?side1 ?side2 A10.out).mono ?_); (case side1 => exact cq (Kd.C_below HR0.out HB.out)); (case side2 => exact HC0.out); rintro e w' ⟨rfl, ⟨nd, rfl⟩⟩))
        go_roundg k1
        case measure => have := HK1.out; omega
        case rel => exact ⟨(x5_1), (wrap64 (x6_1 - 1)), (sq), H', ⟨by have := HK1.out; omega⟩, ⟨rq HO_5.out⟩, ⟨bq⟩⟩
      ·replace c9 := Bool.eq_false_iff.mpr c9
       subst c9
       have H1 : (impl_enclosing.l0 k1 l0 a1 x5_1 (wrap64 (x6_1 - 1))) = some r := by rw [if_neg (show ¬ (false = true) by decide)] at H; exact H
       clear H
       have H := H1
       clear H1
       have H' := am H
       clear H
       have p339 : 0 ≤ (x6_1 : Int) := of_decide_eq_true (uq)
       have q339 : x6_1 < (l0.length : Int) := of_decide_eq_true (uq)
       obtain ⟨ad339, e339, hx339_0, hx339_1, hx339_2, hx339_3⟩ := at_T52 HR0.out x6_1 p339 q339
       cases e339
       replace hx339_0 := cb HB.out hx339_0
       replace hx339_1 := cb HB.out hx339_1
       replace hx339_2 := cb HB.out hx339_2
       replace hx339_3 := cb HB.out hx339_3
       replace p339 := eq_true p339
       replace q339 := eq_true q339
       go_wp2_with (first | ((with_reducible refine gate_callee (f := 67) rfl ?_); refine goesL_ (some 18) rfl rfl Try.func67 (by kernel_rfl) rfl #[.agg #[.int .i64 ((rd_T52 l0 x6_1).f0), .int .i64 ((rd_T52 l0 x6_1).f1), .int .i64 ((rd_T52 l0 x6_1).f2), .int .i64 ((rd_T52 l0 x6_1).f3)]] rfl (aq) ?_; (with_reducible refine (impl_Line_opens.calls ((rd_T52 l0 x6_1).f0) ((rd_T52 l0 x6_1).f1) ((rd_T52 l0 x6_1).f2) ((rd_T52 l0 x6_1).f3) false _ A8.out).mono ?_); rintro e w16 ⟨rfl, hb⟩; refine ⟨_, rfl, ?_⟩; replace HO_5 := am (Kd.R_below (rq HO_5.out) hb); replace HB := am (below_step (bq) hb); (try clear hb); (try clear hb2); (try clear hk); (try clear hi)))
       go_roundg k1
       case measure => have := HK1.out; omega
       case rel => exact ⟨(x5_1), (wrap64 (x6_1 - 1)), (sq), H', ⟨by have := HK1.out; omega⟩, ⟨rq HO_5.out⟩, ⟨bq⟩⟩
     ·rw [if_neg c7] at H
      exact absurd H (by simp)
    ·rw [if_neg c6] at H
     exact absurd H (by simp)
   ·rw [if_neg c5] at H
    have c5b0 : decide (0 ≤ x6_1) = false := decide_eq_false c5
    clear c5
    replace H := Option.bind_eq_some_iff.mp H
    obtain ⟨t336, A170, H⟩ := H
    replace H : (some t336) = some r := H
    have A17 := am A170
    clear A170
    obtain rfl := Option.some.inj H
    obtain ⟨Ao18, co18, eo18⟩ := Kd.R_slice HO_5.out
    subst eo18
    go_wp2_with (first | ((with_reducible refine gate_callee (f := 82) rfl ?_); refine goesL_ (some 31) rfl rfl Try.func82 (by kernel_rfl) rfl #[.slice Ao18 x5_1.length co18] rfl (aq) ?_; (with_reducible refine (slices_Clip_int_int.calls (fun k_ => some k_ = (.slice Ao18 x5_1.length co18 : Value).ownBlock) (.slice Ao18 x5_1.length co18) x5_1 t336 w _ ?side1 ?side2 A17.out).mono ?_); (case side1 => exact q79); (case side2 => exact Kd.R_tight rfl HO_5.out); rintro e w19 ⟨v337, rfl, ho0, hb, hkp⟩; refine ⟨_, rfl, ?_⟩; have n0_ := am (Kd.R_mono (ok' := fun k_ => True) ho0 (fun k_ hk_ => trivial)); have n1_ := am (hb); clear HB HO_5; have HO338 := n0_; have HB := n1_; clear n0_ n1_; (try clear hb); (try clear hkp); (try clear ho0)))
    go_ret
    exact ⟨_, q0, rq HO338.out, bq⟩
end Go.Proofs.Ytkokajljeebgdaa.P
end
