/- One part of the proofs on this program: functions of the program as plain functions, that the code comes to them, and facts on them. -/
import Derived.Test.YtkokajljeebgdaaYACDE1
import Derived.Test.YtkokajljeebgdaaYAll1
import Derived.Test.YtkokajljeebgdaaYWAuto
section
namespace Go.Proofs.Ytkokajljeebgdaa.P
open Go.RowKit Go.Proofs.YtkokajljeebgdaaW.PrintWords Go.Proofs.YtkokajljeebgdaaW.PrintLast Go.Proofs.YtkokajljeebgdaaW.PrintMore
attribute [local go_sem] max2_int min2_int max_two min_two max_three min_three max_four min_four isSome_cell_setCell
set_option linter.unusedVariables false
set_option linter.unusedSimpArgs false
def impl_EnclosingOf.f (k : Nat) (l0_0 : List (S87)) (l1 : List (S52)) (a2 : Int) : Option (List Int) := (impl_lineIn.f k l0_0 l1 a2).bind fun t967 => (if t967 = true then ((impl_enclosing.f k l1 a2).bind fun t968 => (some t968)) else (some ([] : List Int)))
set_option maxHeartbeats 8000000 in
set_option maxRecDepth 100000 in
theorem impl_EnclosingOf.calls (k : Nat) (A0_0 : Option Addr) (c0_0 : Nat) (l0_0 : List (S87)) (A1 : Option Addr) (c1 : Nat) (l1 : List (S52)) (a2 : Int) (r : List Int) (w : World) (hr0_0 : Kd.C k87 w A0_0 l0_0.length l0_0) (hc0_0 : l0_0.length ≤ c0_0) (hr1 : Kd.C k52 w A1 l1.length l1) (hc1 : l1.length ≤ c1) (h : impl_EnclosingOf.f k l0_0 l1 a2 = some r) :
  Calls Try.prog 26 #[.agg #[.slice A0_0 l0_0.length c0_0], .slice A1 l1.length c1, .int .i64 a2] w fun e w' => ∃ v0_ : Value, e = .returned (v0_) ∧ Kd.R (Kd.int .i64) 3 w' w.heap.size (fun _ => True) v0_ r ∧ Below w.heap.size w w' := by
 have hu32 := Try.underlying32
 have HR0_0 := am hr0_0
 have HC0_0 := am hc0_0
 clear hr0_0 hc0_0
 have HR1 := am hr1
 have HC1 := am hc1
 clear hr1 hc1
 have HB := am (Below.refl w.heap.size w)
 have H : ((impl_lineIn.f k l0_0 l1 a2).bind fun t967 => (if t967 = true then ((impl_enclosing.f k l1 a2).bind fun t968 => (some t968)) else (some ([] : List Int)))) = some r := h
 clear h
 replace H := Option.bind_eq_some_iff.mp H
 obtain ⟨t967, A40, H⟩ := H
 replace H : (if t967 = true then ((impl_enclosing.f k l1 a2).bind fun t968 => (some t968)) else (some ([] : List Int))) = some r := H
 have A4 := am A40
 clear A40
 by_cases c5 : t967 = true
 ·subst c5
  have H1 : ((impl_enclosing.f k l1 a2).bind fun t968 => (some t968)) = some r := by rw [if_pos rfl] at H; exact H
  clear H
  have H := H1
  clear H1
  replace H := Option.bind_eq_some_iff.mp H
  obtain ⟨t968, A60, H⟩ := H
  replace H : (some t968) = some r := H
  have A6 := am A60
  clear A60
  obtain rfl := Option.some.inj H
  go_enter Try.func26, Try.ntmps26
  go_wp2_with (first | ((with_reducible refine gate_dst (N := 3) rfl ?_); refine bE (N := 3) (cs := #[.slice A0_0 l0_0.length c0_0]) (t := 32) ?_; intro gb966 hg w7 hbox hb; have BK966 := am (hbox); have GW966 := am ((by rw [hg]; exact (below_size (bq)) : w.heap.size ≤ gb966)); have GE966 := am ((by rw [hg]; exact (below_size (bq)) : w.heap.size ≤ gb966)); replace HB := am (below_step (bq) hb); clear hb hbox hg; have hcz8_0 := bc0 BK966.out; have hfz8_0 := blk_frozen BK966.out 0) | ((with_reducible refine gate_callee (f := 48) rfl ?_); refine goesL_ (some 10) rfl rfl Try.func48 (by kernel_rfl) rfl #[.agg #[.slice A0_0 l0_0.length c0_0], .slice A1 l1.length c1, .int .i64 a2] rfl (aq) ?_; (with_reducible refine (impl_lineIn.calls k _ _ l0_0 _ _ l1 a2 true _ ?side1 ?side2 ?side3 ?side4 A4.out).mono ?_); (case side1 => exact cq (Kd.C_below HR0_0.out HB.out)); (case side2 => exact HC0_0.out); (case side3 => exact cq (Kd.C_below HR1.out HB.out)); (case side4 => exact HC1.out); rintro e w9 ⟨rfl, hb⟩; refine ⟨_, rfl, ?_⟩; replace BK966 := am (blk_below (g := gb966) (o := .cells #[.slice A0_0 l0_0.length c0_0] 32 (0, 0)) (kq BK966.out) hb); replace HB := am (below_step (q82) hb); (try clear hb); (try clear hb2); (try clear hk); (try clear hi)) | ((with_reducible refine gate_callee (f := 62) rfl ?_); refine goesL_ (some 14) rfl rfl Try.func62 (by kernel_rfl) rfl #[.slice A1 l1.length c1, .int .i64 a2] rfl (aq) ?_; (with_reducible refine (impl_enclosing.calls k _ _ l1 a2 t968 _ ?side1 ?side2 A6.out).mono ?_); (case side1 => exact cq (Kd.C_below HR1.out HB.out)); (case side2 => exact HC1.out); rintro e w10 ⟨v969, rfl, ho0, hb⟩; refine ⟨_, rfl, ?_⟩; have HO970 := am (Kd.R_lower ho0 (below_size (q82))); replace BK966 := am (blk_below (g := gb966) (o := .cells #[.slice A0_0 l0_0.length c0_0] 32 (0, 0)) (kq BK966.out) hb); replace HB := am (below_step (q82) hb); (try clear hb); (try clear hb2); (try clear hk); (try clear hi); (try clear ho0)))
  go_ret
  exact ⟨_, q0, rq HO970.out, q82⟩
 ·replace c5 := Bool.eq_false_iff.mpr c5
  subst c5
  have H1 : (some ([] : List Int)) = some r := by rw [if_neg (show ¬ (false = true) by decide)] at H; exact H
  clear H
  have H := H1
  clear H1
  obtain rfl := Option.some.inj H
  go_enter Try.func26, Try.ntmps26
  go_wp2_with (first | ((with_reducible refine gate_dst (N := 3) rfl ?_); refine bE (N := 3) (cs := #[.slice A0_0 l0_0.length c0_0]) (t := 32) ?_; intro gb966 hg w11 hbox hb; have BK966 := am (hbox); have GW966 := am ((by rw [hg]; exact (below_size (bq)) : w.heap.size ≤ gb966)); have GE966 := am ((by rw [hg]; exact (below_size (bq)) : w.heap.size ≤ gb966)); replace HB := am (below_step (bq) hb); clear hb hbox hg; have hcz12_0 := bc0 BK966.out; have hfz12_0 := blk_frozen BK966.out 0) | ((with_reducible refine gate_callee (f := 48) rfl ?_); refine goesL_ (some 10) rfl rfl Try.func48 (by kernel_rfl) rfl #[.agg #[.slice A0_0 l0_0.length c0_0], .slice A1 l1.length c1, .int .i64 a2] rfl (aq) ?_; (with_reducible refine (impl_lineIn.calls k _ _ l0_0 _ _ l1 a2 false _ ?side1 ?side2 ?side3 ?side4 A4.out).mono ?_); (case side1 => exact cq (Kd.C_below HR0_0.out HB.out)); (case side2 => exact HC0_0.out); (case side3 => exact cq (Kd.C_below HR1.out HB.out)); (case side4 => exact HC1.out); rintro e w13 ⟨rfl, hb⟩; refine ⟨_, rfl, ?_⟩; replace BK966 := am (blk_below (g := gb966) (o := .cells #[.slice A0_0 l0_0.length c0_0] 32 (0, 0)) (kq BK966.out) hb); replace HB := am (below_step (q82) hb); (try clear hb); (try clear hb2); (try clear hk); (try clear hi)))
  go_ret
  exact ⟨_, q0, q49, q82⟩
def spec_EnclosingOf.f (k : Nat) (l0_0 : List (S87)) (l1 : List (S52)) (a2 : Int) : Option (List Int) := (spec_goodLine.f k l0_0 l1 a2).bind fun t974 => (if t974 = true then ((spec_enclosing.f k l1 a2).bind fun t975 => (some t975)) else (some ([] : List Int)))
set_option maxHeartbeats 8000000 in
set_option maxRecDepth 100000 in
theorem spec_EnclosingOf.calls (k : Nat) (A0_0 : Option Addr) (c0_0 : Nat) (l0_0 : List (S87)) (A1 : Option Addr) (c1 : Nat) (l1 : List (S52)) (a2 : Int) (r : List Int) (w : World) (hr0_0 : Kd.C k87 w A0_0 l0_0.length l0_0) (hc0_0 : l0_0.length ≤ c0_0) (hr1 : Kd.C k52 w A1 l1.length l1) (hc1 : l1.length ≤ c1) (h : spec_EnclosingOf.f k l0_0 l1 a2 = some r) :
  Calls Try.prog 28 #[.agg #[.slice A0_0 l0_0.length c0_0], .slice A1 l1.length c1, .int .i64 a2] w fun e w' => ∃ v0_ : Value, e = .returned (v0_) ∧ Kd.R (Kd.int .i64) 3 w' w.heap.size (fun _ => True) v0_ r ∧ Below w.heap.size w w' := by
 have hu32 := Try.underlying32
 have HR0_0 := am hr0_0
 have HC0_0 := am hc0_0
 clear hr0_0 hc0_0
 have HR1 := am hr1
 have HC1 := am hc1
 clear hr1 hc1
 have HB := am (Below.refl w.heap.size w)
 have H : ((spec_goodLine.f k l0_0 l1 a2).bind fun t974 => (if t974 = true then ((spec_enclosing.f k l1 a2).bind fun t975 => (some t975)) else (some ([] : List Int)))) = some r := h
 clear h
 replace H := Option.bind_eq_some_iff.mp H
 obtain ⟨t974, A40, H⟩ := H
 replace H : (if t974 = true then ((spec_enclosing.f k l1 a2).bind fun t975 => (some t975)) else (some ([] : List Int))) = some r := H
 have A4 := am A40
 clear A40
 by_cases c5 : t974 = true
 ·subst c5
  have H1 : ((spec_enclosing.f k l1 a2).bind fun t975 => (some t975)) = some r := by rw [if_pos rfl] at H; exact H
  clear H
  have H := H1
  clear H1
  replace H := Option.bind_eq_some_iff.mp H
  obtain ⟨t975, A60, H⟩ := H
  replace H : (some t975) = some r := H
  have A6 := am A60
  clear A60
  obtain rfl := Option.some.inj H
  go_enter Try.func28, Try.ntmps28
  go_wp2_with (first | ((with_reducible refine gate_dst (N := 3) rfl ?_); refine bE (N := 3) (cs := #[.slice A0_0 l0_0.length c0_0]) (t := 32) ?_; intro gb973 hg w7 hbox hb; have BK973 := am (hbox); have GW973 := am ((by rw [hg]; exact (below_size (bq)) : w.heap.size ≤ gb973)); have GE973 := am ((by rw [hg]; exact (below_size (bq)) : w.heap.size ≤ gb973)); replace HB := am (below_step (bq) hb); clear hb hbox hg; have hcz8_0 := bc0 BK973.out; have hfz8_0 := blk_frozen BK973.out 0) | ((with_reducible refine gate_callee (f := 63) rfl ?_); refine goesL_ (some 10) rfl rfl Try.func63 (by kernel_rfl) rfl #[.agg #[.slice A0_0 l0_0.length c0_0], .slice A1 l1.length c1, .int .i64 a2] rfl (aq) ?_; (with_reducible refine (spec_goodLine.calls k _ _ l0_0 _ _ l1 a2 true _ ?side1 ?side2 ?side3 ?side4 A4.out).mono ?_); (case side1 => exact cq (Kd.C_below HR0_0.out HB.out)); (case side2 => exact HC0_0.out); (case side3 => exact cq (Kd.C_below HR1.out HB.out)); (case side4 => exact HC1.out); rintro e w9 ⟨rfl, hb⟩; refine ⟨_, rfl, ?_⟩; replace BK973 := am (blk_below (g := gb973) (o := .cells #[.slice A0_0 l0_0.length c0_0] 32 (0, 0)) (kq BK973.out) hb); replace HB := am (below_step (q83) hb); (try clear hb); (try clear hb2); (try clear hk); (try clear hi)) | ((with_reducible refine gate_callee (f := 43) rfl ?_); refine goesL_ (some 14) rfl rfl Try.func43 (by kernel_rfl) rfl #[.slice A1 l1.length c1, .int .i64 a2] rfl (aq) ?_; (with_reducible refine (spec_enclosing.calls k _ _ l1 a2 t975 _ ?side1 ?side2 A6.out).mono ?_); (case side1 => exact cq (Kd.C_below HR1.out HB.out)); (case side2 => exact HC1.out); rintro e w10 ⟨v976, rfl, ho0, hb⟩; refine ⟨_, rfl, ?_⟩; have HO977 := am (Kd.R_lower ho0 (below_size (q83))); replace BK973 := am (blk_below (g := gb973) (o := .cells #[.slice A0_0 l0_0.length c0_0] 32 (0, 0)) (kq BK973.out) hb); replace HB := am (below_step (q83) hb); (try clear hb); (try clear hb2); (try clear hk); (try clear hi); (try clear ho0)))
  go_ret
  exact ⟨_, q0, rq HO977.out, q83⟩
 ·replace c5 := Bool.eq_false_iff.mpr c5
  subst c5
  have H1 : (some ([] : List Int)) = some r := by rw [if_neg (show ¬ (false = true) by decide)] at H; exact H
  clear H
  have H := H1
  clear H1
  obtain rfl := Option.some.inj H
  go_enter Try.func28, Try.ntmps28
  go_wp2_with (first | ((with_reducible refine gate_dst (N := 3) rfl ?_); refine bE (N := 3) (cs := #[.slice A0_0 l0_0.length c0_0]) (t := 32) ?_; intro gb973 hg w11 hbox hb; have BK973 := am (hbox); have GW973 := am ((by rw [hg]; exact (below_size (bq)) : w.heap.size ≤ gb973)); have GE973 := am ((by rw [hg]; exact (below_size (bq)) : w.heap.size ≤ gb973)); replace HB := am (below_step (bq) hb); clear hb hbox hg; have hcz12_0 := bc0 BK973.out; have hfz12_0 := blk_frozen BK973.out 0) | ((with_reducible refine gate_callee (f := 63) rfl ?_); refine goesL_ (some 10) rfl rfl Try.func63 (by kernel_rfl) rfl #[.agg #[.slice A0_0 l0_0.length c0_0], .slice A1 l1.length c1, .int .i64 a2] rfl (aq) ?_; (with_reducible refine (spec_goodLine.calls k _ _ l0_0 _ _ l1 a2 false _ ?side1 ?side2 ?side3 ?side4 A4.out).mono ?_); (case side1 => exact cq (Kd.C_below HR0_0.out HB.out)); (case side2 => exact HC0_0.out); (case side3 => exact cq (Kd.C_below HR1.out HB.out)); (case side4 => exact HC1.out); rintro e w13 ⟨rfl, hb⟩; refine ⟨_, rfl, ?_⟩; replace BK973 := am (blk_below (g := gb973) (o := .cells #[.slice A0_0 l0_0.length c0_0] 32 (0, 0)) (kq BK973.out) hb); replace HB := am (below_step (q83) hb); (try clear hb); (try clear hb2); (try clear hk); (try clear hi)))
  go_ret
  exact ⟨_, q0, q49, q83⟩
end Go.Proofs.Ytkokajljeebgdaa.P
end
