/- One part of the proofs on this program: functions of the program as plain functions, that the code comes to them, and facts on them. -/
import Derived.Test.YtgbigghiegiejaaYAll1
import Derived.Test.YtgbigghiegiejaaYAll2
import Derived.Test.YtgbigghiegiejaaYAll4
import Derived.Test.YtgbigghiegiejaaYAll5
import Derived.Test.YtgbigghiegiejaaYWAuto
section
namespace Go.Proofs.Ytgbigghiegiejaa.P
open Go.RowKit Go.Proofs.YtgbigghiegiejaaW.PrintWords Go.Proofs.YtgbigghiegiejaaW.PrintLast Go.Proofs.YtgbigghiegiejaaW.PrintMore
attribute [local go_sem] max2_int min2_int max_two min_two max_three min_three max_four min_four isSome_cell_setCell
set_option linter.unusedVariables false
set_option linter.unusedSimpArgs false
def spec_InLoop.f (k : Nat) (l0_0 : List (S63)) (l1 : List (S50)) (a2 : Int) : Option ((List (S50)) × Bool) := (spec_validProgram.f k l0_0 l1).bind fun t418 => (if t418 = true then ((spec_under.f k 0 12 a2 0 l1).bind fun t419 => ((spec_checkedProgram.f k l0_0 t419).bind fun bt422 => (some (bt422.1, bt422.2)))) else (some (([] : List (S50)), false)))
def spec_InLoop.T3 : Bool × List (List Nat × List Nat) := (true, [([], []), ([], []), ([1], [1]), ([], []), ([2, 3], [2, 3]), ([0, 4, 4], [0, 4]), ([5], [5]), ([5], [5]), ([6, 5, 0, 1, 2, 3, 4, 5, 6, 7], [6]), ([7, 8, 0, 1, 2, 3, 4, 5, 6, 7, 8], [7])])
def spec_InLoop.B3 : List Nat := [0, 0, 2, 0, 14, 31, 63, 63, 255, 511]
theorem spec_InLoop.tab3 : rtab .any (opsOf Try.f18 3) = spec_InLoop.T3 := by kernel_rfl
theorem spec_InLoop.bits3 : waitsOk spec_InLoop.T3.2 spec_InLoop.B3 = true := by kernel_rfl
set_option maxHeartbeats 8000000 in
set_option maxRecDepth 100000 in
theorem spec_InLoop.calls (k : Nat) (A0_0 : Option Addr) (c0_0 : Nat) (l0_0 : List (S63)) (A1 : Option Addr) (c1 : Nat) (l1 : List (S50)) (a2 : Int) (r1 : List (S50)) (r2 : Bool) (w : World) (hr0_0 : Kd.C k63 w A0_0 l0_0.length l0_0) (hc0_0 : l0_0.length ≤ c0_0) (hr1 : Kd.C k50 w A1 l1.length l1) (hc1 : l1.length ≤ c1) (h : spec_InLoop.f k l0_0 l1 a2 = some (r1, r2)) :
  Calls Try.prog 18 #[.agg #[.slice A0_0 l0_0.length c0_0], .slice A1 l1.length c1, .int .i64 a2] w fun e w' => ∃ v0_ : Value, e = .returned (.tuple #[v0_, .bool r2]) ∧ Kd.R k50 50 w' w.heap.size (fun _ => True) v0_ r1 ∧ Below w.heap.size w w' := by
 have hu33 := Try.underlying33
 have hu50 := Try.underlying50
 have HR0_0 := am hr0_0
 have HC0_0 := am hc0_0
 clear hr0_0 hc0_0
 have HR1 := am hr1
 have HC1 := am hc1
 clear hr1 hc1
 have HB := am (Below.refl w.heap.size w)
 have H : ((spec_validProgram.f k l0_0 l1).bind fun t418 => (if t418 = true then ((spec_under.f k 0 12 a2 0 l1).bind fun t419 => ((spec_checkedProgram.f k l0_0 t419).bind fun bt422 => (some (bt422.1, bt422.2)))) else (some (([] : List (S50)), false)))) = some (r1, r2) := h
 clear h
 replace H := Option.bind_eq_some_iff.mp H
 obtain ⟨t418, A40, H⟩ := H
 replace H : (if t418 = true then ((spec_under.f k 0 12 a2 0 l1).bind fun t419 => ((spec_checkedProgram.f k l0_0 t419).bind fun bt422 => (some (bt422.1, bt422.2)))) else (some (([] : List (S50)), false))) = some (r1, r2) := H
 have A4 := am A40
 clear A40
 by_cases c5 : t418 = true
 ·subst c5
  have H1 : ((spec_under.f k 0 12 a2 0 l1).bind fun t419 => ((spec_checkedProgram.f k l0_0 t419).bind fun bt422 => (some (bt422.1, bt422.2)))) = some (r1, r2) := by rw [if_pos rfl] at H; exact H
  clear H
  have H := H1
  clear H1
  replace H := Option.bind_eq_some_iff.mp H
  obtain ⟨t419, A60, H⟩ := H
  replace H : ((spec_checkedProgram.f k l0_0 t419).bind fun bt422 => (some (bt422.1, bt422.2))) = some (r1, r2) := H
  have A6 := am A60
  clear A60
  replace H := Option.bind_eq_some_iff.mp H
  obtain ⟨⟨t422, t425⟩, A70, H⟩ := H
  replace H : (some (t422, t425)) = some (r1, r2) := H
  have A7 := am A70
  clear A70
  simp only [Option.some.injEq, Prod.mk.injEq] at H
  obtain ⟨rfl, rfl⟩ := H
  go_enter Try.func18, Try.ntmps18
  try go_wp2_with (first | ((with_reducible refine gate_dst (N := 3) rfl ?_); refine bE (N := 3) (cs := #[.slice A0_0 l0_0.length c0_0]) (t := 33) ?_; intro gb417 hg w8 hbox hb; have BK417 := am (hbox); have GW417 := am ((Y0 : w.heap.size ≤ gb417)); have GE417 := am ((Y0 : w.heap.size ≤ gb417)); replace HB := am (below_step (bq) hb); clear hb hbox hg; have hcz9_0 := bc0 BK417.out; have hfz9_0 := blk_frozen BK417.out 0) | ((with_reducible refine gate_callee (f := 35) rfl ?_); refine gL (some 10) Try.func35 #[.agg #[.slice A0_0 l0_0.length c0_0], .slice A1 l1.length c1] ?_; (with_reducible refine (spec_validProgram.calls k _ _ l0_0 _ _ l1 true _ ?side1 ?side2 ?side3 ?side4 A4.out).mono ?_); (case side1 => exact cq (Kd.C_below HR0_0.out HB.out)); (case side2 => exact HC0_0.out); (case side3 => exact cq (Kd.C_below HR1.out HB.out)); (case side4 => exact HC1.out); rintro e w10 ⟨rfl, hb⟩; refine ⟨_, rfl, ?_⟩; replace BK417 := am (blk_below (g := gb417) (o := .cells #[.slice A0_0 l0_0.length c0_0] 33 (0, 0)) (kq BK417.out) hb); replace HB := am (below_step (Y30) hb); (try clear hb); (try clear hb2); (try clear hk); (try clear hi)))
  replace BK417 := am (blk_drew BK417.out)
  replace HB := am (below_drew1 HB.out)
  refine start_ (n := 10) (S := fun w' => w'.cell? ⟨gb417, 0, none⟩ = some (.slice A0_0 l0_0.length c0_0)) (ds := []) #[false, false, false, false, false, false, false, false, false, false] (by kernel_rfl) rfl rfl ((blk_cell BK417.out 0).trans rfl) (fun hHeld => ?_); refine with_tabW spec_InLoop.tab3 spec_InLoop.bits3 (fun HT_ HW_ => ?_)
  generalize w10.drew = w11 at BK417 HB hHeld ⊢
  refine pq (i := 1) (N := some 13) #[false, true, false, false, false, false, false, false, false, false] ?_
  refine pq (i := 2) (N := some 14) #[false, true, true, false, false, false, false, false, false, false] ?_
  refine pq (i := 3) (N := some 15) #[false, true, true, true, false, false, false, false, false, false] ?_
  refine take_ (i := 0) (N := some 12) (v := ?_) (a' := ?_) #[true, true, true, true, false, false, false, false, false, false] rfl rfl (take_ofW HT_.out HW_.out (by kernel_rfl)) (fun _ _ _ h => h) (Or.inl ⟨by rfl, ?_⟩) hHeld ?_ ?_
  rotate_left
  ·intro w' s0
   go_simp
   with_reducible rfl
  rotate_left
  ·exact sa
  refine one_ (i := 4) (N := some 16) #[true, true, true, true, true, false, false, false, false, false] rfl rfl (one_of HT_.out (by kernel_rfl)) (by decide) (fun K hK => ?_)
  refine goes_ Try.func36 (by kernel_rfl) rfl #[.agg #[.int .i64 0, .int .i64 12, .int .i64 a2, .int .i64 0], .slice A1 l1.length c1] (by rfl) rfl rfl (aq) ?_
  with_reducible refine (spec_under.calls k 0 12 a2 0 _ _ l1 t419 _ ?side1 ?side2 A6.out).mono ?_
  (case side1 => exact cq (Kd.C_below HR1.out HB.out))
  (case side2 => exact HC1.out)
  rintro e w12 ⟨v420, rfl, ho0, hb⟩
  refine ⟨_, rfl, ?_⟩
  have HO421 := am (Kd.R_lower ho0 (below_size (Y30)))
  replace BK417 := am (blk_below (g := gb417) (o := .cells #[.slice A0_0 l0_0.length c0_0] 33 (0, 0)) (kq BK417.out) hb)
  replace HB := am (below_step (Y30) hb)
  (try clear hb)
  (try clear hb2)
  (try clear hk)
  (try clear hi)
  (try clear ho0)
  obtain ⟨Ao13, co13, eo13⟩ := Kd.R_slice HO421.out
  (first | subst eo13 | (injection eo13 with f1_ f2_ f3_; have f4_ := f1_.symm; have f5_ := f3_.symm; clear f1_ f2_ f3_; subst f4_; subst f5_))
  refine hK.out _ _ ((blk_cell BK417.out 0).trans rfl) (fun hHeld => ?_)
  clear hK K
  refine norm_ (a' := ?_) ?_ ?_
  rotate_left
  ·show Act.put _ (some 16) _ = _
   simp only [Act.put, List.setIfInBounds_toArray, List.set_cons_zero, List.set_cons_succ, i64_w, i32_w]
   rfl
  refine one_ (i := 5) (N := some 17) #[true, true, true, true, true, true, false, false, false, false] rfl rfl (one_of HT_.out (by kernel_rfl)) (by decide) (fun K hK => ?_)
  refine goes_ Try.func26 (by kernel_rfl) rfl #[.agg #[.slice A0_0 l0_0.length c0_0], .slice Ao13 t419.length co13] (by rfl) rfl rfl (aq) ?_
  with_reducible refine (spec_checkedProgram.calls k _ _ l0_0 (fun k_ => some k_ = (.slice Ao13 t419.length co13 : Value).ownBlock) (.slice Ao13 t419.length co13) t419 t422 t425 w _ ?side1 ?side2 ?side3 ?side4 A7.out).mono ?_
  (case side1 => exact Y30)
  (case side2 => exact Kd.C_kept_came k63_heap HR0_0.out (Y30) (fun k_ hs_ => (fun e_ => Kd.R_base HO421.out k_ e_.symm) hs_))
  (case side3 => exact HC0_0.out)
  (case side4 => exact Kd.R_tight rfl HO421.out)
  rintro e w14 ⟨v423, rfl, ho0, hb, hkp⟩
  refine ⟨_, rfl, ?_⟩
  have n0_ := am (blk_kept (kq BK417.out) hkp (fun hs_ => (fun e_ => (Kd.R_ne HO421.out BK417.out (by decide)) e_) hs_))
  have n1_ := am (Kd.R_mono (ok' := fun k_ => True) ho0 (fun k_ hk_ => trivial))
  have n2_ := am (hb)
  clear BK417
  clear HB
  clear HO421
  have BK417 := n0_
  have HO424 := n1_
  have HB := n2_
  clear n0_ n1_ n2_
  (try clear hb)
  (try clear hkp)
  (try clear ho0)
  refine hK.out _ _ ((blk_cell BK417.out 0).trans rfl) (fun hHeld => ?_)
  clear hK K
  refine norm_ (a' := ?_) ?_ ?_
  rotate_left
  ·show Act.put _ (some 17) _ = _
   simp only [Act.put, List.setIfInBounds_toArray, List.set_cons_zero, List.set_cons_succ, i64_w, i32_w]
   rfl
  refine pq (i := 6) (N := some 18) #[true, true, true, true, true, true, true, false, false, false] ?_
  refine pq (i := 7) (N := some 19) #[true, true, true, true, true, true, true, true, false, false] ?_
  refine pq (i := 8) (N := some 6) #[true, true, true, true, true, true, true, true, true, false] ?_
  refine pq (i := 9) (N := some 7) #[true, true, true, true, true, true, true, true, true, true] ?_
  refine done_ (done_of HT_.out (by kernel_rfl)) ?_
  try go_wp2
  go_ret2
  exact ⟨_, Y1, rq HO424.out, Y30⟩
 ·replace c5 := Bool.eq_false_iff.mpr c5
  subst c5
  have H1 : (some (([] : List (S50)), false)) = some (r1, r2) := by rw [if_neg (show ¬ (false = true) by decide)] at H; exact H
  clear H
  have H := H1
  clear H1
  simp only [Option.some.injEq, Prod.mk.injEq] at H
  obtain ⟨rfl, rfl⟩ := H
  go_enter Try.func18, Try.ntmps18
  go_wp2_with (first | ((with_reducible refine gate_dst (N := 3) rfl ?_); refine bE (N := 3) (cs := #[.slice A0_0 l0_0.length c0_0]) (t := 33) ?_; intro gb417 hg w15 hbox hb; have BK417 := am (hbox); have GW417 := am ((Y0 : w.heap.size ≤ gb417)); have GE417 := am ((Y0 : w.heap.size ≤ gb417)); replace HB := am (below_step (bq) hb); clear hb hbox hg; have hcz16_0 := bc0 BK417.out; have hfz16_0 := blk_frozen BK417.out 0) | ((with_reducible refine gate_callee (f := 35) rfl ?_); refine gL (some 10) Try.func35 #[.agg #[.slice A0_0 l0_0.length c0_0], .slice A1 l1.length c1] ?_; (with_reducible refine (spec_validProgram.calls k _ _ l0_0 _ _ l1 false _ ?side1 ?side2 ?side3 ?side4 A4.out).mono ?_); (case side1 => exact cq (Kd.C_below HR0_0.out HB.out)); (case side2 => exact HC0_0.out); (case side3 => exact cq (Kd.C_below HR1.out HB.out)); (case side4 => exact HC1.out); rintro e w17 ⟨rfl, hb⟩; refine ⟨_, rfl, ?_⟩; replace BK417 := am (blk_below (g := gb417) (o := .cells #[.slice A0_0 l0_0.length c0_0] 33 (0, 0)) (kq BK417.out) hb); replace HB := am (below_step (Y30) hb); (try clear hb); (try clear hb2); (try clear hk); (try clear hi)))
  go_ret2
  exact ⟨_, Y1, Y28, Y30⟩
def impl_InLoop.f (k : Nat) (l0_0 : List (S63)) (l1 : List (S50)) (a2 : Int) : Option ((List (S50)) × Bool) := (impl_ValidProgram.f k l0_0 l1).bind fun t438 => (if t438 = true then ((impl_inner.f k l1).bind fun t442 => ((slices_Concat_Line.f (([(([(⟨0, 12, a2, 0⟩ : S50)] : List (S50))), t442] : List (List (S50))))).bind fun t448 => ((impl_programMade.f k l0_0 t448).bind fun bt451 => (some (bt451.1, bt451.2))))) else (some (([] : List (S50)), false)))
def impl_InLoop.T3 : Bool × List (List Nat × List Nat) := (true, [([], []), ([], []), ([1], [1]), ([2], [2]), ([], []), ([4], [4]), ([3, 5], [3, 5]), ([6, 5], [6]), ([0, 7, 7], [0, 7]), ([8], [8]), ([8], [8]), ([9, 8, 0, 1, 2, 3, 4, 5, 6, 7, 8, 9, 10], [9]), ([10, 11, 0, 1, 2, 3, 4, 5, 6, 7, 8, 9, 10, 11], [10])])
def impl_InLoop.B3 : List Nat := [0, 0, 2, 6, 0, 16, 62, 126, 255, 511, 511, 2047, 4095]
theorem impl_InLoop.tab3 : rtab .any (opsOf Try.f19 3) = impl_InLoop.T3 := by kernel_rfl
theorem impl_InLoop.bits3 : waitsOk impl_InLoop.T3.2 impl_InLoop.B3 = true := by kernel_rfl
set_option maxHeartbeats 8000000 in
set_option maxRecDepth 100000 in
theorem impl_InLoop.calls (k : Nat) (A0_0 : Option Addr) (c0_0 : Nat) (l0_0 : List (S63)) (A1 : Option Addr) (c1 : Nat) (l1 : List (S50)) (a2 : Int) (r1 : List (S50)) (r2 : Bool) (w : World) (hr0_0 : Kd.C k63 w A0_0 l0_0.length l0_0) (hc0_0 : l0_0.length ≤ c0_0) (hr1 : Kd.C k50 w A1 l1.length l1) (hc1 : l1.length ≤ c1) (h : impl_InLoop.f k l0_0 l1 a2 = some (r1, r2)) :
  Calls Try.prog 19 #[.agg #[.slice A0_0 l0_0.length c0_0], .slice A1 l1.length c1, .int .i64 a2] w fun e w' => ∃ v0_ : Value, e = .returned (.tuple #[v0_, .bool r2]) ∧ Kd.R k50 50 w' w.heap.size (fun _ => True) v0_ r1 ∧ Below w.heap.size w w' := by
 have hu33 := Try.underlying33
 have hu50 := Try.underlying50
 have HR0_0 := am hr0_0
 have HC0_0 := am hc0_0
 clear hr0_0 hc0_0
 have HR1 := am hr1
 have HC1 := am hc1
 clear hr1 hc1
 have HB := am (Below.refl w.heap.size w)
 have H : ((impl_ValidProgram.f k l0_0 l1).bind fun t438 => (if t438 = true then ((impl_inner.f k l1).bind fun t442 => ((slices_Concat_Line.f (([(([(⟨0, 12, a2, 0⟩ : S50)] : List (S50))), t442] : List (List (S50))))).bind fun t448 => ((impl_programMade.f k l0_0 t448).bind fun bt451 => (some (bt451.1, bt451.2))))) else (some (([] : List (S50)), false)))) = some (r1, r2) := h
 clear h
 replace H := Option.bind_eq_some_iff.mp H
 obtain ⟨t438, A40, H⟩ := H
 replace H : (if t438 = true then ((impl_inner.f k l1).bind fun t442 => ((slices_Concat_Line.f (([(([(⟨0, 12, a2, 0⟩ : S50)] : List (S50))), t442] : List (List (S50))))).bind fun t448 => ((impl_programMade.f k l0_0 t448).bind fun bt451 => (some (bt451.1, bt451.2))))) else (some (([] : List (S50)), false))) = some (r1, r2) := H
 have A4 := am A40
 clear A40
 by_cases c5 : t438 = true
 ·subst c5
  have H1 : ((impl_inner.f k l1).bind fun t442 => ((slices_Concat_Line.f (([(([(⟨0, 12, a2, 0⟩ : S50)] : List (S50))), t442] : List (List (S50))))).bind fun t448 => ((impl_programMade.f k l0_0 t448).bind fun bt451 => (some (bt451.1, bt451.2))))) = some (r1, r2) := by rw [if_pos rfl] at H; exact H
  clear H
  have H := H1
  clear H1
  obtain ⟨y439, hy439⟩ : ∃ y_ : List (S50), y_ = (([(⟨0, 12, a2, 0⟩ : S50)] : List (S50))) := ⟨_, rfl⟩
  replace H : ((impl_inner.f k l1).bind fun t442 => ((slices_Concat_Line.f (([y439, t442] : List (List (S50))))).bind fun t448 => ((impl_programMade.f k l0_0 t448).bind fun bt451 => (some (bt451.1, bt451.2))))) = some (r1, r2) := by first | (rw [hy439]; with_reducible exact H) | (have H2_ := (Option.bind_some _ _).symm.trans H; rw [hy439]; with_reducible exact H2_) | (have H2_ := (Option.bind_some _ _).symm.trans H; with_reducible exact H2_) | with_reducible exact H | (rw [hy439]; exact H) | exact H
  have Ny439 := am hy439
  clear hy439
  replace H := Option.bind_eq_some_iff.mp H
  obtain ⟨t442, A60, H⟩ := H
  replace H : ((slices_Concat_Line.f (([y439, t442] : List (List (S50))))).bind fun t448 => ((impl_programMade.f k l0_0 t448).bind fun bt451 => (some (bt451.1, bt451.2)))) = some (r1, r2) := H
  have A6 := am A60
  clear A60
  obtain ⟨y445, hy445⟩ : ∃ y_ : List (List (S50)), y_ = (([y439, t442] : List (List (S50)))) := ⟨_, rfl⟩
  replace H : ((slices_Concat_Line.f y445).bind fun t448 => ((impl_programMade.f k l0_0 t448).bind fun bt451 => (some (bt451.1, bt451.2)))) = some (r1, r2) := by first | (rw [hy445]; with_reducible exact H) | (have H2_ := (Option.bind_some _ _).symm.trans H; rw [hy445]; with_reducible exact H2_) | (have H2_ := (Option.bind_some _ _).symm.trans H; with_reducible exact H2_) | with_reducible exact H | (rw [hy445]; exact H) | exact H
  have Ny445 := am hy445
  clear hy445
  replace H := Option.bind_eq_some_iff.mp H
  obtain ⟨t448, A70, H⟩ := H
  replace H : ((impl_programMade.f k l0_0 t448).bind fun bt451 => (some (bt451.1, bt451.2))) = some (r1, r2) := H
  have A7 := am A70
  clear A70
  replace H := Option.bind_eq_some_iff.mp H
  obtain ⟨⟨t451, t454⟩, A80, H⟩ := H
  replace H : (some (t451, t454)) = some (r1, r2) := H
  have A8 := am A80
  clear A80
  simp only [Option.some.injEq, Prod.mk.injEq] at H
  obtain ⟨rfl, rfl⟩ := H
  go_enter Try.func19, Try.ntmps19
  try go_wp2_with (first | ((with_reducible refine gate_dst (N := 3) rfl ?_); refine bE (N := 3) (cs := #[.slice A0_0 l0_0.length c0_0]) (t := 33) ?_; intro gb437 hg w9 hbox hb; have BK437 := am (hbox); have GW437 := am ((Y0 : w.heap.size ≤ gb437)); have GE437 := am ((Y0 : w.heap.size ≤ gb437)); replace HB := am (below_step (bq) hb); clear hb hbox hg; have hcz10_0 := bc0 BK437.out; have hfz10_0 := blk_frozen BK437.out 0) | ((with_reducible refine gate_callee (f := 37) rfl ?_); refine gL (some 10) Try.func37 #[.agg #[.slice A0_0 l0_0.length c0_0], .slice A1 l1.length c1] ?_; (with_reducible refine (impl_ValidProgram.calls k _ _ l0_0 _ _ l1 true _ ?side1 ?side2 ?side3 ?side4 A4.out).mono ?_); (case side1 => exact cq (Kd.C_below HR0_0.out HB.out)); (case side2 => exact HC0_0.out); (case side3 => exact cq (Kd.C_below HR1.out HB.out)); (case side4 => exact HC1.out); rintro e w11 ⟨rfl, hb⟩; refine ⟨_, rfl, ?_⟩; replace BK437 := am (blk_below (g := gb437) (o := .cells #[.slice A0_0 l0_0.length c0_0] 33 (0, 0)) (kq BK437.out) hb); replace HB := am (below_step (Y14) hb); (try clear hb); (try clear hb2); (try clear hk); (try clear hi)))
  replace BK437 := am (blk_drew BK437.out)
  replace HB := am (below_drew1 HB.out)
  refine start_ (n := 13) (S := fun w' => w'.cell? ⟨gb437, 0, none⟩ = some (.slice A0_0 l0_0.length c0_0)) (ds := []) #[false, false, false, false, false, false, false, false, false, false, false, false, false] (by kernel_rfl) rfl rfl ((blk_cell BK437.out 0).trans rfl) (fun hHeld => ?_); refine with_tabW impl_InLoop.tab3 impl_InLoop.bits3 (fun HT_ HW_ => ?_)
  generalize w11.drew = w12 at BK437 HB hHeld ⊢
  refine pq (i := 1) (N := some 13) #[false, true, false, false, false, false, false, false, false, false, false, false, false] ?_
  refine pq (i := 2) (N := some 14) #[false, true, true, false, false, false, false, false, false, false, false, false, false] ?_
  refine pq (i := 4) (N := some 16) #[false, true, true, false, true, false, false, false, false, false, false, false, false] ?_
  refine take_ (i := 0) (N := some 12) (v := ?_) (a' := ?_) #[true, true, true, false, true, false, false, false, false, false, false, false, false] rfl rfl (take_ofW HT_.out HW_.out (by kernel_rfl)) (fun _ _ _ h => h) (Or.inl ⟨by rfl, ?_⟩) hHeld ?_ ?_
  rotate_left
  ·intro w' s0
   go_simp
   with_reducible rfl
  rotate_left
  ·exact sa
  refine join_ (σ := Value × Value) 7 #[true, true, true, true, true, true, false, false, false, false, false, false, false] (fun s_ => [(15, s_.1), (17, s_.2)]) (fun s_ w' => (w'.cell? ⟨gb437, 0, none⟩ = some (.slice A0_0 l0_0.length c0_0)) ∧ (Kd.R k50 50 w' w.heap.size (fun k_ => some k_ ≠ (s_.2 : Value).ownBlock) s_.1 y439) ∧ (Kd.R k50 50 w' w.heap.size (fun k_ => some k_ ≠ (s_.1 : Value).ownBlock) s_.2 t442) ∧ (w'.heap[gb437]? = some (.cells #[.slice A0_0 l0_0.length c0_0] 33 (0, 0))) ∧ (Below w.heap.size w w')) ?_ ?_
  rotate_left
  ·intro hCont
   refine two_ (i := 3) (j := 5) (Ni := some 15) (Nj := some 17) #[true, true, true, true, true, false, false, false, false, false, false, false, false] #[true, true, true, false, true, true, false, false, false, false, false, false, false] rfl rfl rfl rfl (two_of HT_.out (by kernel_rfl)) (by decide) (by decide) (fun K hK => ?_) (fun K hK => ?_)
   ·skip
    refine Kd.R_lit_step k50 _ 50 ?hg (N := 15) ?hd (xs := ([(⟨0, 12, a2, 0⟩ : S50)] : List (S50))) (inner := [.int .i64 0, .int .i64 12, .int .i64 a2, .int .i64 0]) (ok := fun _ => True) (okp := fun _ => True) ?hr ?hp (fun _ hk => hk) trivial (Below.refl _ _) (Nat.le_refl _) (by simp) ?_; (case hd => rfl); (case hg => rfl); (case hr => exact Y4); (case hp => exact (Reps.c4 (show Kd.M k50 _ _ _ (⟨0, 12, a2, 0⟩ : S50) [.int .i64 0, .int .i64 12, .int .i64 a2, .int .i64 0] from (k50_mkM _ _ _ (⟨0, 12, a2, 0⟩ : S50) )) (Reps.none _ _)))
    intro v440 w13 ho14 hb hg_ hnew_
    clear hg_ hnew_
    (first | rw [← Ny439.out] at ho14 | (simp only [Int.reduceToNat] at ho14; rw [← Ny439.out] at ho14))
    have HO441 := am (Kd.R_lower ho14 (below_size (Y14)))
    replace BK437 := am (blk_below (g := gb437) (o := .cells #[.slice A0_0 l0_0.length c0_0] 33 (0, 0)) (kq BK437.out) hb)
    replace HB := am (below_step (Y14) hb)
    clear hb ho14
    refine hK.out _ _ ((blk_cell BK437.out 0).trans rfl) (fun hHeld => ?_)
    clear hK K
    refine norm_ (a' := ?_) ?_ ?_
    rotate_left
    ·show Act.put _ (some 15) _ = _
     simp only [Act.put, List.setIfInBounds_toArray, List.set_cons_zero, List.set_cons_succ, i64_w, i32_w]
     rfl
    refine one_ (i := 5) (N := some 17) #[true, true, true, true, true, true, false, false, false, false, false, false, false] rfl rfl (one_of HT_.out (by kernel_rfl)) (by decide) (fun K hK => ?_)
    refine goes_ Try.func38 (by kernel_rfl) rfl #[.slice A1 l1.length c1] (by rfl) rfl rfl (aq) ?_
    with_reducible refine (impl_inner.calls k _ _ l1 t442 _ ?side1 ?side2 A6.out).mono ?_
    (case side1 => exact cq (Kd.C_below HR1.out HB.out))
    (case side2 => exact HC1.out)
    rintro e w15 ⟨v443, rfl, ho0, hb⟩
    refine ⟨_, rfl, ?_⟩
    have HO444 := am (Kd.R_lower (Kd.R_new' ho0 (Kd.R_lt (rq HO441.out))) (below_size (Y14)))
    replace HO441 := am (Kd.R_elder' (rq HO441.out) (Kd.R_base ho0) hb)
    replace BK437 := am (blk_below (g := gb437) (o := .cells #[.slice A0_0 l0_0.length c0_0] 33 (0, 0)) (kq BK437.out) hb)
    replace HB := am (below_step (Y14) hb)
    (try clear hb)
    (try clear hb2)
    (try clear hk)
    (try clear hi)
    (try clear ho0)
    refine hK.out _ _ ((blk_cell BK437.out 0).trans rfl) (fun hHeld => ?_)
    clear hK K
    refine norm_ (a' := ?_) ?_ ?_
    rotate_left
    ·show Act.put _ (some 17) _ = _
     simp only [Act.put, List.setIfInBounds_toArray, List.set_cons_zero, List.set_cons_succ, i64_w, i32_w]
     rfl
    exact norm_ (by simp only [putAll, Act.put, List.setIfInBounds_toArray, List.set_cons_zero, List.set_cons_succ]) (hCont (v440, v443) _ ⟨hHeld, (Y87), (Y88), (kq BK437.out), (Y14)⟩)
   ·skip
    refine goes_ Try.func38 (by kernel_rfl) rfl #[.slice A1 l1.length c1] (by rfl) rfl rfl (aq) ?_
    with_reducible refine (impl_inner.calls k _ _ l1 t442 _ ?side1 ?side2 A6.out).mono ?_
    (case side1 => exact cq (Kd.C_below HR1.out HB.out))
    (case side2 => exact HC1.out)
    rintro e w13 ⟨v443, rfl, ho0, hb⟩
    refine ⟨_, rfl, ?_⟩
    have HO444 := am (Kd.R_lower ho0 (below_size (Y14)))
    replace BK437 := am (blk_below (g := gb437) (o := .cells #[.slice A0_0 l0_0.length c0_0] 33 (0, 0)) (kq BK437.out) hb)
    replace HB := am (below_step (Y14) hb)
    (try clear hb)
    (try clear hb2)
    (try clear hk)
    (try clear hi)
    (try clear ho0)
    refine hK.out _ _ ((blk_cell BK437.out 0).trans rfl) (fun hHeld => ?_)
    clear hK K
    refine norm_ (a' := ?_) ?_ ?_
    rotate_left
    ·show Act.put _ (some 17) _ = _
     simp only [Act.put, List.setIfInBounds_toArray, List.set_cons_zero, List.set_cons_succ, i64_w, i32_w]
     rfl
    refine one_ (i := 3) (N := some 15) #[true, true, true, true, true, true, false, false, false, false, false, false, false] rfl rfl (one_of HT_.out (by kernel_rfl)) (by decide) (fun K hK => ?_)
    refine Kd.R_lit_step k50 _ 50 ?hg (N := 15) ?hd (xs := ([(⟨0, 12, a2, 0⟩ : S50)] : List (S50))) (inner := [.int .i64 0, .int .i64 12, .int .i64 a2, .int .i64 0]) (ok := fun _ => True) (okp := fun _ => True) ?hr ?hp (fun _ hk => hk) trivial (Below.refl _ _) (Nat.le_refl _) (by simp) ?_; (case hd => rfl); (case hg => rfl); (case hr => exact Y4); (case hp => exact (Reps.c4 (show Kd.M k50 _ _ _ (⟨0, 12, a2, 0⟩ : S50) [.int .i64 0, .int .i64 12, .int .i64 a2, .int .i64 0] from (k50_mkM _ _ _ (⟨0, 12, a2, 0⟩ : S50) )) (Reps.none _ _)))
    intro v440 w14 ho15 hb hg_ hnew_
    clear hg_ hnew_
    (first | rw [← Ny439.out] at ho15 | (simp only [Int.reduceToNat] at ho15; rw [← Ny439.out] at ho15))
    have HO441 := am (Kd.R_lower (Kd.R_new' ho15 (Kd.R_lt (rq HO444.out))) (below_size (Y14)))
    replace HO444 := am (Kd.R_elder' (rq HO444.out) (Kd.R_base ho15) hb)
    replace BK437 := am (blk_below (g := gb437) (o := .cells #[.slice A0_0 l0_0.length c0_0] 33 (0, 0)) (kq BK437.out) hb)
    replace HB := am (below_step (Y14) hb)
    clear hb ho15
    refine hK.out _ _ ((blk_cell BK437.out 0).trans rfl) (fun hHeld => ?_)
    clear hK K
    refine norm_ (a' := ?_) ?_ ?_
    rotate_left
    ·show Act.put _ (some 15) _ = _
     simp only [Act.put, List.setIfInBounds_toArray, List.set_cons_zero, List.set_cons_succ, i64_w, i32_w]
     rfl
    exact norm_ (by simp only [putAll, Act.put, List.setIfInBounds_toArray, List.set_cons_zero, List.set_cons_succ]) (hCont (v440, v443) _ ⟨hHeld, (Y87), (Y88), (kq BK437.out), (Y14)⟩)
  rintro ⟨v440, v443⟩ w16 ⟨hS_, h0_, h1_, h2_, h3_⟩
  have n0_ : Aside0 (Kd.R k50 50 w16 w.heap.size (fun k_ => some k_ ≠ (v443 : Value).ownBlock) v440 y439) := ⟨h0_⟩
  have n1_ : Aside0 (Kd.R k50 50 w16 w.heap.size (fun k_ => some k_ ≠ (v440 : Value).ownBlock) v443 t442) := ⟨h1_⟩
  have n2_ : Aside0 (w16.heap[gb437]? = some (.cells #[.slice A0_0 l0_0.length c0_0] 33 (0, 0))) := ⟨h2_⟩
  have n3_ : Aside0 (Below w.heap.size w w16) := ⟨h3_⟩
  clear BK437
  clear HB
  clear h0_ h1_ h2_ h3_
  have HO441 := n0_
  have HO444 := n1_
  have BK437 := n2_
  have HB := n3_
  clear n0_ n1_ n2_ n3_
  have hHeld : w16.cell? ⟨gb437, 0, none⟩ = some (.slice A0_0 l0_0.length c0_0) := hS_
  obtain ⟨Ao17, co17, eo17⟩ := Kd.R_slice HO441.out
  (first | subst eo17 | (injection eo17 with f1_ f2_ f3_; have f4_ := f1_.symm; have f5_ := f3_.symm; clear f1_ f2_ f3_; subst f4_; subst f5_))
  obtain ⟨Ao18, co18, eo18⟩ := Kd.R_slice HO444.out
  (first | subst eo18 | (injection eo18 with f1_ f2_ f3_; have f4_ := f1_.symm; have f5_ := f3_.symm; clear f1_ f2_ f3_; subst f4_; subst f5_))
  refine norm_ (a' := ?_) ?_ ?_
  rotate_left
  ·simp only [putAll, Act.put, List.setIfInBounds_toArray, List.set_cons_zero, List.set_cons_succ]
   rfl
  refine one_ (i := 6) (N := some 18) #[true, true, true, true, true, true, true, false, false, false, false, false, false] rfl rfl (one_of HT_.out (by kernel_rfl)) (by decide) (fun K hK => ?_)
  refine Kd.N_lit_step (Kd.slice 50 k50) _ 28 ?hg (N' := 18) ?hd (xs := ([y439, t442] : List (List (S50)))) (inner := [.slice Ao17 y439.length co17, .slice Ao18 t442.length co18]) (ok := (fun k_ => k_ ≠ gb437)) (okp := (fun k_ => k_ ≠ gb437)) ?hr ?hp (fun _ hk => hk) ((show ∀ k_, w16.heap.size ≤ k_ → (fun k_ => k_ ≠ gb437) k_ from fun k_ hk => Kd.freshB (g := gb437) (o := .cells #[.slice A0_0 l0_0.length c0_0] 33 (0, 0)) (kq BK437.out) k_ hk) _ (Nat.le_refl _)) (Below.refl _ _) (Nat.le_refl _) (by simp) ?_; (case hd => rfl); (case hg => rfl); (case hr => exact Y4); (case hp => exact (Reps.one (show Kd.FK (Kd.slice 50 k50) _ _ y439 [.slice Ao17 y439.length co17] from (Kd.FK_slice_mk (Kd.R_reads' (Kd.R_mono (ok' := (fun k_ => k_ ≠ gb437)) (Kd.R_types (HO441.out) BK437.out (by decide)) (fun k_ hk => hk.2))).2.1 (Kd.R_F (Kd.R_mono (ok' := (fun k_ => k_ ≠ gb437)) (Kd.R_types (HO441.out) BK437.out (by decide)) (fun k_ hk => hk.2))))) (Reps.one (show Kd.FK (Kd.slice 50 k50) _ _ t442 [.slice Ao18 t442.length co18] from (Kd.FK_slice_mk (Kd.R_reads' (Kd.R_mono (ok' := (fun k_ => k_ ≠ gb437)) (Kd.R_types (HO444.out) BK437.out (by decide)) (fun k_ hk => hk.2))).2.1 (Kd.R_F (Kd.R_mono (ok' := (fun k_ => k_ ≠ gb437)) (Kd.R_types (HO444.out) BK437.out (by decide)) (fun k_ hk => hk.2))))) (Reps.none _ _))))
  intro v446 w19 ho20 hb hg_ hnew_
  clear hg_ hnew_
  (first | rw [← Ny445.out] at ho20 | (simp only [Int.reduceToNat] at ho20; rw [← Ny445.out] at ho20))
  have n0_ := am (Kd.N_lower ho20 (below_size (Y14)))
  have n1_ := am (blk_below (g := gb437) (o := .cells #[.slice A0_0 l0_0.length c0_0] 33 (0, 0)) (kq BK437.out) hb)
  have n2_ := am (below_step (Y14) hb)
  clear BK437
  clear HB
  clear HO441
  clear HO444
  have HO447 := n0_
  have BK437 := n1_
  have HB := n2_
  clear n0_ n1_ n2_
  clear hb ho20
  obtain ⟨Ao21, co21, eo21⟩ := Kd.N_slice HO447.out
  (first | subst eo21 | (injection eo21 with f1_ f2_ f3_; have f4_ := f1_.symm; have f5_ := f3_.symm; clear f1_ f2_ f3_; subst f4_; subst f5_))
  refine hK.out _ _ ((blk_cell BK437.out 0).trans rfl) (fun hHeld => ?_)
  clear hK K
  refine norm_ (a' := ?_) ?_ ?_
  rotate_left
  ·show Act.put _ (some 18) _ = _
   simp only [Act.put, List.setIfInBounds_toArray, List.set_cons_zero, List.set_cons_succ, i64_w, i32_w]
   rfl
  refine one_ (i := 7) (N := some 19) #[true, true, true, true, true, true, true, true, false, false, false, false, false] rfl rfl (one_of HT_.out (by kernel_rfl)) (by decide) (fun K hK => ?_)
  refine goes_ Try.func31 (by kernel_rfl) rfl #[.slice Ao21 y445.length co21] (by rfl) rfl rfl (aq) ?_
  with_reducible refine (slices_Concat_Line.calls _ _ y445 t448 _ ?side1 ?side2 A7.out).mono ?_
  (case side1 => exact cq (Kd.N_reads' HO447.out).2.2)
  (case side2 => exact (Kd.N_reads' HO447.out).2.1)
  rintro e w22 ⟨v449, rfl, ho0, hb⟩
  refine ⟨_, rfl, ?_⟩
  have HO450 := am (Kd.R_lower ho0 (below_size (Y14)))
  replace HO447 := am (Kd.N_elder' (by (with_reducible repeat (first | apply Kd.N_alloc | apply Kd.N_drewN | apply Kd.N_drew)); exact HO447.out) (Kd.R_base ho0) hb)
  replace BK437 := am (blk_below (g := gb437) (o := .cells #[.slice A0_0 l0_0.length c0_0] 33 (0, 0)) (kq BK437.out) hb)
  replace HB := am (below_step (Y14) hb)
  (try clear hb)
  (try clear hb2)
  (try clear hk)
  (try clear hi)
  (try clear ho0)
  obtain ⟨Ao23, co23, eo23⟩ := Kd.R_slice HO450.out
  (first | subst eo23 | (injection eo23 with f1_ f2_ f3_; have f4_ := f1_.symm; have f5_ := f3_.symm; clear f1_ f2_ f3_; subst f4_; subst f5_))
  refine hK.out _ _ ((blk_cell BK437.out 0).trans rfl) (fun hHeld => ?_)
  clear hK K
  refine norm_ (a' := ?_) ?_ ?_
  rotate_left
  ·show Act.put _ (some 19) _ = _
   simp only [Act.put, List.setIfInBounds_toArray, List.set_cons_zero, List.set_cons_succ, i64_w, i32_w]
   rfl
  refine one_ (i := 8) (N := some 20) #[true, true, true, true, true, true, true, true, true, false, false, false, false] rfl rfl (one_of HT_.out (by kernel_rfl)) (by decide) (fun K hK => ?_)
  refine goes_ Try.func30 (by kernel_rfl) rfl #[.agg #[.slice A0_0 l0_0.length c0_0], .slice Ao23 t448.length co23] (by rfl) rfl rfl (aq) ?_
  with_reducible refine (impl_programMade.calls k _ _ l0_0 (fun k_ => some k_ = (.slice Ao23 t448.length co23 : Value).ownBlock) (.slice Ao23 t448.length co23) t448 t451 t454 w _ ?side1 ?side2 ?side3 ?side4 A8.out).mono ?_
  (case side1 => exact Y14)
  (case side2 => exact Kd.C_kept_came k63_heap HR0_0.out (Y14) (fun k_ hs_ => (fun e_ => Kd.R_base HO450.out k_ e_.symm) hs_))
  (case side3 => exact HC0_0.out)
  (case side4 => exact Kd.R_tight rfl HO450.out)
  rintro e w24 ⟨v452, rfl, ho0, hb, hkp⟩
  refine ⟨_, rfl, ?_⟩
  have n0_ := am (blk_kept (kq BK437.out) hkp (fun hs_ => (fun e_ => (Kd.R_ne HO450.out BK437.out (by decide)) e_) hs_))
  have n1_ := am (Kd.N_mono (ok' := fun k_ => k_ ≠ gb437 ∧ some k_ ≠ (v452 : Value).ownBlock) (Kd.N_keptB (HO447.out) hkp (fun k_ hk_ hs_ => (hk_.2) hs_)) (fun k_ hk_ => ⟨hk_.1.1, fun e_ => Or.elim (ho0.1 k_ e_.symm) (fun hs_ => hk_.2.1 hs_) (fun hn_ => Nat.not_le.2 hk_.2.2 hn_)⟩))
  have n2_ := am (Kd.R_mono (ok' := fun k_ => True) ho0 (fun k_ hk_ => trivial))
  have n3_ := am (hb)
  clear BK437
  clear HO447
  clear HB
  clear HO450
  have BK437 := n0_
  have HO447 := n1_
  have HO453 := n2_
  have HB := n3_
  clear n0_ n1_ n2_ n3_
  (try clear hb)
  (try clear hkp)
  (try clear ho0)
  refine hK.out _ _ ((blk_cell BK437.out 0).trans rfl) (fun hHeld => ?_)
  clear hK K
  refine norm_ (a' := ?_) ?_ ?_
  rotate_left
  ·show Act.put _ (some 20) _ = _
   simp only [Act.put, List.setIfInBounds_toArray, List.set_cons_zero, List.set_cons_succ, i64_w, i32_w]
   rfl
  refine pq (i := 9) (N := some 21) #[true, true, true, true, true, true, true, true, true, true, false, false, false] ?_
  refine pq (i := 10) (N := some 22) #[true, true, true, true, true, true, true, true, true, true, true, false, false] ?_
  refine pq (i := 11) (N := some 6) #[true, true, true, true, true, true, true, true, true, true, true, true, false] ?_
  refine pq (i := 12) (N := some 7) #[true, true, true, true, true, true, true, true, true, true, true, true, true] ?_
  refine done_ (done_of HT_.out (by kernel_rfl)) ?_
  try go_wp2
  go_ret2
  exact ⟨_, Y1, rq HO453.out, Y14⟩
 ·replace c5 := Bool.eq_false_iff.mpr c5
  subst c5
  have H1 : (some (([] : List (S50)), false)) = some (r1, r2) := by rw [if_neg (show ¬ (false = true) by decide)] at H; exact H
  clear H
  have H := H1
  clear H1
  simp only [Option.some.injEq, Prod.mk.injEq] at H
  obtain ⟨rfl, rfl⟩ := H
  go_enter Try.func19, Try.ntmps19
  go_wp2_with (first | ((with_reducible refine gate_dst (N := 3) rfl ?_); refine bE (N := 3) (cs := #[.slice A0_0 l0_0.length c0_0]) (t := 33) ?_; intro gb437 hg w25 hbox hb; have BK437 := am (hbox); have GW437 := am ((Y0 : w.heap.size ≤ gb437)); have GE437 := am ((Y0 : w.heap.size ≤ gb437)); replace HB := am (below_step (bq) hb); clear hb hbox hg; have hcz26_0 := bc0 BK437.out; have hfz26_0 := blk_frozen BK437.out 0) | ((with_reducible refine gate_callee (f := 37) rfl ?_); refine gL (some 10) Try.func37 #[.agg #[.slice A0_0 l0_0.length c0_0], .slice A1 l1.length c1] ?_; (with_reducible refine (impl_ValidProgram.calls k _ _ l0_0 _ _ l1 false _ ?side1 ?side2 ?side3 ?side4 A4.out).mono ?_); (case side1 => exact cq (Kd.C_below HR0_0.out HB.out)); (case side2 => exact HC0_0.out); (case side3 => exact cq (Kd.C_below HR1.out HB.out)); (case side4 => exact HC1.out); rintro e w27 ⟨rfl, hb⟩; refine ⟨_, rfl, ?_⟩; replace BK437 := am (blk_below (g := gb437) (o := .cells #[.slice A0_0 l0_0.length c0_0] 33 (0, 0)) (kq BK437.out) hb); replace HB := am (below_step (Y14) hb); (try clear hb); (try clear hb2); (try clear hk); (try clear hi)))
  go_ret2
  exact ⟨_, Y1, Y28, Y14⟩
mutual
def laws_FnExactInLoop.j0 : Nat → List (S52) → Int → List (S50) → Bool → List (S50) → List (S50) → Bool → Bool → List (S62) → List (S63) → Option (Bool)
 | 0, _, _, _, _, _, _, _, _, _, _ => none
 | k + 1, x1, x2, x8, x9, x11, x12, x13, x57, x456000, x472000 => if x57 = true then (some false) else ((laws_toTree.f k x456000).bind fun t480 => ((laws_eqTree.f k x472000 t480).bind fun t483 => (if t483 = true then ((laws_toLineS.f k x1).bind fun t484 => ((laws_eqLineS.f k x11 t484).bind fun t487 => (if t487 = true then ((laws_markTree.f k x472000 1).bind fun bt488 => ((laws_markLineS.f k x11 bt488.1).bind fun bt490 => (if bt490.1 < 0 then (laws_FnExactInLoop.j1 k x1 x2 x8 x9 x12 true x456000) else ((laws_eqLineS.f k x12 x8).bind fun t492 => (if t492 = true then (laws_FnExactInLoop.j1 k x1 x2 x8 x9 x12 (x13 != x9) x456000) else (laws_FnExactInLoop.j1 k x1 x2 x8 x9 x12 true x456000)))))) else (some false)))) else (some false))))
def laws_FnExactInLoop.j1 : Nat → List (S52) → Int → List (S50) → Bool → List (S50) → Bool → List (S62) → Option (Bool)
 | 0, _, _, _, _, _, _, _ => none
 | k + 1, x1, x2, x8, x9, x12, x86, x456000 => if x86 = true then (some false) else ((laws_markLineS.f k x12 1).bind fun bt493 => ((laws_heldLineS.f k bt493.2 1).bind fun t495 => (if t495 < 0 then (some false) else (if t495 = bt493.1 then ((laws_toTree.f k x456000).bind fun t496 => ((laws_toLineS.f k x1).bind fun t499 => ((impl_InLoop.f k t496 t499 x2).bind fun bt502 => ((laws_eqLineS.f k bt502.1 x8).bind fun t506 => (if t506 = true then (laws_FnExactInLoop.j2 k bt493.2 bt493.1 (bt502.2 != x9)) else (laws_FnExactInLoop.j2 k bt493.2 bt493.1 true)))))) else (some false)))))
def laws_FnExactInLoop.j2 : Nat → List (S50) → Int → Bool → Option (Bool)
 | 0, _, _, _ => none
 | k + 1, x12, x15, x115 => if x115 = true then (some false) else ((laws_heldLineS.f k x12 1).bind fun t507 => (if t507 < 0 then (some false) else (if t507 = x15 then (some true) else (some false))))
end
def laws_FnExactInLoop.f (k : Nat) (l0_0 : List (S62)) (l1 : List (S52)) (a2 : Int) : Option (Bool) := (laws_szTree.f k l0_0 1048576).bind fun t456 => (if t456 < 0 then (some true) else ((laws_szLineS.f l1 t456).bind fun t457 => (if t457 < 0 then (some true) else ((laws_toTree.f k l0_0).bind fun t458 => ((laws_toLineS.f k l1).bind fun t461 => ((spec_InLoop.f k t458 t461 a2).bind fun bt464 => ((laws_toTree.f k l0_0).bind fun t468 => ((laws_toLineS.f k l1).bind fun t472 => ((impl_InLoop.f k t468 t472 a2).bind fun bt475 => ((laws_eqLineS.f k bt475.1 bt464.1).bind fun t479 => (if t479 = true then (laws_FnExactInLoop.j0 k l1 a2 bt464.1 bt464.2 t472 bt475.1 bt475.2 (bt475.2 != bt464.2) l0_0 t468) else (laws_FnExactInLoop.j0 k l1 a2 bt464.1 bt464.2 t472 bt475.1 bt475.2 true l0_0 t468))))))))))))
set_option maxHeartbeats 8000000 in
set_option maxRecDepth 100000 in
theorem laws_FnExactInLoop.calls (k : Nat) (A0_0 : Option Addr) (c0_0 : Nat) (l0_0 : List (S62)) (A1 : Option Addr) (c1 : Nat) (l1 : List (S52)) (a2 : Int) (r : Bool) (w : World) (hr0_0 : Kd.C k62 w A0_0 l0_0.length l0_0) (hc0_0 : l0_0.length ≤ c0_0) (hr1 : Kd.C k52 w A1 l1.length l1) (hc1 : l1.length ≤ c1) (hT : r = true) (h : laws_FnExactInLoop.f k l0_0 l1 a2 = some r) :
  Calls Try.prog 4 #[.agg #[.slice A0_0 l0_0.length c0_0], .slice A1 l1.length c1, .int .i64 a2] w fun e w' => e = .returned (.bool r) ∧ Below w.heap.size w w' := by
 have hu24 := Try.underlying24
 have hu33 := Try.underlying33
 have HR0_0 := am hr0_0
 have HC0_0 := am hc0_0
 clear hr0_0 hc0_0
 have HR1 := am hr1
 have HC1 := am hc1
 clear hr1 hc1
 have HB := am (Below.refl w.heap.size w)
 have H : ((laws_szTree.f k l0_0 1048576).bind fun t456 => (if t456 < 0 then (some true) else ((laws_szLineS.f l1 t456).bind fun t457 => (if t457 < 0 then (some true) else ((laws_toTree.f k l0_0).bind fun t458 => ((laws_toLineS.f k l1).bind fun t461 => ((spec_InLoop.f k t458 t461 a2).bind fun bt464 => ((laws_toTree.f k l0_0).bind fun t468 => ((laws_toLineS.f k l1).bind fun t472 => ((impl_InLoop.f k t468 t472 a2).bind fun bt475 => ((laws_eqLineS.f k bt475.1 bt464.1).bind fun t479 => (if t479 = true then (laws_FnExactInLoop.j0 k l1 a2 bt464.1 bt464.2 t472 bt475.1 bt475.2 (bt475.2 != bt464.2) l0_0 t468) else (laws_FnExactInLoop.j0 k l1 a2 bt464.1 bt464.2 t472 bt475.1 bt475.2 true l0_0 t468))))))))))))) = some r := h
 clear h
 replace H := Option.bind_eq_some_iff.mp H
 obtain ⟨t456, A40, H⟩ := H
 replace H : (if t456 < 0 then (some true) else ((laws_szLineS.f l1 t456).bind fun t457 => (if t457 < 0 then (some true) else ((laws_toTree.f k l0_0).bind fun t458 => ((laws_toLineS.f k l1).bind fun t461 => ((spec_InLoop.f k t458 t461 a2).bind fun bt464 => ((laws_toTree.f k l0_0).bind fun t468 => ((laws_toLineS.f k l1).bind fun t472 => ((impl_InLoop.f k t468 t472 a2).bind fun bt475 => ((laws_eqLineS.f k bt475.1 bt464.1).bind fun t479 => (if t479 = true then (laws_FnExactInLoop.j0 k l1 a2 bt464.1 bt464.2 t472 bt475.1 bt475.2 (bt475.2 != bt464.2) l0_0 t468) else (laws_FnExactInLoop.j0 k l1 a2 bt464.1 bt464.2 t472 bt475.1 bt475.2 true l0_0 t468)))))))))))) = some r := H
 have A4 := am A40
 clear A40
 by_cases c5 : t456 < 0
 ·rw [if_pos c5] at H
  have c5b0 : decide (t456 < 0) = true := decide_eq_true c5
  clear c5
  obtain rfl := Option.some.inj H
  go_enter Try.func4, Try.ntmps4
  go_wp2_with (first | ((with_reducible refine gate_dst (N := 3) rfl ?_); refine bE (N := 3) (cs := #[.slice A0_0 l0_0.length c0_0]) (t := 24) ?_; intro gb455 hg w6 hbox hb; have BK455 := am (hbox); have GW455 := am ((Y0 : w.heap.size ≤ gb455)); have GE455 := am ((Y0 : w.heap.size ≤ gb455)); replace HB := am (below_step (bq) hb); clear hb hbox hg; have hcz7_0 := bc0 BK455.out; have hfz7_0 := blk_frozen BK455.out 0) | ((with_reducible refine gate_callee (f := 7) rfl ?_); refine gL (some 21) Try.func7 #[.agg #[.slice A0_0 l0_0.length c0_0], .int .i64 1048576] ?_; (with_reducible refine (laws_szTree.calls k _ _ l0_0 1048576 t456 _ ?side1 ?side2 A4.out).mono ?_); (case side1 => exact cq (Kd.C_below HR0_0.out HB.out)); (case side2 => exact HC0_0.out); rintro e w8 ⟨rfl, hb⟩; refine ⟨_, rfl, ?_⟩; replace BK455 := am (blk_below (g := gb455) (o := .cells #[.slice A0_0 l0_0.length c0_0] 24 (0, 0)) (kq BK455.out) hb); replace HB := am (below_step (Y20) hb); (try clear hb); (try clear hb2); (try clear hk); (try clear hi)))
  go_ret
  exact ⟨Y1, Y20⟩
 ·rw [if_neg c5] at H
  have c5b0 : decide (t456 < 0) = false := decide_eq_false c5
  clear c5
  replace H := Option.bind_eq_some_iff.mp H
  obtain ⟨t457, A90, H⟩ := H
  replace H : (if t457 < 0 then (some true) else ((laws_toTree.f k l0_0).bind fun t458 => ((laws_toLineS.f k l1).bind fun t461 => ((spec_InLoop.f k t458 t461 a2).bind fun bt464 => ((laws_toTree.f k l0_0).bind fun t468 => ((laws_toLineS.f k l1).bind fun t472 => ((impl_InLoop.f k t468 t472 a2).bind fun bt475 => ((laws_eqLineS.f k bt475.1 bt464.1).bind fun t479 => (if t479 = true then (laws_FnExactInLoop.j0 k l1 a2 bt464.1 bt464.2 t472 bt475.1 bt475.2 (bt475.2 != bt464.2) l0_0 t468) else (laws_FnExactInLoop.j0 k l1 a2 bt464.1 bt464.2 t472 bt475.1 bt475.2 true l0_0 t468)))))))))) = some r := H
  have A9 := am A90
  clear A90
  by_cases c10 : t457 < 0
  ·rw [if_pos c10] at H
   have c10b0 : decide (t457 < 0) = true := decide_eq_true c10
   clear c10
   obtain rfl := Option.some.inj H
   go_enter Try.func4, Try.ntmps4
   go_wp2_with (first | ((with_reducible refine gate_dst (N := 3) rfl ?_); refine bE (N := 3) (cs := #[.slice A0_0 l0_0.length c0_0]) (t := 24) ?_; intro gb455 hg w11 hbox hb; have BK455 := am (hbox); have GW455 := am ((Y0 : w.heap.size ≤ gb455)); have GE455 := am ((Y0 : w.heap.size ≤ gb455)); replace HB := am (below_step (bq) hb); clear hb hbox hg; have hcz12_0 := bc0 BK455.out; have hfz12_0 := blk_frozen BK455.out 0) | ((with_reducible refine gate_callee (f := 7) rfl ?_); refine gL (some 21) Try.func7 #[.agg #[.slice A0_0 l0_0.length c0_0], .int .i64 1048576] ?_; (with_reducible refine (laws_szTree.calls k _ _ l0_0 1048576 t456 _ ?side1 ?side2 A4.out).mono ?_); (case side1 => exact cq (Kd.C_below HR0_0.out HB.out)); (case side2 => exact HC0_0.out); rintro e w13 ⟨rfl, hb⟩; refine ⟨_, rfl, ?_⟩; replace BK455 := am (blk_below (g := gb455) (o := .cells #[.slice A0_0 l0_0.length c0_0] 24 (0, 0)) (kq BK455.out) hb); replace HB := am (below_step (Y20) hb); (try clear hb); (try clear hb2); (try clear hk); (try clear hi)) | ((with_reducible refine gate_callee (f := 8) rfl ?_); refine gL (some 26) Try.func8 #[.slice A1 l1.length c1, .int .i64 t456] ?_; (with_reducible refine (laws_szLineS.calls _ _ l1 t456 t457 _ ?side1 ?side2 A9.out).mono ?_); (case side1 => exact cq (Kd.C_below HR1.out HB.out)); (case side2 => exact HC1.out); rintro e w' ⟨rfl, ⟨nd, rfl⟩⟩; refine ⟨_, rfl, ?_⟩))
   go_ret
   exact ⟨Y1, Y20⟩
  ·rw [if_neg c10] at H
   have c10b0 : decide (t457 < 0) = false := decide_eq_false c10
   clear c10
   replace H := Option.bind_eq_some_iff.mp H
   obtain ⟨t458, A140, H⟩ := H
   replace H : ((laws_toLineS.f k l1).bind fun t461 => ((spec_InLoop.f k t458 t461 a2).bind fun bt464 => ((laws_toTree.f k l0_0).bind fun t468 => ((laws_toLineS.f k l1).bind fun t472 => ((impl_InLoop.f k t468 t472 a2).bind fun bt475 => ((laws_eqLineS.f k bt475.1 bt464.1).bind fun t479 => (if t479 = true then (laws_FnExactInLoop.j0 k l1 a2 bt464.1 bt464.2 t472 bt475.1 bt475.2 (bt475.2 != bt464.2) l0_0 t468) else (laws_FnExactInLoop.j0 k l1 a2 bt464.1 bt464.2 t472 bt475.1 bt475.2 true l0_0 t468)))))))) = some r := H
   have A14 := am A140
   clear A140
   replace H := Option.bind_eq_some_iff.mp H
   obtain ⟨t461, A150, H⟩ := H
   replace H : ((spec_InLoop.f k t458 t461 a2).bind fun bt464 => ((laws_toTree.f k l0_0).bind fun t468 => ((laws_toLineS.f k l1).bind fun t472 => ((impl_InLoop.f k t468 t472 a2).bind fun bt475 => ((laws_eqLineS.f k bt475.1 bt464.1).bind fun t479 => (if t479 = true then (laws_FnExactInLoop.j0 k l1 a2 bt464.1 bt464.2 t472 bt475.1 bt475.2 (bt475.2 != bt464.2) l0_0 t468) else (laws_FnExactInLoop.j0 k l1 a2 bt464.1 bt464.2 t472 bt475.1 bt475.2 true l0_0 t468))))))) = some r := H
   have A15 := am A150
   clear A150
   replace H := Option.bind_eq_some_iff.mp H
   obtain ⟨⟨t464, t467⟩, A160, H⟩ := H
   replace H : ((laws_toTree.f k l0_0).bind fun t468 => ((laws_toLineS.f k l1).bind fun t472 => ((impl_InLoop.f k t468 t472 a2).bind fun bt475 => ((laws_eqLineS.f k bt475.1 t464).bind fun t479 => (if t479 = true then (laws_FnExactInLoop.j0 k l1 a2 t464 t467 t472 bt475.1 bt475.2 (bt475.2 != t467) l0_0 t468) else (laws_FnExactInLoop.j0 k l1 a2 t464 t467 t472 bt475.1 bt475.2 true l0_0 t468)))))) = some r := H
   have A16 := am A160
   clear A160
   replace H := Option.bind_eq_some_iff.mp H
   obtain ⟨t468, A170, H⟩ := H
   replace H : ((laws_toLineS.f k l1).bind fun t472 => ((impl_InLoop.f k t468 t472 a2).bind fun bt475 => ((laws_eqLineS.f k bt475.1 t464).bind fun t479 => (if t479 = true then (laws_FnExactInLoop.j0 k l1 a2 t464 t467 t472 bt475.1 bt475.2 (bt475.2 != t467) l0_0 t468) else (laws_FnExactInLoop.j0 k l1 a2 t464 t467 t472 bt475.1 bt475.2 true l0_0 t468))))) = some r := H
   have A17 := am A170
   clear A170
   replace H := Option.bind_eq_some_iff.mp H
   obtain ⟨t472, A180, H⟩ := H
   replace H : ((impl_InLoop.f k t468 t472 a2).bind fun bt475 => ((laws_eqLineS.f k bt475.1 t464).bind fun t479 => (if t479 = true then (laws_FnExactInLoop.j0 k l1 a2 t464 t467 t472 bt475.1 bt475.2 (bt475.2 != t467) l0_0 t468) else (laws_FnExactInLoop.j0 k l1 a2 t464 t467 t472 bt475.1 bt475.2 true l0_0 t468)))) = some r := H
   have A18 := am A180
   clear A180
   replace H := Option.bind_eq_some_iff.mp H
   obtain ⟨⟨t475, t478⟩, A190, H⟩ := H
   replace H : ((laws_eqLineS.f k t475 t464).bind fun t479 => (if t479 = true then (laws_FnExactInLoop.j0 k l1 a2 t464 t467 t472 t475 t478 (t478 != t467) l0_0 t468) else (laws_FnExactInLoop.j0 k l1 a2 t464 t467 t472 t475 t478 true l0_0 t468))) = some r := H
   have A19 := am A190
   clear A190
   have HC20 := am H
   clear H
   go_enter Try.func4, Try.ntmps4
   go_upto_region 12 with (first | ((with_reducible refine gate_dst (N := 3) rfl ?_); refine bE (N := 3) (cs := #[.slice A0_0 l0_0.length c0_0]) (t := 24) ?_; intro gb455 hg w21 hbox hb; have BK455 := am (hbox); have GW455 := am ((Y0 : w.heap.size ≤ gb455)); have GE455 := am ((Y0 : w.heap.size ≤ gb455)); replace HB := am (below_step (bq) hb); clear hb hbox hg; have hcz22_0 := bc0 BK455.out; have hfz22_0 := blk_frozen BK455.out 0) | ((with_reducible refine gate_callee (f := 7) rfl ?_); refine gL (some 21) Try.func7 #[.agg #[.slice A0_0 l0_0.length c0_0], .int .i64 1048576] ?_; (with_reducible refine (laws_szTree.calls k _ _ l0_0 1048576 t456 _ ?side1 ?side2 A4.out).mono ?_); (case side1 => exact cq (Kd.C_below HR0_0.out HB.out)); (case side2 => exact HC0_0.out); rintro e w23 ⟨rfl, hb⟩; refine ⟨_, rfl, ?_⟩; replace BK455 := am (blk_below (g := gb455) (o := .cells #[.slice A0_0 l0_0.length c0_0] 24 (0, 0)) (kq BK455.out) hb); replace HB := am (below_step (Y20) hb); (try clear hb); (try clear hb2); (try clear hk); (try clear hi)) | ((with_reducible refine gate_callee (f := 8) rfl ?_); refine gL (some 26) Try.func8 #[.slice A1 l1.length c1, .int .i64 t456] ?_; (with_reducible refine (laws_szLineS.calls _ _ l1 t456 t457 _ ?side1 ?side2 A9.out).mono ?_); (case side1 => exact cq (Kd.C_below HR1.out HB.out)); (case side2 => exact HC1.out); rintro e w' ⟨rfl, ⟨nd, rfl⟩⟩; refine ⟨_, rfl, ?_⟩; (try (rw [drewN_self w23]; generalize hq_ : World.drewN w23 _ = w23; have n0_ : Aside0 (w23.heap[gb455]? = some (.cells #[.slice A0_0 l0_0.length c0_0] 24 (0, 0))) := ⟨by rw [← hq_]; exact (kq BK455.out)⟩; have n1_ : Aside0 (Below w.heap.size w w23) := ⟨by rw [← hq_]; exact (Y20)⟩; clear BK455 HB hq_; have BK455 := n0_; have HB := n1_; clear n0_ n1_)); have hcz24_0 := bc0 BK455.out; have hfz24_0 := blk_frozen BK455.out 0) | ((with_reducible refine gate_callee (f := 10) rfl ?_); refine gL (some 31) Try.func10 #[.agg #[.slice A0_0 l0_0.length c0_0]] ?_; (with_reducible refine (laws_toTree.calls k _ _ l0_0 t458 _ ?side1 ?side2 A14.out).mono ?_); (case side1 => exact cq (Kd.C_below HR0_0.out HB.out)); (case side2 => exact HC0_0.out); rintro e w25 ⟨v459, rfl, ho0, hb⟩; refine ⟨_, rfl, ?_⟩; have HO460 := am (Kd.R_lower ho0 (below_size (Y20))); replace BK455 := am (blk_below (g := gb455) (o := .cells #[.slice A0_0 l0_0.length c0_0] 24 (0, 0)) (kq BK455.out) hb); replace HB := am (below_step (Y20) hb); (try clear hb); (try clear hb2); (try clear hk); (try clear hi); (try clear ho0)) | ((with_reducible refine gate_callee (f := 11) rfl ?_); refine gL (some 33) Try.func11 #[.slice A1 l1.length c1] ?_; (with_reducible refine (laws_toLineS.calls k _ _ l1 t461 _ ?side1 ?side2 A15.out).mono ?_); (case side1 => exact cq (Kd.C_below HR1.out HB.out)); (case side2 => exact HC1.out); rintro e w26 ⟨v462, rfl, ho0, hb⟩; refine ⟨_, rfl, ?_⟩; have HO463 := am (Kd.R_lower ho0 (below_size (Y20))); replace HO460 := am (Kd.R_below (rq HO460.out) hb); replace BK455 := am (blk_below (g := gb455) (o := .cells #[.slice A0_0 l0_0.length c0_0] 24 (0, 0)) (kq BK455.out) hb); replace HB := am (below_step (Y20) hb); (try clear hb); (try clear hb2); (try clear hk); (try clear hi); (try clear ho0); obtain ⟨Ao27, co27, eo27⟩ := Kd.R_slice HO460.out; subst eo27; obtain ⟨Ao28, co28, eo28⟩ := Kd.R_slice HO463.out; subst eo28) | ((with_reducible refine gate_callee (f := 18) rfl ?_); refine gL (some 35) Try.func18 #[.agg #[.slice Ao27 t458.length co27], .slice Ao28 t461.length co28, .int .i64 a2] ?_; (with_reducible refine (spec_InLoop.calls k _ _ t458 _ _ t461 a2 t464 t467 _ ?side1 ?side2 ?side3 ?side4 A16.out).mono ?_); (case side1 => exact cq (Kd.R_reads' HO460.out).2.2); (case side2 => exact (Kd.R_reads' HO460.out).2.1); (case side3 => exact cq (Kd.R_reads' HO463.out).2.2); (case side4 => exact (Kd.R_reads' HO463.out).2.1); rintro e w29 ⟨v465, rfl, ho0, hb⟩; refine ⟨_, rfl, ?_⟩; have HO466 := am (Kd.R_lower (Kd.R_new' ho0 (Kd.R_lt (rq HO463.out))) (below_size (Y20))); replace HO460 := am (Kd.R_below (rq HO460.out) hb); replace HO463 := am (Kd.R_elder' (rq HO463.out) (Kd.R_base ho0) hb); replace BK455 := am (blk_below (g := gb455) (o := .cells #[.slice A0_0 l0_0.length c0_0] 24 (0, 0)) (kq BK455.out) hb); replace HB := am (below_step (Y20) hb); (try clear hb); (try clear hb2); (try clear hk); (try clear hi); (try clear ho0); have hcz30_0 := bc0 BK455.out; have hfz30_0 := blk_frozen BK455.out 0) | ((with_reducible refine gate_callee (f := 10) rfl ?_); refine gL (some 39) Try.func10 #[.agg #[.slice A0_0 l0_0.length c0_0]] ?_; (with_reducible refine (laws_toTree.calls k _ _ l0_0 t468 _ ?side1 ?side2 A17.out).mono ?_); (case side1 => exact cq (Kd.C_below HR0_0.out HB.out)); (case side2 => exact HC0_0.out); rintro e w31 ⟨v469, rfl, ho0, hb⟩; refine ⟨_, rfl, ?_⟩; have HO470 := am (Kd.R_lower (Kd.R_new' ho0 (Kd.R_lt (rq HO460.out))) (below_size (Y20))); replace HO460 := am (Kd.R_elder' (rq HO460.out) (Kd.R_base ho0) hb); replace HO463 := am (Kd.R_below (rq HO463.out) hb); replace HO466 := am (Kd.R_below (rq HO466.out) hb); replace BK455 := am (blk_below (g := gb455) (o := .cells #[.slice A0_0 l0_0.length c0_0] 24 (0, 0)) (kq BK455.out) hb); replace HB := am (below_step (Y20) hb); (try clear hb); (try clear hb2); (try clear hk); (try clear hi); (try clear ho0)) | ((with_reducible refine gate_dst (N := 10) rfl ?_); refine bE (N := 10) (cs := #[.slice none 0 0]) (t := 33) ?_; intro gb471 hg w32 hbox hb; have BK471 := am (hbox); have GW471 := am ((Y89 : w.heap.size ≤ gb471)); have GE471 := am ((Y89 : w.heap.size ≤ gb471)); have NB455_471 := am ((by rw [hg]; exact Nat.ne_of_lt (blk_lt (g := gb455) (o := .cells #[.slice A0_0 l0_0.length c0_0] 24 (0, 0)) (kq BK455.out)) : gb455 ≠ gb471)); have NB471_455 := am ((by rw [hg]; exact Nat.ne_of_gt (blk_lt (g := gb455) (o := .cells #[.slice A0_0 l0_0.length c0_0] 24 (0, 0)) (kq BK455.out)) : gb471 ≠ gb455)); replace HO460 := am (Kd.R_below (rq HO460.out) hb); replace HO463 := am (Kd.R_below (rq HO463.out) hb); replace HO466 := am (Kd.R_below (rq HO466.out) hb); replace HO470 := am (Kd.R_below (rq HO470.out) hb); replace BK455 := am (blk_below (g := gb455) (o := .cells #[.slice A0_0 l0_0.length c0_0] 24 (0, 0)) (kq BK455.out) hb); replace HB := am (below_step (Y20) hb); clear hb hbox hg; obtain ⟨Ao33, co33, eo33⟩ := Kd.R_slice HO470.out; subst eo33; have hnb34 := NB471_455.out; have hnc34 := NB455_471.out; have hcz35_0 := bc0 BK471.out; have hfz35_0 := blk_frozen BK471.out 0) | ((with_reducible refine gate_callee (f := 11) rfl ?_); refine gL (some 41) Try.func11 #[.slice A1 l1.length c1] ?_; (with_reducible refine (laws_toLineS.calls k _ _ l1 t472 _ ?side1 ?side2 A18.out).mono ?_); (case side1 => exact Kd.C_below HR1.out (Y10)); (case side2 => exact HC1.out); rintro e w36 ⟨v473, rfl, ho0, hb⟩; refine ⟨_, rfl, ?_⟩; have HO474 := am (Kd.R_lower (Kd.R_new' (Kd.R_new' ho0 (Kd.R_lt (Y90))) (Kd.R_lt (Y91))) (below_size (Y10))); replace HO460 := am (Kd.R_below (by (with_reducible repeat (first | apply Kd.R_alloc | apply Kd.R_drewN | apply Kd.R_drew)); exact (Kd.R_mono (Kd.R_far (p := ⟨gb471, 0, none⟩) (Kd.R_types HO460.out BK471.out (by decide)) (fun _ hk => hk.2) (.slice Ao33 t468.length co33)) (fun _ h_ => h_.1))) hb); replace HO463 := am (Kd.R_elder' (Y90) (Kd.R_base ho0) hb); replace HO466 := am (Kd.R_elder' (Y91) (Kd.R_base ho0) hb); replace HO470 := am (Kd.R_below (by (with_reducible repeat (first | apply Kd.R_alloc | apply Kd.R_drewN | apply Kd.R_drew)); exact (Kd.R_mono (Kd.R_far (p := ⟨gb471, 0, none⟩) (Kd.R_types HO470.out BK471.out (by decide)) (fun _ hk => hk.2) (.slice Ao33 t468.length co33)) (fun _ h_ => h_.1))) hb); replace BK455 := am (blk_below (g := gb455) (o := .cells #[.slice A0_0 l0_0.length c0_0] 24 (0, 0)) (by (with_reducible repeat (first | refine blk_drewN ?_ _ | refine blk_drew ?_ | refine blk_alloc ?_ _)); refine blk_far ?_ NB455_471.out _; (with_reducible repeat (first | refine blk_drewN ?_ _ | refine blk_drew ?_ | refine blk_alloc ?_ _)); exact BK455.out) hb); replace BK471 := am (blk_below (g := gb471) (o := .cells #[.slice Ao33 t468.length co33] 33 (0, 0)) (by (with_reducible repeat (first | refine blk_drewN ?_ _ | refine blk_drew ?_ | refine blk_alloc ?_ _)); refine blk_put (cs := #[.slice none 0 0]) ?_ 0 _ rfl; (with_reducible repeat (first | refine blk_drewN ?_ _ | refine blk_drew ?_ | refine blk_alloc ?_ _)); exact BK471.out) hb); replace HB := am (below_step (Y10) hb); (try clear hb); (try clear hb2); (try clear hk); (try clear hi); (try clear ho0); have hcz37_0 := bc0 BK471.out; have hfz37_0 := blk_frozen BK471.out 0; obtain ⟨Ao38, co38, eo38⟩ := Kd.R_slice HO474.out; subst eo38) | ((with_reducible refine gate_callee (f := 19) rfl ?_); refine gL (some 46) Try.func19 #[.agg #[.slice Ao33 t468.length co33], .slice Ao38 t472.length co38, .int .i64 a2] ?_; (with_reducible refine (impl_InLoop.calls k _ _ t468 _ _ t472 a2 t475 t478 _ ?side1 ?side2 ?side3 ?side4 A19.out).mono ?_); (case side1 => exact cq (Kd.R_reads' HO470.out).2.2); (case side2 => exact (Kd.R_reads' HO470.out).2.1); (case side3 => exact cq (Kd.R_reads' HO474.out).2.2); (case side4 => exact (Kd.R_reads' HO474.out).2.1); rintro e w39 ⟨v476, rfl, ho0, hb⟩; refine ⟨_, rfl, ?_⟩; have HO477 := am (Kd.R_lower (Kd.R_new' (Kd.R_new' (Kd.R_new' ho0 (Kd.R_lt (rq HO463.out))) (Kd.R_lt (rq HO466.out))) (Kd.R_lt (rq HO474.out))) (below_size (Y10))); replace HO460 := am (Kd.R_below (rq HO460.out) hb); replace HO463 := am (Kd.R_elder' (rq HO463.out) (Kd.R_base ho0) hb); replace HO466 := am (Kd.R_elder' (rq HO466.out) (Kd.R_base ho0) hb); replace HO470 := am (Kd.R_below (rq HO470.out) hb); replace HO474 := am (Kd.R_elder' (rq HO474.out) (Kd.R_base ho0) hb); replace BK455 := am (blk_below (g := gb455) (o := .cells #[.slice A0_0 l0_0.length c0_0] 24 (0, 0)) (kq BK455.out) hb); replace BK471 := am (blk_below (g := gb471) (o := .cells #[.slice Ao33 t468.length co33] 33 (0, 0)) (kq BK471.out) hb); replace HB := am (below_step (Y10) hb); (try clear hb); (try clear hb2); (try clear hk); (try clear hi); (try clear ho0)))
   (try simp only [Act.put, List.setIfInBounds_toArray, List.set_cons_zero, List.set_cons_succ])
   go_cut [57] (fun v57 wc => ∃ (kq : Nat) (x57_19 : Bool), v57 = .bool x57_19 ∧ Aside0 (laws_FnExactInLoop.j0 kq l1 a2 t464 t467 t472 t475 t478 x57_19 l0_0 t468 = some r) ∧ Aside0 (kq ≤ k) ∧ Aside0 (Kd.R k50 50 wc w.heap.size (fun k_ => some k_ ≠ ((.slice Ao38 t472.length co38) : Value).ownBlock ∧ some k_ ≠ (v476 : Value).ownBlock) v465 t464) ∧ Aside0 (Kd.R k50 50 wc w.heap.size (fun k_ => some k_ ≠ (v465 : Value).ownBlock ∧ some k_ ≠ (v476 : Value).ownBlock) (.slice Ao38 t472.length co38) t472) ∧ Aside0 (Kd.R k50 50 wc w.heap.size (fun k_ => some k_ ≠ (v465 : Value).ownBlock ∧ some k_ ≠ ((.slice Ao38 t472.length co38) : Value).ownBlock) v476 t475) ∧ Aside0 (Kd.R k63 63 wc w.heap.size (fun _ => True) (.slice Ao33 t468.length co33) t468) ∧ Aside0 (wc.heap[gb455]? = some (.cells #[(.slice A0_0 l0_0.length c0_0)] 24 (0, 0))) ∧ Aside0 (wc.heap[gb471]? = some (.cells #[(.slice Ao33 t468.length co33)] 33 (0, 0))) ∧ Aside0 (Below w.heap.size w wc))
   case first =>
    have H := HC20.out
    clear HC20
    replace H := Option.bind_eq_some_iff.mp H
    obtain ⟨t479, A400, H⟩ := H
    replace H : (if t479 = true then (laws_FnExactInLoop.j0 k l1 a2 t464 t467 t472 t475 t478 (t478 != t467) l0_0 t468) else (laws_FnExactInLoop.j0 k l1 a2 t464 t467 t472 t475 t478 true l0_0 t468)) = some r := H
    have A40 := am A400
    clear A400
    by_cases c41 : t479 = true
    ·subst c41
     have H1 : (laws_FnExactInLoop.j0 k l1 a2 t464 t467 t472 t475 t478 (t478 != t467) l0_0 t468) = some r := by rw [if_pos rfl] at H; exact H
     clear H
     have H := H1
     clear H1
     have H' := am H
     clear H
     obtain ⟨Ao42, co42, eo42⟩ := Kd.R_slice HO477.out
     subst eo42
     obtain ⟨Ao43, co43, eo43⟩ := Kd.R_slice HO466.out
     subst eo43
     go_wp2_with (first | ((with_reducible refine gate_callee (f := 13) rfl ?_); refine gL (some 51) Try.func13 #[.slice Ao42 t475.length co42, .slice Ao43 t464.length co43] ?_; (with_reducible refine (laws_eqLineS.calls k _ _ t475 _ _ t464 true _ ?side1 ?side2 ?side3 ?side4 A40.out).mono ?_); (case side1 => exact cq (Kd.R_reads' HO477.out).2.2); (case side2 => exact (Kd.R_reads' HO477.out).2.1); (case side3 => exact cq (Kd.R_reads' HO466.out).2.2); (case side4 => exact (Kd.R_reads' HO466.out).2.1); rintro e w44 ⟨rfl, hb⟩; refine ⟨_, rfl, ?_⟩; replace HO460 := am (Kd.R_below (rq HO460.out) hb); replace HO463 := am (Kd.R_below (rq HO463.out) hb); replace HO466 := am (Kd.R_below (rq HO466.out) hb); replace HO470 := am (Kd.R_below (rq HO470.out) hb); replace HO474 := am (Kd.R_below (rq HO474.out) hb); replace HO477 := am (Kd.R_below (rq HO477.out) hb); replace BK455 := am (blk_below (g := gb455) (o := .cells #[.slice A0_0 l0_0.length c0_0] 24 (0, 0)) (kq BK455.out) hb); replace BK471 := am (blk_below (g := gb471) (o := .cells #[.slice Ao33 t468.length co33] 33 (0, 0)) (kq BK471.out) hb); replace HB := am (below_step (Y10) hb); (try clear hb); (try clear hb2); (try clear hk); (try clear hi)))
     go_meet
     case rel => exact ⟨_, ((t478 != t467)), (sq), H', ⟨Y22⟩, ⟨by (with_reducible repeat (first | apply Kd.R_alloc | apply Kd.R_drewN | apply Kd.R_drew)); exact Kd.R_mono HO466.out (fun _ hk => ⟨hk.1.2, hk.2⟩)⟩, ⟨by (with_reducible repeat (first | apply Kd.R_alloc | apply Kd.R_drewN | apply Kd.R_drew)); exact Kd.R_mono HO474.out (fun _ hk => ⟨hk.1.2, hk.2⟩)⟩, ⟨by (with_reducible repeat (first | apply Kd.R_alloc | apply Kd.R_drewN | apply Kd.R_drew)); exact Kd.R_mono HO477.out (fun _ hk => ⟨hk.1.2, hk.2⟩)⟩, ⟨by (with_reducible repeat (first | apply Kd.R_alloc | apply Kd.R_drewN | apply Kd.R_drew)); exact Kd.R_mono HO470.out (fun _ hk => trivial)⟩, ⟨kq BK455.out⟩, ⟨kq BK471.out⟩, ⟨Y10⟩⟩
    ·replace c41 := Bool.eq_false_iff.mpr c41
     subst c41
     have H1 : (laws_FnExactInLoop.j0 k l1 a2 t464 t467 t472 t475 t478 true l0_0 t468) = some r := by rw [if_neg (show ¬ (false = true) by decide)] at H; exact H
     clear H
     have H := H1
     clear H1
     have H' := am H
     clear H
     obtain ⟨Ao45, co45, eo45⟩ := Kd.R_slice HO477.out
     subst eo45
     obtain ⟨Ao46, co46, eo46⟩ := Kd.R_slice HO466.out
     subst eo46
     go_wp2_with (first | ((with_reducible refine gate_callee (f := 13) rfl ?_); refine gL (some 51) Try.func13 #[.slice Ao45 t475.length co45, .slice Ao46 t464.length co46] ?_; (with_reducible refine (laws_eqLineS.calls k _ _ t475 _ _ t464 false _ ?side1 ?side2 ?side3 ?side4 A40.out).mono ?_); (case side1 => exact cq (Kd.R_reads' HO477.out).2.2); (case side2 => exact (Kd.R_reads' HO477.out).2.1); (case side3 => exact cq (Kd.R_reads' HO466.out).2.2); (case side4 => exact (Kd.R_reads' HO466.out).2.1); rintro e w47 ⟨rfl, hb⟩; refine ⟨_, rfl, ?_⟩; replace HO460 := am (Kd.R_below (rq HO460.out) hb); replace HO463 := am (Kd.R_below (rq HO463.out) hb); replace HO466 := am (Kd.R_below (rq HO466.out) hb); replace HO470 := am (Kd.R_below (rq HO470.out) hb); replace HO474 := am (Kd.R_below (rq HO474.out) hb); replace HO477 := am (Kd.R_below (rq HO477.out) hb); replace BK455 := am (blk_below (g := gb455) (o := .cells #[.slice A0_0 l0_0.length c0_0] 24 (0, 0)) (kq BK455.out) hb); replace BK471 := am (blk_below (g := gb471) (o := .cells #[.slice Ao33 t468.length co33] 33 (0, 0)) (kq BK471.out) hb); replace HB := am (below_step (Y10) hb); (try clear hb); (try clear hb2); (try clear hk); (try clear hi)))
     go_meet
     case rel => exact ⟨_, (true), (sq), H', ⟨Y22⟩, ⟨by (with_reducible repeat (first | apply Kd.R_alloc | apply Kd.R_drewN | apply Kd.R_drew)); exact Kd.R_mono HO466.out (fun _ hk => ⟨hk.1.2, hk.2⟩)⟩, ⟨by (with_reducible repeat (first | apply Kd.R_alloc | apply Kd.R_drewN | apply Kd.R_drew)); exact Kd.R_mono HO474.out (fun _ hk => ⟨hk.1.2, hk.2⟩)⟩, ⟨by (with_reducible repeat (first | apply Kd.R_alloc | apply Kd.R_drewN | apply Kd.R_drew)); exact Kd.R_mono HO477.out (fun _ hk => ⟨hk.1.2, hk.2⟩)⟩, ⟨by (with_reducible repeat (first | apply Kd.R_alloc | apply Kd.R_drewN | apply Kd.R_drew)); exact Kd.R_mono HO470.out (fun _ hk => trivial)⟩, ⟨kq BK455.out⟩, ⟨kq BK471.out⟩, ⟨Y10⟩⟩
   case rest =>
    clear HC20
    try clear c1
    try clear p2
    try clear c3
    try clear c4
    try clear c5
    try clear c5b0
    try clear c7
    try clear c8
    try clear c10
    try clear c10b0
    try clear c11
    try clear c13
    try clear c18
    try clear c19
    try clear c34
    try clear c41
    try clear hcz12_0
    try clear hcz22_0
    try clear hcz24_0
    try clear hcz30_0
    try clear hcz35_0
    try clear hcz37_0
    try clear hcz7_0
    try clear hfz12_0
    try clear hfz22_0
    try clear hfz24_0
    try clear hfz30_0
    try clear hfz35_0
    try clear hfz37_0
    try clear hfz7_0
    obtain ⟨kq, x57_19, rfl, HA, HJ19, HO_8, HO_11, HO_12, HO_472000, BK455, BK471, HB⟩ := hcut
    cases kq with
    | zero => exact absurd HA.out (by simp [laws_FnExactInLoop.j0])
    | succ kj19 =>
     have H := HA.out
     clear HA
     simp only [laws_FnExactInLoop.j0] at H
     by_cases c48 : x57_19 = true
     ·subst c48
      have H1 : (some false) = some r := by rw [if_pos rfl] at H; exact H
      clear H
      have H := H1
      clear H1
      exact absurd ((Option.some.inj H).trans hT) Bool.false_ne_true
     ·replace c48 := Bool.eq_false_iff.mpr c48
      subst c48
      have H1 : ((laws_toTree.f kj19 l0_0).bind fun t480 => ((laws_eqTree.f kj19 t468 t480).bind fun t483 => (if t483 = true then ((laws_toLineS.f kj19 l1).bind fun t484 => ((laws_eqLineS.f kj19 t472 t484).bind fun t487 => (if t487 = true then ((laws_markTree.f kj19 t468 1).bind fun bt488 => ((laws_markLineS.f kj19 t472 bt488.1).bind fun bt490 => (if bt490.1 < 0 then (laws_FnExactInLoop.j1 kj19 l1 a2 t464 t467 t475 true l0_0) else ((laws_eqLineS.f kj19 t475 t464).bind fun t492 => (if t492 = true then (laws_FnExactInLoop.j1 kj19 l1 a2 t464 t467 t475 (t478 != t467) l0_0) else (laws_FnExactInLoop.j1 kj19 l1 a2 t464 t467 t475 true l0_0)))))) else (some false)))) else (some false)))) = some r := by rw [if_neg (show ¬ (false = true) by decide)] at H; exact H
      clear H
      have H := H1
      clear H1
      replace H := Option.bind_eq_some_iff.mp H
      obtain ⟨t480, A490, H⟩ := H
      replace H : ((laws_eqTree.f kj19 t468 t480).bind fun t483 => (if t483 = true then ((laws_toLineS.f kj19 l1).bind fun t484 => ((laws_eqLineS.f kj19 t472 t484).bind fun t487 => (if t487 = true then ((laws_markTree.f kj19 t468 1).bind fun bt488 => ((laws_markLineS.f kj19 t472 bt488.1).bind fun bt490 => (if bt490.1 < 0 then (laws_FnExactInLoop.j1 kj19 l1 a2 t464 t467 t475 true l0_0) else ((laws_eqLineS.f kj19 t475 t464).bind fun t492 => (if t492 = true then (laws_FnExactInLoop.j1 kj19 l1 a2 t464 t467 t475 (t478 != t467) l0_0) else (laws_FnExactInLoop.j1 kj19 l1 a2 t464 t467 t475 true l0_0)))))) else (some false)))) else (some false))) = some r := H
      have A49 := am A490
      clear A490
      replace H := Option.bind_eq_some_iff.mp H
      obtain ⟨t483, A500, H⟩ := H
      replace H : (if t483 = true then ((laws_toLineS.f kj19 l1).bind fun t484 => ((laws_eqLineS.f kj19 t472 t484).bind fun t487 => (if t487 = true then ((laws_markTree.f kj19 t468 1).bind fun bt488 => ((laws_markLineS.f kj19 t472 bt488.1).bind fun bt490 => (if bt490.1 < 0 then (laws_FnExactInLoop.j1 kj19 l1 a2 t464 t467 t475 true l0_0) else ((laws_eqLineS.f kj19 t475 t464).bind fun t492 => (if t492 = true then (laws_FnExactInLoop.j1 kj19 l1 a2 t464 t467 t475 (t478 != t467) l0_0) else (laws_FnExactInLoop.j1 kj19 l1 a2 t464 t467 t475 true l0_0)))))) else (some false)))) else (some false)) = some r := H
      have A50 := am A500
      clear A500
      by_cases c51 : t483 = true
      ·subst c51
       have H1 : ((laws_toLineS.f kj19 l1).bind fun t484 => ((laws_eqLineS.f kj19 t472 t484).bind fun t487 => (if t487 = true then ((laws_markTree.f kj19 t468 1).bind fun bt488 => ((laws_markLineS.f kj19 t472 bt488.1).bind fun bt490 => (if bt490.1 < 0 then (laws_FnExactInLoop.j1 kj19 l1 a2 t464 t467 t475 true l0_0) else ((laws_eqLineS.f kj19 t475 t464).bind fun t492 => (if t492 = true then (laws_FnExactInLoop.j1 kj19 l1 a2 t464 t467 t475 (t478 != t467) l0_0) else (laws_FnExactInLoop.j1 kj19 l1 a2 t464 t467 t475 true l0_0)))))) else (some false)))) = some r := by rw [if_pos rfl] at H; exact H
       clear H
       have H := H1
       clear H1
       replace H := Option.bind_eq_some_iff.mp H
       obtain ⟨t484, A520, H⟩ := H
       replace H : ((laws_eqLineS.f kj19 t472 t484).bind fun t487 => (if t487 = true then ((laws_markTree.f kj19 t468 1).bind fun bt488 => ((laws_markLineS.f kj19 t472 bt488.1).bind fun bt490 => (if bt490.1 < 0 then (laws_FnExactInLoop.j1 kj19 l1 a2 t464 t467 t475 true l0_0) else ((laws_eqLineS.f kj19 t475 t464).bind fun t492 => (if t492 = true then (laws_FnExactInLoop.j1 kj19 l1 a2 t464 t467 t475 (t478 != t467) l0_0) else (laws_FnExactInLoop.j1 kj19 l1 a2 t464 t467 t475 true l0_0)))))) else (some false))) = some r := H
       have A52 := am A520
       clear A520
       replace H := Option.bind_eq_some_iff.mp H
       obtain ⟨t487, A530, H⟩ := H
       replace H : (if t487 = true then ((laws_markTree.f kj19 t468 1).bind fun bt488 => ((laws_markLineS.f kj19 t472 bt488.1).bind fun bt490 => (if bt490.1 < 0 then (laws_FnExactInLoop.j1 kj19 l1 a2 t464 t467 t475 true l0_0) else ((laws_eqLineS.f kj19 t475 t464).bind fun t492 => (if t492 = true then (laws_FnExactInLoop.j1 kj19 l1 a2 t464 t467 t475 (t478 != t467) l0_0) else (laws_FnExactInLoop.j1 kj19 l1 a2 t464 t467 t475 true l0_0)))))) else (some false)) = some r := H
       have A53 := am A530
       clear A530
       by_cases c54 : t487 = true
       ·subst c54
        have H1 : ((laws_markTree.f kj19 t468 1).bind fun bt488 => ((laws_markLineS.f kj19 t472 bt488.1).bind fun bt490 => (if bt490.1 < 0 then (laws_FnExactInLoop.j1 kj19 l1 a2 t464 t467 t475 true l0_0) else ((laws_eqLineS.f kj19 t475 t464).bind fun t492 => (if t492 = true then (laws_FnExactInLoop.j1 kj19 l1 a2 t464 t467 t475 (t478 != t467) l0_0) else (laws_FnExactInLoop.j1 kj19 l1 a2 t464 t467 t475 true l0_0)))))) = some r := by rw [if_pos rfl] at H; exact H
        clear H
        have H := H1
        clear H1
        replace H := Option.bind_eq_some_iff.mp H
        obtain ⟨⟨t488, t489⟩, A550, H⟩ := H
        replace H : ((laws_markLineS.f kj19 t472 t488).bind fun bt490 => (if bt490.1 < 0 then (laws_FnExactInLoop.j1 kj19 l1 a2 t464 t467 t475 true l0_0) else ((laws_eqLineS.f kj19 t475 t464).bind fun t492 => (if t492 = true then (laws_FnExactInLoop.j1 kj19 l1 a2 t464 t467 t475 (t478 != t467) l0_0) else (laws_FnExactInLoop.j1 kj19 l1 a2 t464 t467 t475 true l0_0))))) = some r := H
        have A55 := am A550
        clear A550
        replace H := Option.bind_eq_some_iff.mp H
        obtain ⟨⟨t490, t491⟩, A560, H⟩ := H
        replace H : (if t490 < 0 then (laws_FnExactInLoop.j1 kj19 l1 a2 t464 t467 t475 true l0_0) else ((laws_eqLineS.f kj19 t475 t464).bind fun t492 => (if t492 = true then (laws_FnExactInLoop.j1 kj19 l1 a2 t464 t467 t475 (t478 != t467) l0_0) else (laws_FnExactInLoop.j1 kj19 l1 a2 t464 t467 t475 true l0_0)))) = some r := H
        have A56 := am A560
        clear A560
        have HC57 := am H
        clear H
        try go_wp2
        replace HO_8 := am (Kd.R_drew HO_8.out)
        replace HO_11 := am (Kd.R_drew HO_11.out)
        replace HO_12 := am (Kd.R_drew HO_12.out)
        replace HO_472000 := am (Kd.R_drew HO_472000.out)
        replace BK455 := am (blk_drew BK455.out)
        replace BK471 := am (blk_drew BK471.out)
        replace HB := am (below_drew1 HB.out)
        refine start_ (n := 5) (S := fun w' => w'.cell? ⟨gb471, 0, none⟩ = some (.slice Ao33 t468.length co33) ∧ w'.cell? ⟨gb455, 0, none⟩ = some (.slice A0_0 l0_0.length c0_0)) (ds := []) #[false, false, false, false, false] (by kernel_rfl) rfl rfl ⟨(blk_cell BK471.out 0).trans rfl, (blk_cell BK455.out 0).trans rfl⟩ (fun hHeld => ?_)
        generalize wc.drew = w58 at HO_8 HO_11 HO_12 HO_472000 BK455 BK471 HB hHeld ⊢
        refine take_ (i := 0) (N := some 58) (v := ?_) (a' := ?_) #[true, false, false, false, false] rfl rfl (by kernel_rfl) (fun _ _ _ h => h) (Or.inl ⟨by rfl, ?_⟩) hHeld ?_ ?_
        rotate_left
        ·rintro w' ⟨s0, s1⟩
         go_simp
         with_reducible rfl
        rotate_left
        ·exact sa
        refine take_ (i := 1) (N := some 59) (v := ?_) (a' := ?_) #[true, true, false, false, false] rfl rfl (by kernel_rfl) (fun _ _ _ h => h) (Or.inl ⟨by rfl, ?_⟩) hHeld ?_ ?_
        rotate_left
        ·rintro w' ⟨s0, s1⟩
         go_simp
         with_reducible rfl
        rotate_left
        ·exact sa
        refine one_ (i := 2) (N := some 60) #[true, true, true, false, false] rfl rfl (by kernel_rfl) (by decide) (fun K hK => ?_)
        refine goes_ Try.func10 (by kernel_rfl) rfl #[.agg #[.slice A0_0 l0_0.length c0_0]] (by rfl) rfl rfl (aq) ?_
        with_reducible refine (laws_toTree.calls kj19 _ _ l0_0 t480 _ ?side1 ?side2 A49.out).mono ?_
        (case side1 => exact cq (Kd.C_below HR0_0.out HB.out))
        (case side2 => exact HC0_0.out)
        rintro e w59 ⟨v481, rfl, ho0, hb⟩
        refine ⟨_, rfl, ?_⟩
        have HO482 := am (Kd.R_lower (Kd.R_new' ho0 (Kd.R_lt (rq HO_472000.out))) (below_size (Y10)))
        replace HO_8 := am (Kd.R_below (rq HO_8.out) hb)
        replace HO_11 := am (Kd.R_below (rq HO_11.out) hb)
        replace HO_12 := am (Kd.R_below (rq HO_12.out) hb)
        replace HO_472000 := am (Kd.R_elder' (rq HO_472000.out) (Kd.R_base ho0) hb)
        replace BK455 := am (blk_below (g := gb455) (o := .cells #[.slice A0_0 l0_0.length c0_0] 24 (0, 0)) (kq BK455.out) hb)
        replace BK471 := am (blk_below (g := gb471) (o := .cells #[.slice Ao33 t468.length co33] 33 (0, 0)) (kq BK471.out) hb)
        replace HB := am (below_step (Y10) hb)
        (try clear hb)
        (try clear hb2)
        (try clear hk)
        (try clear hi)
        (try clear ho0)
        obtain ⟨Ao60, co60, eo60⟩ := Kd.R_slice HO482.out
        (first | subst eo60 | (injection eo60 with f1_ f2_ f3_; have f4_ := f1_.symm; have f5_ := f3_.symm; clear f1_ f2_ f3_; subst f4_; subst f5_))
        refine hK.out _ _ ⟨(blk_cell BK471.out 0).trans rfl, (blk_cell BK455.out 0).trans rfl⟩ (fun hHeld => ?_)
        clear hK K
        refine norm_ (a' := ?_) ?_ ?_
        rotate_left
        ·show Act.put _ (some 60) _ = _
         simp only [Act.put, List.setIfInBounds_toArray, List.set_cons_zero, List.set_cons_succ, i64_w, i32_w]
         rfl
        refine one_ (i := 3) (N := some 61) #[true, true, true, true, false] rfl rfl (by kernel_rfl) (by decide) (fun K hK => ?_)
        refine goes_ Try.func14 (by kernel_rfl) rfl #[.agg #[.slice Ao33 t468.length co33], .agg #[.slice Ao60 t480.length co60]] (by rfl) rfl rfl (aq) ?_
        with_reducible refine (laws_eqTree.calls kj19 _ _ t468 _ _ t480 true _ ?side1 ?side2 ?side3 ?side4 A50.out).mono ?_
        (case side1 => exact cq (Kd.R_reads' HO_472000.out).2.2)
        (case side2 => exact (Kd.R_reads' HO_472000.out).2.1)
        (case side3 => exact cq (Kd.R_reads' HO482.out).2.2)
        (case side4 => exact (Kd.R_reads' HO482.out).2.1)
        rintro e w61 ⟨rfl, hb⟩
        refine ⟨_, rfl, ?_⟩
        replace HO_8 := am (Kd.R_below (rq HO_8.out) hb)
        replace HO_11 := am (Kd.R_below (rq HO_11.out) hb)
        replace HO_12 := am (Kd.R_below (rq HO_12.out) hb)
        replace HO_472000 := am (Kd.R_below (rq HO_472000.out) hb)
        replace HO482 := am (Kd.R_below (rq HO482.out) hb)
        replace BK455 := am (blk_below (g := gb455) (o := .cells #[.slice A0_0 l0_0.length c0_0] 24 (0, 0)) (kq BK455.out) hb)
        replace BK471 := am (blk_below (g := gb471) (o := .cells #[.slice Ao33 t468.length co33] 33 (0, 0)) (kq BK471.out) hb)
        replace HB := am (below_step (Y10) hb)
        (try clear hb)
        (try clear hb2)
        (try clear hk)
        (try clear hi)
        refine hK.out _ _ ⟨(blk_cell BK471.out 0).trans rfl, (blk_cell BK455.out 0).trans rfl⟩ (fun hHeld => ?_)
        clear hK K
        refine norm_ (a' := ?_) ?_ ?_
        rotate_left
        ·show Act.put _ (some 61) _ = _
         simp only [Act.put, List.setIfInBounds_toArray, List.set_cons_zero, List.set_cons_succ, i64_w, i32_w]
         rfl
        refine pure_ (i := 4) (N := some 62) (v := ?_) (a' := ?_) #[true, true, true, true, true] rfl rfl (by kernel_rfl) (fun _ _ _ h => h) (Or.inl ⟨by rfl, ?_⟩) ?_ ?_
        rotate_left
        ·exact sb
        rotate_left
        ·exact sa
        refine done_ (by kernel_rfl) ?_
        go_upto_region 21 with (first | ((with_reducible refine gate_callee (f := 11) rfl ?_); refine gL (some 65) Try.func11 #[.slice A1 l1.length c1] ?_; (with_reducible refine (laws_toLineS.calls kj19 _ _ l1 t484 _ ?side1 ?side2 A52.out).mono ?_); (case side1 => exact cq (Kd.C_below HR1.out HB.out)); (case side2 => exact HC1.out); rintro e w62 ⟨v485, rfl, ho0, hb⟩; refine ⟨_, rfl, ?_⟩; have HO486 := am (Kd.R_lower (Kd.R_new' (Kd.R_new' (Kd.R_new' ho0 (Kd.R_lt (rq HO_8.out))) (Kd.R_lt (rq HO_11.out))) (Kd.R_lt (rq HO_12.out))) (below_size (Y10))); replace HO_8 := am (Kd.R_elder' (rq HO_8.out) (Kd.R_base ho0) hb); replace HO_11 := am (Kd.R_elder' (rq HO_11.out) (Kd.R_base ho0) hb); replace HO_12 := am (Kd.R_elder' (rq HO_12.out) (Kd.R_base ho0) hb); replace HO_472000 := am (Kd.R_below (rq HO_472000.out) hb); replace HO482 := am (Kd.R_below (rq HO482.out) hb); replace BK455 := am (blk_below (g := gb455) (o := .cells #[.slice A0_0 l0_0.length c0_0] 24 (0, 0)) (kq BK455.out) hb); replace BK471 := am (blk_below (g := gb471) (o := .cells #[.slice Ao33 t468.length co33] 33 (0, 0)) (kq BK471.out) hb); replace HB := am (below_step (Y10) hb); (try clear hb); (try clear hb2); (try clear hk); (try clear hi); (try clear ho0); obtain ⟨Ao63, co63, eo63⟩ := Kd.R_slice HO486.out; subst eo63) | ((with_reducible refine gate_callee (f := 13) rfl ?_); refine gL (some 66) Try.func13 #[.slice Ao38 t472.length co38, .slice Ao63 t484.length co63] ?_; (with_reducible refine (laws_eqLineS.calls kj19 _ _ t472 _ _ t484 true _ ?side1 ?side2 ?side3 ?side4 A53.out).mono ?_); (case side1 => exact cq (Kd.R_reads' HO_11.out).2.2); (case side2 => exact (Kd.R_reads' HO_11.out).2.1); (case side3 => exact cq (Kd.R_reads' HO486.out).2.2); (case side4 => exact (Kd.R_reads' HO486.out).2.1); rintro e w64 ⟨rfl, hb⟩; refine ⟨_, rfl, ?_⟩; replace HO_8 := am (Kd.R_below (rq HO_8.out) hb); replace HO_11 := am (Kd.R_below (rq HO_11.out) hb); replace HO_12 := am (Kd.R_below (rq HO_12.out) hb); replace HO_472000 := am (Kd.R_below (rq HO_472000.out) hb); replace HO482 := am (Kd.R_below (rq HO482.out) hb); replace HO486 := am (Kd.R_below (rq HO486.out) hb); replace BK455 := am (blk_below (g := gb455) (o := .cells #[.slice A0_0 l0_0.length c0_0] 24 (0, 0)) (kq BK455.out) hb); replace BK471 := am (blk_below (g := gb471) (o := .cells #[.slice Ao33 t468.length co33] 33 (0, 0)) (kq BK471.out) hb); replace HB := am (below_step (Y10) hb); (try clear hb); (try clear hb2); (try clear hk); (try clear hi); have hnb65 := NB471_455.out; have hnc65 := NB455_471.out; have hcz66_0 := bc0 BK471.out; have hfz66_0 := blk_frozen BK471.out 0) | ((with_reducible refine gate_callee (f := 15) rfl ?_); refine gL (some 70) Try.func15 #[.agg #[.slice Ao33 t468.length co33], .int .i64 1] ?_; (with_reducible refine (laws_markTree.calls kj19 (fun k_ => some k_ = (.slice Ao33 t468.length co33 : Value).ownBlock) (.slice Ao33 t468.length co33) t468 1 t488 t489 w _ ?side1 ?side2 A55.out).mono ?_); (case side1 => exact Y10); (case side2 => exact Kd.R_tight rfl HO_472000.out); rintro e w67 ⟨rfl, hy0, hb, hkp⟩; refine ⟨_, rfl, ?_⟩; replace HO_8 := am (Kd.R_mono (ok' := fun k_ => some k_ ≠ (.slice Ao38 t472.length co38 : Value).ownBlock ∧ some k_ ≠ (v476 : Value).ownBlock ∧ some k_ ≠ (.slice Ao63 t484.length co63 : Value).ownBlock) (Kd.R_keptB ((Kd.R_apart' HO_8.out (Kd.R_typed HO_472000.out) (by decide))) hkp (fun k_ hk_ hs_ => (hk_.2) hs_)) (fun k_ hk_ => ⟨hk_.1.1.1.1, hk_.1.1.1.2, hk_.1.1.2⟩)); replace HO_11 := am (Kd.R_mono (ok' := fun k_ => some k_ ≠ (v465 : Value).ownBlock ∧ some k_ ≠ (v476 : Value).ownBlock ∧ some k_ ≠ (.slice Ao63 t484.length co63 : Value).ownBlock) (Kd.R_keptB ((Kd.R_apart' HO_11.out (Kd.R_typed HO_472000.out) (by decide))) hkp (fun k_ hk_ hs_ => (hk_.2) hs_)) (fun k_ hk_ => ⟨hk_.1.1.1.1, hk_.1.1.1.2, hk_.1.1.2⟩)); replace HO_12 := am (Kd.R_mono (ok' := fun k_ => some k_ ≠ (v465 : Value).ownBlock ∧ some k_ ≠ (.slice Ao38 t472.length co38 : Value).ownBlock ∧ some k_ ≠ (.slice Ao63 t484.length co63 : Value).ownBlock) (Kd.R_keptB ((Kd.R_apart' HO_12.out (Kd.R_typed HO_472000.out) (by decide))) hkp (fun k_ hk_ hs_ => (hk_.2) hs_)) (fun k_ hk_ => ⟨hk_.1.1.1.1, hk_.1.1.1.2, hk_.1.1.2⟩)); replace BK455 := am (blk_kept (kq BK455.out) hkp (fun hs_ => (fun e_ => (Kd.R_ne HO_472000.out BK455.out (by decide)) e_) hs_)); replace BK471 := am (blk_kept (kq BK471.out) hkp (fun hs_ => (fun e_ => (Kd.R_ne HO_472000.out BK471.out (by decide)) e_) hs_)); replace HO482 := am (Kd.R_mono (ok' := fun k_ => some k_ ≠ (.slice Ao33 t468.length co33 : Value).ownBlock) (Kd.R_keptB (HO482.out) hkp (fun k_ hk_ hs_ => (hk_.2) hs_)) (fun k_ hk_ => hk_.1.2)); replace HO486 := am (Kd.R_mono (ok' := fun k_ => some k_ ≠ (v465 : Value).ownBlock ∧ some k_ ≠ (.slice Ao38 t472.length co38 : Value).ownBlock ∧ some k_ ≠ (v476 : Value).ownBlock) (Kd.R_keptB ((Kd.R_apart' HO486.out (Kd.R_typed HO_472000.out) (by decide))) hkp (fun k_ hk_ hs_ => (hk_.2) hs_)) (fun k_ hk_ => ⟨hk_.1.1.1.1.2, hk_.1.1.1.2, hk_.1.1.2⟩)); replace HO_472000 := am (Kd.R_reok rfl hy0 (fun k_ e_ => HO_472000.out.1 k_ e_)); replace HB := am (hb); (try clear hb); (try clear hkp); (try clear hy0)) | ((with_reducible refine gate_callee (f := 16) rfl ?_); refine gL (some 73) Try.func16 #[.slice Ao38 t472.length co38, .int .i64 t488] ?_; (with_reducible refine (laws_markLineS.calls kj19 (fun k_ => some k_ = (.slice Ao38 t472.length co38 : Value).ownBlock) (.slice Ao38 t472.length co38) t472 t488 t490 t491 w _ ?side1 ?side2 A56.out).mono ?_); (case side1 => exact Y10); (case side2 => exact Kd.R_tight rfl HO_11.out); rintro e w68 ⟨rfl, hy0, hb, hkp⟩; refine ⟨_, rfl, ?_⟩; replace HO_8 := am (Kd.R_mono (ok' := fun k_ => some k_ ≠ (.slice Ao38 t472.length co38 : Value).ownBlock ∧ some k_ ≠ (v476 : Value).ownBlock ∧ some k_ ≠ (.slice Ao63 t484.length co63 : Value).ownBlock) (Kd.R_keptB (HO_8.out) hkp (fun k_ hk_ hs_ => (hk_.1) hs_)) (fun k_ hk_ => ⟨hk_.1.1, hk_.1.2.1, hk_.1.2.2⟩)); replace HO_12 := am (Kd.R_mono (ok' := fun k_ => some k_ ≠ (v465 : Value).ownBlock ∧ some k_ ≠ (.slice Ao38 t472.length co38 : Value).ownBlock ∧ some k_ ≠ (.slice Ao63 t484.length co63 : Value).ownBlock) (Kd.R_keptB (HO_12.out) hkp (fun k_ hk_ hs_ => (hk_.2.1) hs_)) (fun k_ hk_ => ⟨hk_.1.1, hk_.1.2.1, hk_.1.2.2⟩)); replace HO_472000 := am (Kd.R_mono (ok' := fun k_ => some k_ ≠ (.slice Ao60 t480.length co60 : Value).ownBlock) (Kd.R_keptB ((Kd.R_apart' HO_472000.out (Kd.R_typed HO_11.out) (by decide))) hkp (fun k_ hk_ hs_ => (hk_.2) hs_)) (fun k_ hk_ => hk_.1.1.2)); replace BK455 := am (blk_kept (kq BK455.out) hkp (fun hs_ => (fun e_ => (Kd.R_ne HO_11.out BK455.out (by decide)) e_) hs_)); replace BK471 := am (blk_kept (kq BK471.out) hkp (fun hs_ => (fun e_ => (Kd.R_ne HO_11.out BK471.out (by decide)) e_) hs_)); replace HO482 := am (Kd.R_mono (ok' := fun k_ => some k_ ≠ (.slice Ao33 t468.length co33 : Value).ownBlock) (Kd.R_keptB ((Kd.R_apart' HO482.out (Kd.R_typed HO_11.out) (by decide))) hkp (fun k_ hk_ hs_ => (hk_.2) hs_)) (fun k_ hk_ => hk_.1.1)); replace HO_11 := am (Kd.R_reok rfl hy0 (fun k_ e_ => HO_11.out.1 k_ e_)); replace HO486 := am (Kd.R_mono (ok' := fun k_ => some k_ ≠ (v465 : Value).ownBlock ∧ some k_ ≠ (.slice Ao38 t472.length co38 : Value).ownBlock ∧ some k_ ≠ (v476 : Value).ownBlock) (Kd.R_keptB (HO486.out) hkp (fun k_ hk_ hs_ => (hk_.2.1) hs_)) (fun k_ hk_ => ⟨hk_.1.1, hk_.1.2.1, hk_.1.2.2⟩)); replace HB := am (hb); (try clear hb); (try clear hkp); (try clear hy0)))
        (try simp only [Act.put, List.setIfInBounds_toArray, List.set_cons_zero, List.set_cons_succ])
        go_cut [86] (fun v86 wc => ∃ (kq : Nat) (x86_56 : Bool), v86 = .bool x86_56 ∧ Aside0 (laws_FnExactInLoop.j1 kq l1 a2 t464 t467 t475 x86_56 l0_0 = some r) ∧ Aside0 (kq ≤ kj19) ∧ Aside0 (Kd.R k50 50 wc w.heap.size (fun k_ => some k_ ≠ (v476 : Value).ownBlock) v465 t464) ∧ Aside0 (Kd.R k50 50 wc w.heap.size (fun k_ => some k_ ≠ (v465 : Value).ownBlock) v476 t475) ∧ Aside0 (Kd.R k63 63 wc w.heap.size (fun _ => True) (.slice Ao33 t468.length co33) t489) ∧ Aside0 (wc.heap[gb455]? = some (.cells #[(.slice A0_0 l0_0.length c0_0)] 24 (0, 0))) ∧ Aside0 (wc.heap[gb471]? = some (.cells #[(.slice Ao33 t468.length co33)] 33 (0, 0))) ∧ Aside0 (Below w.heap.size w wc))
        case first =>
         have H := HC57.out
         clear HC57
         by_cases c69 : t490 < 0
         ·rw [if_pos c69] at H
          have c69b0 : decide (t490 < 0) = true := decide_eq_true c69
          clear c69
          (first | rw [c69b0] | (simp only [i64_w, i32_w]; rw [c69b0]) | skip)
          have H' := am H
          clear H
          go_wp2
          go_meet
          case rel => exact ⟨_, (true), (sq), H', ⟨by have := HJ19.out; first | omega | exact Nat.le_refl _⟩, ⟨by (with_reducible repeat (first | apply Kd.R_alloc | apply Kd.R_drewN | apply Kd.R_drew)); exact Kd.R_mono HO_8.out (fun _ hk => hk.2.1)⟩, ⟨by (with_reducible repeat (first | apply Kd.R_alloc | apply Kd.R_drewN | apply Kd.R_drew)); exact Kd.R_mono HO_12.out (fun _ hk => hk.1)⟩, ⟨by (with_reducible repeat (first | apply Kd.R_alloc | apply Kd.R_drewN | apply Kd.R_drew)); exact Kd.R_mono HO_472000.out (fun _ hk => trivial)⟩, ⟨kq BK455.out⟩, ⟨kq BK471.out⟩, ⟨Y10⟩⟩
         ·rw [if_neg c69] at H
          have c69b0 : decide (t490 < 0) = false := decide_eq_false c69
          clear c69
          (first | rw [c69b0] | (simp only [i64_w, i32_w]; rw [c69b0]) | skip)
          replace H := Option.bind_eq_some_iff.mp H
          obtain ⟨t492, A700, H⟩ := H
          replace H : (if t492 = true then (laws_FnExactInLoop.j1 kj19 l1 a2 t464 t467 t475 (t478 != t467) l0_0) else (laws_FnExactInLoop.j1 kj19 l1 a2 t464 t467 t475 true l0_0)) = some r := H
          have A70 := am A700
          clear A700
          by_cases c71 : t492 = true
          ·subst c71
           have H1 : (laws_FnExactInLoop.j1 kj19 l1 a2 t464 t467 t475 (t478 != t467) l0_0) = some r := by rw [if_pos rfl] at H; exact H
           clear H
           have H := H1
           clear H1
           have H' := am H
           clear H
           obtain ⟨Ao72, co72, eo72⟩ := Kd.R_slice HO_12.out
           subst eo72
           obtain ⟨Ao73, co73, eo73⟩ := Kd.R_slice HO_8.out
           subst eo73
           go_wp2_with (first | (go_at_call 13; (with_reducible refine (laws_eqLineS.calls kj19 _ _ t475 _ _ t464 true _ ?side1 ?side2 ?side3 ?side4 A70.out).mono ?_); (case side1 => exact cq (Kd.R_reads' HO_12.out).2.2); (case side2 => exact (Kd.R_reads' HO_12.out).2.1); (case side3 => exact cq (Kd.R_reads' HO_8.out).2.2); (case side4 => exact (Kd.R_reads' HO_8.out).2.1); rintro e w74 ⟨rfl, hb⟩; replace HO_8 := am (Kd.R_below (rq HO_8.out) hb); replace HO_11 := am (Kd.R_below (rq HO_11.out) hb); replace HO_12 := am (Kd.R_below (rq HO_12.out) hb); replace HO_472000 := am (Kd.R_below (rq HO_472000.out) hb); replace HO482 := am (Kd.R_below (rq HO482.out) hb); replace HO486 := am (Kd.R_below (rq HO486.out) hb); replace BK455 := am (blk_below (g := gb455) (o := .cells #[.slice A0_0 l0_0.length c0_0] 24 (0, 0)) (kq BK455.out) hb); replace BK471 := am (blk_below (g := gb471) (o := .cells #[.slice Ao33 t468.length co33] 33 (0, 0)) (kq BK471.out) hb); replace HB := am (below_step (Y10) hb); (try clear hb); (try clear hb2); (try clear hk); (try clear hi)))
           go_meet
           case rel => exact ⟨_, ((t478 != t467)), (sq), H', ⟨by have := HJ19.out; first | omega | exact Nat.le_refl _⟩, ⟨by (with_reducible repeat (first | apply Kd.R_alloc | apply Kd.R_drewN | apply Kd.R_drew)); exact Kd.R_mono HO_8.out (fun _ hk => hk.2.1)⟩, ⟨by (with_reducible repeat (first | apply Kd.R_alloc | apply Kd.R_drewN | apply Kd.R_drew)); exact Kd.R_mono HO_12.out (fun _ hk => hk.1)⟩, ⟨by (with_reducible repeat (first | apply Kd.R_alloc | apply Kd.R_drewN | apply Kd.R_drew)); exact Kd.R_mono HO_472000.out (fun _ hk => trivial)⟩, ⟨kq BK455.out⟩, ⟨kq BK471.out⟩, ⟨Y10⟩⟩
          ·replace c71 := Bool.eq_false_iff.mpr c71
           subst c71
           have H1 : (laws_FnExactInLoop.j1 kj19 l1 a2 t464 t467 t475 true l0_0) = some r := by rw [if_neg (show ¬ (false = true) by decide)] at H; exact H
           clear H
           have H := H1
           clear H1
           have H' := am H
           clear H
           obtain ⟨Ao75, co75, eo75⟩ := Kd.R_slice HO_12.out
           subst eo75
           obtain ⟨Ao76, co76, eo76⟩ := Kd.R_slice HO_8.out
           subst eo76
           go_wp2_with (first | (go_at_call 13; (with_reducible refine (laws_eqLineS.calls kj19 _ _ t475 _ _ t464 false _ ?side1 ?side2 ?side3 ?side4 A70.out).mono ?_); (case side1 => exact cq (Kd.R_reads' HO_12.out).2.2); (case side2 => exact (Kd.R_reads' HO_12.out).2.1); (case side3 => exact cq (Kd.R_reads' HO_8.out).2.2); (case side4 => exact (Kd.R_reads' HO_8.out).2.1); rintro e w77 ⟨rfl, hb⟩; replace HO_8 := am (Kd.R_below (rq HO_8.out) hb); replace HO_11 := am (Kd.R_below (rq HO_11.out) hb); replace HO_12 := am (Kd.R_below (rq HO_12.out) hb); replace HO_472000 := am (Kd.R_below (rq HO_472000.out) hb); replace HO482 := am (Kd.R_below (rq HO482.out) hb); replace HO486 := am (Kd.R_below (rq HO486.out) hb); replace BK455 := am (blk_below (g := gb455) (o := .cells #[.slice A0_0 l0_0.length c0_0] 24 (0, 0)) (kq BK455.out) hb); replace BK471 := am (blk_below (g := gb471) (o := .cells #[.slice Ao33 t468.length co33] 33 (0, 0)) (kq BK471.out) hb); replace HB := am (below_step (Y10) hb); (try clear hb); (try clear hb2); (try clear hk); (try clear hi)))
           go_meet
           case rel => exact ⟨_, (true), (sq), H', ⟨by have := HJ19.out; first | omega | exact Nat.le_refl _⟩, ⟨by (with_reducible repeat (first | apply Kd.R_alloc | apply Kd.R_drewN | apply Kd.R_drew)); exact Kd.R_mono HO_8.out (fun _ hk => hk.2.1)⟩, ⟨by (with_reducible repeat (first | apply Kd.R_alloc | apply Kd.R_drewN | apply Kd.R_drew)); exact Kd.R_mono HO_12.out (fun _ hk => hk.1)⟩, ⟨by (with_reducible repeat (first | apply Kd.R_alloc | apply Kd.R_drewN | apply Kd.R_drew)); exact Kd.R_mono HO_472000.out (fun _ hk => trivial)⟩, ⟨kq BK455.out⟩, ⟨kq BK471.out⟩, ⟨Y10⟩⟩
        case rest =>
         clear HC57
         try clear c1
         try clear p2
         try clear c3
         try clear c4
         try clear c5
         try clear c5b0
         try clear c6
         try clear c7
         try clear c8
         try clear c10
         try clear c10b0
         try clear c11
         try clear c13
         try clear c14
         try clear c15
         try clear c16
         try clear c18
         try clear c19
         try clear c34
         try clear c41
         try clear c48
         try clear c51
         try clear c54
         try clear c65
         try clear c69
         try clear c69b0
         try clear c71
         try clear hcz12_0
         try clear hcz22_0
         try clear hcz24_0
         try clear hcz30_0
         try clear hcz35_0
         try clear hcz37_0
         try clear hcz66_0
         try clear hcz7_0
         try clear hfz12_0
         try clear hfz22_0
         try clear hfz24_0
         try clear hfz30_0
         try clear hfz35_0
         try clear hfz37_0
         try clear hfz66_0
         try clear hfz7_0
         try clear p2
         obtain ⟨kq, x86_56, rfl, HA, HJ56, HO_8, HO_12, HO_472000, BK455, BK471, HB⟩ := hcut
         have hl472000_56 := (Kd.R_reads' HO_472000.out).1
         rw [hl472000_56] at HO_472000
         (try simp only [hl472000_56])
         (try simp only [hl472000_56] at BK455)
         (try simp only [hl472000_56] at BK471)
         (try simp only [hl472000_56] at HO_8)
         (try simp only [hl472000_56] at HO_12)
         cases kq with
         | zero => exact absurd HA.out (by simp [laws_FnExactInLoop.j1])
         | succ kj56 =>
          have H := HA.out
          clear HA
          simp only [laws_FnExactInLoop.j1] at H
          by_cases c78 : x86_56 = true
          ·subst c78
           have H1 : (some false) = some r := by rw [if_pos rfl] at H; exact H
           clear H
           have H := H1
           clear H1
           exact absurd ((Option.some.inj H).trans hT) Bool.false_ne_true
          ·replace c78 := Bool.eq_false_iff.mpr c78
           subst c78
           have H1 : ((laws_markLineS.f kj56 t475 1).bind fun bt493 => ((laws_heldLineS.f kj56 bt493.2 1).bind fun t495 => (if t495 < 0 then (some false) else (if t495 = bt493.1 then ((laws_toTree.f kj56 l0_0).bind fun t496 => ((laws_toLineS.f kj56 l1).bind fun t499 => ((impl_InLoop.f kj56 t496 t499 a2).bind fun bt502 => ((laws_eqLineS.f kj56 bt502.1 t464).bind fun t506 => (if t506 = true then (laws_FnExactInLoop.j2 kj56 bt493.2 bt493.1 (bt502.2 != t467)) else (laws_FnExactInLoop.j2 kj56 bt493.2 bt493.1 true)))))) else (some false))))) = some r := by rw [if_neg (show ¬ (false = true) by decide)] at H; exact H
           clear H
           have H := H1
           clear H1
           replace H := Option.bind_eq_some_iff.mp H
           obtain ⟨⟨t493, t494⟩, A790, H⟩ := H
           replace H : ((laws_heldLineS.f kj56 t494 1).bind fun t495 => (if t495 < 0 then (some false) else (if t495 = t493 then ((laws_toTree.f kj56 l0_0).bind fun t496 => ((laws_toLineS.f kj56 l1).bind fun t499 => ((impl_InLoop.f kj56 t496 t499 a2).bind fun bt502 => ((laws_eqLineS.f kj56 bt502.1 t464).bind fun t506 => (if t506 = true then (laws_FnExactInLoop.j2 kj56 t494 t493 (bt502.2 != t467)) else (laws_FnExactInLoop.j2 kj56 t494 t493 true)))))) else (some false)))) = some r := H
           have A79 := am A790
           clear A790
           replace H := Option.bind_eq_some_iff.mp H
           obtain ⟨t495, A800, H⟩ := H
           replace H : (if t495 < 0 then (some false) else (if t495 = t493 then ((laws_toTree.f kj56 l0_0).bind fun t496 => ((laws_toLineS.f kj56 l1).bind fun t499 => ((impl_InLoop.f kj56 t496 t499 a2).bind fun bt502 => ((laws_eqLineS.f kj56 bt502.1 t464).bind fun t506 => (if t506 = true then (laws_FnExactInLoop.j2 kj56 t494 t493 (bt502.2 != t467)) else (laws_FnExactInLoop.j2 kj56 t494 t493 true)))))) else (some false))) = some r := H
           have A80 := am A800
           clear A800
           by_cases c81 : t495 < 0
           ·rw [if_pos c81] at H
            have c81b0 : decide (t495 < 0) = true := decide_eq_true c81
            clear c81
            exact absurd ((Option.some.inj H).trans hT) Bool.false_ne_true
           ·rw [if_neg c81] at H
            have c81b0 : decide (t495 < 0) = false := decide_eq_false c81
            clear c81
            by_cases c82 : t495 = t493
            ·rw [if_pos c82] at H
             have c82b0 : (t495 == t493) = true := beq_iff_eq.mpr c82
             have c82b1 : (t495 != t493) = false := bne_eq_false_iff_eq.mpr c82
             clear c82
             replace H := Option.bind_eq_some_iff.mp H
             obtain ⟨t496, A830, H⟩ := H
             replace H : ((laws_toLineS.f kj56 l1).bind fun t499 => ((impl_InLoop.f kj56 t496 t499 a2).bind fun bt502 => ((laws_eqLineS.f kj56 bt502.1 t464).bind fun t506 => (if t506 = true then (laws_FnExactInLoop.j2 kj56 t494 t493 (bt502.2 != t467)) else (laws_FnExactInLoop.j2 kj56 t494 t493 true))))) = some r := H
             have A83 := am A830
             clear A830
             replace H := Option.bind_eq_some_iff.mp H
             obtain ⟨t499, A840, H⟩ := H
             replace H : ((impl_InLoop.f kj56 t496 t499 a2).bind fun bt502 => ((laws_eqLineS.f kj56 bt502.1 t464).bind fun t506 => (if t506 = true then (laws_FnExactInLoop.j2 kj56 t494 t493 (bt502.2 != t467)) else (laws_FnExactInLoop.j2 kj56 t494 t493 true)))) = some r := H
             have A84 := am A840
             clear A840
             replace H := Option.bind_eq_some_iff.mp H
             obtain ⟨⟨t502, t505⟩, A850, H⟩ := H
             replace H : ((laws_eqLineS.f kj56 t502 t464).bind fun t506 => (if t506 = true then (laws_FnExactInLoop.j2 kj56 t494 t493 (t505 != t467)) else (laws_FnExactInLoop.j2 kj56 t494 t493 true))) = some r := H
             have A85 := am A850
             clear A850
             have HC86 := am H
             clear H
             obtain ⟨Ao87, co87, eo87⟩ := Kd.R_slice HO_12.out
             subst eo87
             go_upto_region 32 with (first | ((with_reducible refine gate_callee (f := 16) rfl ?_); refine gL (some 89) Try.func16 #[.slice Ao87 t475.length co87, .int .i64 1] ?_; (with_reducible refine (laws_markLineS.calls kj56 (fun k_ => some k_ = (.slice Ao87 t475.length co87 : Value).ownBlock) (.slice Ao87 t475.length co87) t475 1 t493 t494 w _ ?side1 ?side2 A79.out).mono ?_); (case side1 => exact Y10); (case side2 => exact Kd.R_tight rfl HO_12.out); rintro e w88 ⟨rfl, hy0, hb, hkp⟩; refine ⟨_, rfl, ?_⟩; replace HO_8 := am (Kd.R_mono (ok' := fun k_ => some k_ ≠ (.slice Ao87 t475.length co87 : Value).ownBlock) (Kd.R_keptB (HO_8.out) hkp (fun k_ hk_ hs_ => (hk_) hs_)) (fun k_ hk_ => hk_.1)); replace HO_472000 := am (Kd.R_mono (ok' := fun k_ => True) (Kd.R_keptB ((Kd.R_apart' HO_472000.out (Kd.R_typed HO_12.out) (by decide))) hkp (fun k_ hk_ hs_ => (hk_.2) hs_)) (fun k_ hk_ => trivial)); replace BK455 := am (blk_kept (kq BK455.out) hkp (fun hs_ => (fun e_ => (Kd.R_ne HO_12.out BK455.out (by decide)) e_) hs_)); replace BK471 := am (blk_kept (kq BK471.out) hkp (fun hs_ => (fun e_ => (Kd.R_ne HO_12.out BK471.out (by decide)) e_) hs_)); replace HO_12 := am (Kd.R_reok rfl hy0 (fun k_ e_ => HO_12.out.1 k_ e_)); replace HB := am (hb); (try clear hb); (try clear hkp); (try clear hy0)) | ((with_reducible refine gate_callee (f := 17) rfl ?_); refine goesL_ (some 92) rfl rfl Try.func17 (by kernel_rfl) rfl #[.slice Ao87 t494.length co87, .int .i64 1] rfl (by (try simp only [List.map_toArray, List.map_cons, List.map_nil]); first | done | (rw [show t494.length = t475.length from (Kd.R_reads' HO_12.out).1.symm] <;> rfl) | rfl | (simp only [List.length_drop, List.length_take]; rfl)) ?_; (with_reducible refine (laws_heldLineS.calls kj56 _ _ t494 1 t495 _ ?side1 ?side2 A80.out).mono ?_); (case side1 => exact cq (Kd.R_reads' HO_12.out).2.2); (case side2 => rw [show t494.length = t475.length from (Kd.R_reads' HO_12.out).1.symm]; exact (Kd.R_reads' HO_12.out).2.1); rintro e w' ⟨rfl, ⟨nd, rfl⟩⟩; refine ⟨_, rfl, ?_⟩; have hnb89 := NB455_471.out; have hnc89 := NB471_455.out; have hcz90_0 := bc0 BK455.out; have hfz90_0 := blk_frozen BK455.out 0) | ((with_reducible refine gate_callee (f := 10) rfl ?_); refine gL (some 100) Try.func10 #[.agg #[.slice A0_0 l0_0.length c0_0]] ?_; (with_reducible refine (laws_toTree.calls kj56 _ _ l0_0 t496 _ ?side1 ?side2 A83.out).mono ?_); (case side1 => repeat (first | exact (Kd.C_below HR0_0.out (by repeat (first | (with_reducible first | exact HB.out | apply below_alloc | apply pw_below_drewN | apply below_drew1 | refine below_set ?_ GE455.out | refine below_set ?_ GE471.out) | exact HB.out))) | (with_reducible refine Kd.C_alloc ?_ _) | (with_reducible refine Kd.C_drewN ?_ _) | (with_reducible refine Kd.C_drew ?_))); (case side2 => exact HC0_0.out); rintro e w91 ⟨v497, rfl, ho0, hb⟩; refine ⟨_, rfl, ?_⟩; have HO498 := am (Kd.R_lower (Kd.R_new' ho0 (Kd.R_lt (rq HO_472000.out))) (below_size (Y10))); replace HO_8 := am (Kd.R_below (rq HO_8.out) hb); replace HO_12 := am (Kd.R_below (rq HO_12.out) hb); replace HO_472000 := am (Kd.R_elder' (rq HO_472000.out) (Kd.R_base ho0) hb); replace BK455 := am (blk_below (g := gb455) (o := .cells #[.slice A0_0 l0_0.length c0_0] 24 (0, 0)) (kq BK455.out) hb); replace BK471 := am (blk_below (g := gb471) (o := .cells #[.slice Ao33 t489.length co33] 33 (0, 0)) (kq BK471.out) hb); replace HB := am (below_step (Y10) hb); (try clear hb); (try clear hb2); (try clear hk); (try clear hi); (try clear ho0)) | ((with_reducible refine gate_callee (f := 11) rfl ?_); refine gL (some 102) Try.func11 #[.slice A1 l1.length c1] ?_; (with_reducible refine (laws_toLineS.calls kj56 _ _ l1 t499 _ ?side1 ?side2 A84.out).mono ?_); (case side1 => exact cq (Kd.C_below HR1.out HB.out)); (case side2 => exact HC1.out); rintro e w92 ⟨v500, rfl, ho0, hb⟩; refine ⟨_, rfl, ?_⟩; have HO501 := am (Kd.R_lower (Kd.R_new' (Kd.R_new' ho0 (Kd.R_lt (rq HO_8.out))) (Kd.R_lt (rq HO_12.out))) (below_size (Y10))); replace HO_8 := am (Kd.R_elder' (rq HO_8.out) (Kd.R_base ho0) hb); replace HO_12 := am (Kd.R_elder' (rq HO_12.out) (Kd.R_base ho0) hb); replace HO_472000 := am (Kd.R_below (rq HO_472000.out) hb); replace HO498 := am (Kd.R_below (rq HO498.out) hb); replace BK455 := am (blk_below (g := gb455) (o := .cells #[.slice A0_0 l0_0.length c0_0] 24 (0, 0)) (kq BK455.out) hb); replace BK471 := am (blk_below (g := gb471) (o := .cells #[.slice Ao33 t489.length co33] 33 (0, 0)) (kq BK471.out) hb); replace HB := am (below_step (Y10) hb); (try clear hb); (try clear hb2); (try clear hk); (try clear hi); (try clear ho0); obtain ⟨Ao93, co93, eo93⟩ := Kd.R_slice HO498.out; subst eo93; obtain ⟨Ao94, co94, eo94⟩ := Kd.R_slice HO501.out; subst eo94) | ((with_reducible refine gate_callee (f := 19) rfl ?_); refine gL (some 104) Try.func19 #[.agg #[.slice Ao93 t496.length co93], .slice Ao94 t499.length co94, .int .i64 a2] ?_; (with_reducible refine (impl_InLoop.calls kj56 _ _ t496 _ _ t499 a2 t502 t505 _ ?side1 ?side2 ?side3 ?side4 A85.out).mono ?_); (case side1 => exact cq (Kd.R_reads' HO498.out).2.2); (case side2 => exact (Kd.R_reads' HO498.out).2.1); (case side3 => exact cq (Kd.R_reads' HO501.out).2.2); (case side4 => exact (Kd.R_reads' HO501.out).2.1); rintro e w95 ⟨v503, rfl, ho0, hb⟩; refine ⟨_, rfl, ?_⟩; have HO504 := am (Kd.R_lower (Kd.R_new' (Kd.R_new' (Kd.R_new' ho0 (Kd.R_lt (rq HO_8.out))) (Kd.R_lt (rq HO_12.out))) (Kd.R_lt (rq HO501.out))) (below_size (Y10))); replace HO_8 := am (Kd.R_elder' (rq HO_8.out) (Kd.R_base ho0) hb); replace HO_12 := am (Kd.R_elder' (rq HO_12.out) (Kd.R_base ho0) hb); replace HO_472000 := am (Kd.R_below (rq HO_472000.out) hb); replace HO498 := am (Kd.R_below (rq HO498.out) hb); replace HO501 := am (Kd.R_elder' (rq HO501.out) (Kd.R_base ho0) hb); replace BK455 := am (blk_below (g := gb455) (o := .cells #[.slice A0_0 l0_0.length c0_0] 24 (0, 0)) (kq BK455.out) hb); replace BK471 := am (blk_below (g := gb471) (o := .cells #[.slice Ao33 t489.length co33] 33 (0, 0)) (kq BK471.out) hb); replace HB := am (below_step (Y10) hb); (try clear hb); (try clear hb2); (try clear hk); (try clear hi); (try clear ho0)))
             (try simp only [Act.put, List.setIfInBounds_toArray, List.set_cons_zero, List.set_cons_succ])
             go_cut [115] (fun v115 wc => ∃ (kq : Nat) (x115_85 : Bool), v115 = .bool x115_85 ∧ Aside0 (laws_FnExactInLoop.j2 kq t494 t493 x115_85 = some r) ∧ Aside0 (kq ≤ kj56) ∧ Aside0 (Kd.R k50 50 wc w.heap.size (fun _ => True) (.slice Ao87 t475.length co87) t494) ∧ Aside0 (Kd.R k63 63 wc w.heap.size (fun _ => True) (.slice Ao33 t489.length co33) t489) ∧ Aside0 (wc.heap[gb455]? = some (.cells #[(.slice A0_0 l0_0.length c0_0)] 24 (0, 0))) ∧ Aside0 (wc.heap[gb471]? = some (.cells #[(.slice Ao33 t489.length co33)] 33 (0, 0))) ∧ Aside0 (Below w.heap.size w wc))
             case first =>
              have H := HC86.out
              clear HC86
              replace H := Option.bind_eq_some_iff.mp H
              obtain ⟨t506, A960, H⟩ := H
              replace H : (if t506 = true then (laws_FnExactInLoop.j2 kj56 t494 t493 (t505 != t467)) else (laws_FnExactInLoop.j2 kj56 t494 t493 true)) = some r := H
              have A96 := am A960
              clear A960
              by_cases c97 : t506 = true
              ·subst c97
               have H1 : (laws_FnExactInLoop.j2 kj56 t494 t493 (t505 != t467)) = some r := by rw [if_pos rfl] at H; exact H
               clear H
               have H := H1
               clear H1
               have H' := am H
               clear H
               obtain ⟨Ao98, co98, eo98⟩ := Kd.R_slice HO504.out
               subst eo98
               obtain ⟨Ao99, co99, eo99⟩ := Kd.R_slice HO_8.out
               subst eo99
               go_wp2_with (first | ((with_reducible refine gate_callee (f := 13) rfl ?_); refine gL (some 109) Try.func13 #[.slice Ao98 t502.length co98, .slice Ao99 t464.length co99] ?_; (with_reducible refine (laws_eqLineS.calls kj56 _ _ t502 _ _ t464 true _ ?side1 ?side2 ?side3 ?side4 A96.out).mono ?_); (case side1 => exact cq (Kd.R_reads' HO504.out).2.2); (case side2 => exact (Kd.R_reads' HO504.out).2.1); (case side3 => exact cq (Kd.R_reads' HO_8.out).2.2); (case side4 => exact (Kd.R_reads' HO_8.out).2.1); rintro e w100 ⟨rfl, hb⟩; refine ⟨_, rfl, ?_⟩; replace HO_8 := am (Kd.R_below (rq HO_8.out) hb); replace HO_12 := am (Kd.R_below (rq HO_12.out) hb); replace HO_472000 := am (Kd.R_below (rq HO_472000.out) hb); replace HO498 := am (Kd.R_below (rq HO498.out) hb); replace HO501 := am (Kd.R_below (rq HO501.out) hb); replace HO504 := am (Kd.R_below (rq HO504.out) hb); replace BK455 := am (blk_below (g := gb455) (o := .cells #[.slice A0_0 l0_0.length c0_0] 24 (0, 0)) (kq BK455.out) hb); replace BK471 := am (blk_below (g := gb471) (o := .cells #[.slice Ao33 t489.length co33] 33 (0, 0)) (kq BK471.out) hb); replace HB := am (below_step (Y10) hb); (try clear hb); (try clear hb2); (try clear hk); (try clear hi)))
               go_meet
               case rel => exact ⟨_, ((t505 != t467)), (sq), H', ⟨by have := HJ19.out; have := HJ56.out; first | omega | exact Nat.le_refl _⟩, ⟨by (try simp only [hl472000_56]); (with_reducible repeat (first | apply Kd.R_alloc | apply Kd.R_drewN | apply Kd.R_drew)); exact Kd.R_mono HO_12.out (fun _ hk => trivial)⟩, ⟨by (try simp only [hl472000_56]); (with_reducible repeat (first | apply Kd.R_alloc | apply Kd.R_drewN | apply Kd.R_drew)); exact Kd.R_mono HO_472000.out (fun _ hk => trivial)⟩, ⟨by (try simp only [hl472000_56]); (with_reducible repeat (first | refine blk_drewN ?_ _ | refine blk_drew ?_ | refine blk_alloc ?_ _)); exact BK455.out⟩, ⟨by (try simp only [hl472000_56]); (with_reducible repeat (first | refine blk_drewN ?_ _ | refine blk_drew ?_ | refine blk_alloc ?_ _)); exact BK471.out⟩, ⟨Y10⟩⟩
              ·replace c97 := Bool.eq_false_iff.mpr c97
               subst c97
               have H1 : (laws_FnExactInLoop.j2 kj56 t494 t493 true) = some r := by rw [if_neg (show ¬ (false = true) by decide)] at H; exact H
               clear H
               have H := H1
               clear H1
               have H' := am H
               clear H
               obtain ⟨Ao101, co101, eo101⟩ := Kd.R_slice HO504.out
               subst eo101
               obtain ⟨Ao102, co102, eo102⟩ := Kd.R_slice HO_8.out
               subst eo102
               go_wp2_with (first | ((with_reducible refine gate_callee (f := 13) rfl ?_); refine gL (some 109) Try.func13 #[.slice Ao101 t502.length co101, .slice Ao102 t464.length co102] ?_; (with_reducible refine (laws_eqLineS.calls kj56 _ _ t502 _ _ t464 false _ ?side1 ?side2 ?side3 ?side4 A96.out).mono ?_); (case side1 => exact cq (Kd.R_reads' HO504.out).2.2); (case side2 => exact (Kd.R_reads' HO504.out).2.1); (case side3 => exact cq (Kd.R_reads' HO_8.out).2.2); (case side4 => exact (Kd.R_reads' HO_8.out).2.1); rintro e w103 ⟨rfl, hb⟩; refine ⟨_, rfl, ?_⟩; replace HO_8 := am (Kd.R_below (rq HO_8.out) hb); replace HO_12 := am (Kd.R_below (rq HO_12.out) hb); replace HO_472000 := am (Kd.R_below (rq HO_472000.out) hb); replace HO498 := am (Kd.R_below (rq HO498.out) hb); replace HO501 := am (Kd.R_below (rq HO501.out) hb); replace HO504 := am (Kd.R_below (rq HO504.out) hb); replace BK455 := am (blk_below (g := gb455) (o := .cells #[.slice A0_0 l0_0.length c0_0] 24 (0, 0)) (kq BK455.out) hb); replace BK471 := am (blk_below (g := gb471) (o := .cells #[.slice Ao33 t489.length co33] 33 (0, 0)) (kq BK471.out) hb); replace HB := am (below_step (Y10) hb); (try clear hb); (try clear hb2); (try clear hk); (try clear hi)))
               go_meet
               case rel => exact ⟨_, (true), (sq), H', ⟨by have := HJ19.out; have := HJ56.out; first | omega | exact Nat.le_refl _⟩, ⟨by (try simp only [hl472000_56]); (with_reducible repeat (first | apply Kd.R_alloc | apply Kd.R_drewN | apply Kd.R_drew)); exact Kd.R_mono HO_12.out (fun _ hk => trivial)⟩, ⟨by (try simp only [hl472000_56]); (with_reducible repeat (first | apply Kd.R_alloc | apply Kd.R_drewN | apply Kd.R_drew)); exact Kd.R_mono HO_472000.out (fun _ hk => trivial)⟩, ⟨by (try simp only [hl472000_56]); (with_reducible repeat (first | refine blk_drewN ?_ _ | refine blk_drew ?_ | refine blk_alloc ?_ _)); exact BK455.out⟩, ⟨by (try simp only [hl472000_56]); (with_reducible repeat (first | refine blk_drewN ?_ _ | refine blk_drew ?_ | refine blk_alloc ?_ _)); exact BK471.out⟩, ⟨Y10⟩⟩
             case rest =>
              clear HC86
              try clear c1
              try clear p2
              try clear c3
              try clear c4
              try clear c5
              try clear c5b0
              try clear c6
              try clear c7
              try clear c8
              try clear c9
              try clear c10
              try clear c10b0
              try clear c11
              try clear c13
              try clear c14
              try clear c15
              try clear c16
              try clear c17
              try clear c18
              try clear c19
              try clear c34
              try clear c41
              try clear c48
              try clear c51
              try clear c54
              try clear c65
              try clear c69
              try clear c69b0
              try clear c71
              try clear c78
              try clear c81
              try clear c81b0
              try clear c82
              try clear c82b0
              try clear c82b1
              try clear c89
              try clear c97
              try clear hcz12_0
              try clear hcz22_0
              try clear hcz24_0
              try clear hcz30_0
              try clear hcz35_0
              try clear hcz37_0
              try clear hcz66_0
              try clear hcz7_0
              try clear hcz90_0
              try clear hfz12_0
              try clear hfz22_0
              try clear hfz24_0
              try clear hfz30_0
              try clear hfz35_0
              try clear hfz37_0
              try clear hfz66_0
              try clear hfz7_0
              try clear hfz90_0
              try clear p2
              obtain ⟨kq, x115_85, rfl, HA, HJ85, HO_12, HO_472000, BK455, BK471, HB⟩ := hcut
              have hl12_85 := (Kd.R_reads' HO_12.out).1
              rw [hl12_85] at HO_12
              (try simp only [hl12_85])
              (try simp only [hl12_85] at BK455)
              (try simp only [hl12_85] at BK471)
              (try simp only [hl12_85] at HO_472000)
              cases kq with
              | zero => exact absurd HA.out (by simp [laws_FnExactInLoop.j2])
              | succ kj85 =>
               have H := HA.out
               clear HA
               simp only [laws_FnExactInLoop.j2] at H
               by_cases c104 : x115_85 = true
               ·subst c104
                have H1 : (some false) = some r := by rw [if_pos rfl] at H; exact H
                clear H
                have H := H1
                clear H1
                exact absurd ((Option.some.inj H).trans hT) Bool.false_ne_true
               ·replace c104 := Bool.eq_false_iff.mpr c104
                subst c104
                have H1 : ((laws_heldLineS.f kj85 t494 1).bind fun t507 => (if t507 < 0 then (some false) else (if t507 = t493 then (some true) else (some false)))) = some r := by rw [if_neg (show ¬ (false = true) by decide)] at H; exact H
                clear H
                have H := H1
                clear H1
                replace H := Option.bind_eq_some_iff.mp H
                obtain ⟨t507, A1050, H⟩ := H
                replace H : (if t507 < 0 then (some false) else (if t507 = t493 then (some true) else (some false))) = some r := H
                have A105 := am A1050
                clear A1050
                by_cases c106 : t507 < 0
                ·rw [if_pos c106] at H
                 have c106b0 : decide (t507 < 0) = true := decide_eq_true c106
                 clear c106
                 exact absurd ((Option.some.inj H).trans hT) Bool.false_ne_true
                ·rw [if_neg c106] at H
                 have c106b0 : decide (t507 < 0) = false := decide_eq_false c106
                 clear c106
                 by_cases c107 : t507 = t493
                 ·rw [if_pos c107] at H
                  have c107b0 : (t507 == t493) = true := beq_iff_eq.mpr c107
                  have c107b1 : (t507 != t493) = false := bne_eq_false_iff_eq.mpr c107
                  clear c107
                  obtain rfl := Option.some.inj H
                  go_wp2_with (first | ((with_reducible refine gate_callee (f := 17) rfl ?_); refine gL (some 118) Try.func17 #[.slice Ao87 t494.length co87, .int .i64 1] ?_; (with_reducible refine (laws_heldLineS.calls kj85 _ _ t494 1 t507 _ ?side1 ?side2 A105.out).mono ?_); (case side1 => exact cq (Kd.R_reads' HO_12.out).2.2); (case side2 => exact (Kd.R_reads' HO_12.out).2.1); rintro e w' ⟨rfl, ⟨nd, rfl⟩⟩; refine ⟨_, rfl, ?_⟩))
                  go_ret
                  exact ⟨Y1, Y10⟩
                 ·rw [if_neg c107] at H
                  have c107b0 : (t507 == t493) = false := beq_eq_false_iff_ne.mpr c107
                  have c107b1 : (t507 != t493) = true := bne_iff_ne.mpr c107
                  exact absurd ((Option.some.inj H).trans hT) Bool.false_ne_true
            ·rw [if_neg c82] at H
             have c82b0 : (t495 == t493) = false := beq_eq_false_iff_ne.mpr c82
             have c82b1 : (t495 != t493) = true := bne_iff_ne.mpr c82
             exact absurd ((Option.some.inj H).trans hT) Bool.false_ne_true
       ·replace c54 := Bool.eq_false_iff.mpr c54
        subst c54
        have H1 : (some false) = some r := by rw [if_neg (show ¬ (false = true) by decide)] at H; exact H
        clear H
        have H := H1
        clear H1
        exact absurd ((Option.some.inj H).trans hT) Bool.false_ne_true
      ·replace c51 := Bool.eq_false_iff.mpr c51
       subst c51
       have H1 : (some false) = some r := by rw [if_neg (show ¬ (false = true) by decide)] at H; exact H
       clear H
       have H := H1
       clear H1
       exact absurd ((Option.some.inj H).trans hT) Bool.false_ne_true
end Go.Proofs.Ytgbigghiegiejaa.P
end
