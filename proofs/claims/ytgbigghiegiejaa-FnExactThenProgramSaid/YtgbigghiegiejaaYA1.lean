/- One part of the proofs on this program: functions of the program as plain functions, that the code comes to them, and facts on them. -/
import Derived.Test.YtgbigghiegiejaaYAll1
import Derived.Test.YtgbigghiegiejaaYAll2
import Derived.Test.YtgbigghiegiejaaYAll4
import Derived.Test.YtgbigghiegiejaaYAll5
import Derived.Test.YtgbigghiegiejaaYWAuto
section
namespace Go.Proofs.Ytgbigghiegiejaa.P
open Go.RowKit Go.Proofs.YtgbigghiegiejaaW.PrintWords Go.Proofs.YtgbigghiegiejaaW.PrintLast Go.Proofs.YtgbigghiegiejaaW.PrintMore
attribute [local go_sem] max2_int min2_int max_two min_two max_three min_three max_four min_four isSome_cell_setCell
set_option linter.unusedVariables false
set_option linter.unusedSimpArgs false
def spec_ThenProgram.f (k : Nat) (l0_0 : List (S63)) (l1 : List (S50)) (l2 : List (S50)) : Option ((List (S50)) × Bool) := (spec_both.f k l0_0 l1 l2).bind fun t163 => (if t163 = true then ((some (([] : List (S50)) : List (S50))).bind fun y164 => (if y164.length + l1.length < 4398046511104 then ((some (y164 ++ l1 : List (S50))).bind fun y167 => (if y167.length + l2.length < 4398046511104 then ((spec_checkedProgram.f k l0_0 (y167 ++ l2)).bind fun bt173 => (some (bt173.1, bt173.2))) else (none))) else (none))) else (some (([] : List (S50)), false)))
def spec_ThenProgram.T3 : Bool × List (List Nat × List Nat) := (true, [([], []), ([], []), ([], []), ([1, 2], [1, 2]), ([], []), ([3, 4, 3], [3, 4]), ([0, 5, 5], [0, 5]), ([6], [6]), ([6], [6]), ([7, 6, 0, 1, 2, 3, 4, 5, 6, 7, 8], [7]), ([8, 9, 0, 1, 2, 3, 4, 5, 6, 7, 8, 9], [8])])
def spec_ThenProgram.B3 : List Nat := [0, 0, 0, 6, 0, 30, 63, 127, 127, 511, 1023]
theorem spec_ThenProgram.tab3 : rtab .any (opsOf Try.f9 3) = spec_ThenProgram.T3 := by kernel_rfl
theorem spec_ThenProgram.bits3 : waitsOk spec_ThenProgram.T3.2 spec_ThenProgram.B3 = true := by kernel_rfl
set_option maxHeartbeats 8000000 in
set_option maxRecDepth 100000 in
theorem spec_ThenProgram.calls (k : Nat) (A0_0 : Option Addr) (c0_0 : Nat) (l0_0 : List (S63)) (A1 : Option Addr) (c1 : Nat) (l1 : List (S50)) (A2 : Option Addr) (c2 : Nat) (l2 : List (S50)) (r1 : List (S50)) (r2 : Bool) (w : World) (hr0_0 : Kd.C k63 w A0_0 l0_0.length l0_0) (hc0_0 : l0_0.length ≤ c0_0) (hr1 : Kd.C k50 w A1 l1.length l1) (hc1 : l1.length ≤ c1) (hr2 : Kd.C k50 w A2 l2.length l2) (hc2 : l2.length ≤ c2) (h : spec_ThenProgram.f k l0_0 l1 l2 = some (r1, r2)) :
  Calls Try.prog 9 #[.agg #[.slice A0_0 l0_0.length c0_0], .slice A1 l1.length c1, .slice A2 l2.length c2] w fun e w' => ∃ v0_ : Value, e = .returned (.tuple #[v0_, .bool r2]) ∧ Kd.R k50 50 w' w.heap.size (fun _ => True) v0_ r1 ∧ Below w.heap.size w w' := by
 have hu33 := Try.underlying33
 have HR0_0 := am hr0_0
 have HC0_0 := am hc0_0
 clear hr0_0 hc0_0
 have HR1 := am hr1
 have HC1 := am hc1
 clear hr1 hc1
 have HR2 := am hr2
 have HC2 := am hc2
 clear hr2 hc2
 have HB := am (Below.refl w.heap.size w)
 have H : ((spec_both.f k l0_0 l1 l2).bind fun t163 => (if t163 = true then ((some (([] : List (S50)) : List (S50))).bind fun y164 => (if y164.length + l1.length < 4398046511104 then ((some (y164 ++ l1 : List (S50))).bind fun y167 => (if y167.length + l2.length < 4398046511104 then ((spec_checkedProgram.f k l0_0 (y167 ++ l2)).bind fun bt173 => (some (bt173.1, bt173.2))) else (none))) else (none))) else (some (([] : List (S50)), false)))) = some (r1, r2) := h
 clear h
 replace H := Option.bind_eq_some_iff.mp H
 obtain ⟨t163, A40, H⟩ := H
 replace H : (if t163 = true then ((some (([] : List (S50)) : List (S50))).bind fun y164 => (if y164.length + l1.length < 4398046511104 then ((some (y164 ++ l1 : List (S50))).bind fun y167 => (if y167.length + l2.length < 4398046511104 then ((spec_checkedProgram.f k l0_0 (y167 ++ l2)).bind fun bt173 => (some (bt173.1, bt173.2))) else (none))) else (none))) else (some (([] : List (S50)), false))) = some (r1, r2) := H
 have A4 := am A40
 clear A40
 by_cases c5 : t163 = true
 ·subst c5
  have H1 : ((some (([] : List (S50)) : List (S50))).bind fun y164 => (if y164.length + l1.length < 4398046511104 then ((some (y164 ++ l1 : List (S50))).bind fun y167 => (if y167.length + l2.length < 4398046511104 then ((spec_checkedProgram.f k l0_0 (y167 ++ l2)).bind fun bt173 => (some (bt173.1, bt173.2))) else (none))) else (none))) = some (r1, r2) := by rw [if_pos rfl] at H; exact H
  clear H
  have H := H1
  clear H1
  obtain ⟨y164, hy164⟩ : ∃ y_ : List (S50), y_ = (([] : List (S50))) := ⟨_, rfl⟩
  replace H : (if y164.length + l1.length < 4398046511104 then ((some (y164 ++ l1 : List (S50))).bind fun y167 => (if y167.length + l2.length < 4398046511104 then ((spec_checkedProgram.f k l0_0 (y167 ++ l2)).bind fun bt173 => (some (bt173.1, bt173.2))) else (none))) else (none)) = some (r1, r2) := by first | (rw [hy164]; with_reducible exact H) | (have H2_ := (Option.bind_some _ _).symm.trans H; rw [hy164]; with_reducible exact H2_) | (have H2_ := (Option.bind_some _ _).symm.trans H; with_reducible exact H2_) | with_reducible exact H | (rw [hy164]; exact H) | exact H
  have Ny164 := am hy164
  clear hy164
  by_cases c6 : y164.length + l1.length < 4398046511104
  ·rw [if_pos c6] at H
   have LMc6 := am c6
   clear c6
   obtain ⟨y167, hy167⟩ : ∃ y_ : List (S50), y_ = (y164 ++ l1) := ⟨_, rfl⟩
   replace H : (if y167.length + l2.length < 4398046511104 then ((spec_checkedProgram.f k l0_0 (y167 ++ l2)).bind fun bt173 => (some (bt173.1, bt173.2))) else (none)) = some (r1, r2) := by first | (rw [hy167]; with_reducible exact H) | (have H2_ := (Option.bind_some _ _).symm.trans H; rw [hy167]; with_reducible exact H2_) | (have H2_ := (Option.bind_some _ _).symm.trans H; with_reducible exact H2_) | with_reducible exact H | (rw [hy167]; exact H) | exact H
   have Ny167 := am hy167
   clear hy167
   by_cases c7 : y167.length + l2.length < 4398046511104
   ·rw [if_pos c7] at H
    have LMc7 := am c7
    clear c7
    obtain ⟨y170, hy170⟩ : ∃ y_ : List (S50), y_ = (y167 ++ l2) := ⟨_, rfl⟩
    replace H : ((spec_checkedProgram.f k l0_0 y170).bind fun bt173 => (some (bt173.1, bt173.2))) = some (r1, r2) := by first | (rw [hy170]; with_reducible exact H) | (have H2_ := (Option.bind_some _ _).symm.trans H; rw [hy170]; with_reducible exact H2_) | (have H2_ := (Option.bind_some _ _).symm.trans H; with_reducible exact H2_) | with_reducible exact H | (rw [hy170]; exact H) | exact H
    have Ny170 := am hy170
    clear hy170
    replace H := Option.bind_eq_some_iff.mp H
    obtain ⟨⟨t173, t176⟩, A80, H⟩ := H
    replace H : (some (t173, t176)) = some (r1, r2) := H
    have A8 := am A80
    clear A80
    simp only [Option.some.injEq, Prod.mk.injEq] at H
    obtain ⟨rfl, rfl⟩ := H
    go_enter Try.func9, Try.ntmps9
    try go_wp2_with (first | ((with_reducible refine gate_dst (N := 3) rfl ?_); refine bE (N := 3) (cs := #[.slice A0_0 l0_0.length c0_0]) (t := 33) ?_; intro gb162 hg w9 hbox hb; have BK162 := am (hbox); have GW162 := am ((Y0 : w.heap.size ≤ gb162)); have GE162 := am ((Y0 : w.heap.size ≤ gb162)); replace HB := am (below_step (bq) hb); clear hb hbox hg; have hcz10_0 := bc0 BK162.out; have hfz10_0 := blk_frozen BK162.out 0) | ((with_reducible refine gate_callee (f := 25) rfl ?_); refine gL (some 11) Try.func25 #[.agg #[.slice A0_0 l0_0.length c0_0], .slice A1 l1.length c1, .slice A2 l2.length c2] ?_; (with_reducible refine (spec_both.calls k _ _ l0_0 _ _ l1 _ _ l2 true _ ?side1 ?side2 ?side3 ?side4 ?side5 ?side6 A4.out).mono ?_); (case side1 => exact cq (Kd.C_below HR0_0.out HB.out)); (case side2 => exact HC0_0.out); (case side3 => exact cq (Kd.C_below HR1.out HB.out)); (case side4 => exact HC1.out); (case side5 => exact cq (Kd.C_below HR2.out HB.out)); (case side6 => exact HC2.out); rintro e w11 ⟨rfl, hb⟩; refine ⟨_, rfl, ?_⟩; replace BK162 := am (blk_below (g := gb162) (o := .cells #[.slice A0_0 l0_0.length c0_0] 33 (0, 0)) (kq BK162.out) hb); replace HB := am (below_step (Y24) hb); (try clear hb); (try clear hb2); (try clear hk); (try clear hi)))
    replace BK162 := am (blk_drew BK162.out)
    replace HB := am (below_drew1 HB.out)
    refine start_ (n := 11) (S := fun w' => w'.cell? ⟨gb162, 0, none⟩ = some (.slice A0_0 l0_0.length c0_0)) (ds := []) #[false, false, false, false, false, false, false, false, false, false, false] (by kernel_rfl) rfl rfl ((blk_cell BK162.out 0).trans rfl) (fun hHeld => ?_); refine with_tabW spec_ThenProgram.tab3 spec_ThenProgram.bits3 (fun HT_ HW_ => ?_)
    generalize w11.drew = w12 at BK162 HB hHeld ⊢
    refine pq (i := 2) (N := some 15) #[false, false, true, false, false, false, false, false, false, false, false] ?_
    refine pq (i := 4) (N := some 17) #[false, false, true, false, true, false, false, false, false, false, false] ?_
    refine take_ (i := 0) (N := some 13) (v := ?_) (a' := ?_) #[true, false, true, false, true, false, false, false, false, false, false] rfl rfl (take_ofW HT_.out HW_.out (by kernel_rfl)) (fun _ _ _ h => h) (Or.inl ⟨by rfl, ?_⟩) hHeld ?_ ?_
    rotate_left
    ·intro w' s0
     go_simp
     with_reducible rfl
    rotate_left
    ·exact sa
    refine one_ (i := 1) (N := some 14) #[true, true, true, false, true, false, false, false, false, false, false] rfl rfl (one_of HT_.out (by kernel_rfl)) (by decide) (fun K hK => ?_)
    refine Kd.R_lit_step k50 _ 50 ?hg (N := 14) ?hd (xs := ([] : List (S50))) (inner := []) (ok := fun _ => True) (okp := fun _ => True) ?hr ?hp (fun _ hk => hk) trivial (Below.refl _ _) (Nat.le_refl _) (by simp) ?_; (case hd => rfl); (case hg => rfl); (case hr => exact Y4); (case hp => exact (Reps.none _ _))
    intro v165 w13 ho14 hb hg_ hnew_
    clear hg_ hnew_
    (first | rw [← Ny164.out] at ho14 | (simp only [Int.reduceToNat] at ho14; rw [← Ny164.out] at ho14))
    have HO166 := am (Kd.R_lower ho14 (below_size (Y24)))
    replace BK162 := am (blk_below (g := gb162) (o := .cells #[.slice A0_0 l0_0.length c0_0] 33 (0, 0)) (kq BK162.out) hb)
    replace HB := am (below_step (Y24) hb)
    clear hb ho14
    refine hK.out _ _ ((blk_cell BK162.out 0).trans rfl) (fun hHeld => ?_)
    clear hK K
    refine norm_ (a' := ?_) ?_ ?_
    rotate_left
    ·show Act.put _ (some 14) _ = _
     simp only [Act.put, List.setIfInBounds_toArray, List.set_cons_zero, List.set_cons_succ, i64_w, i32_w]
     rfl
    refine one_ (i := 3) (N := some 16) #[true, true, true, true, true, false, false, false, false, false, false] rfl rfl (one_of HT_.out (by kernel_rfl)) (by decide) (fun K hK => ?_)
    refine Kd.R_append_rows_step k50 (w0 := w) w.heap.size (by rfl) (.tmp 14) (.tmp 15) 28 50 (.agg #[(.int .i64 0), (.int .i64 0), (.int .i64 0), (.int .i64 0)]) 32 rfl Try.underlying28 info50 rfl (by decide) (by omega) v165 y164 l1 _ _ _ (fun _ => True) (fun _ => False) rfl rfl ?aO ?aR (fun _ _ h => h) (fun _ h => h.elim) ?aF ?aB ?aS ?aL ?_
    (case aR => repeat (first | exact (Kd.C_below HR1.out HB.out) | (with_reducible refine Kd.C_alloc ?_ _) | (with_reducible refine Kd.C_drewN ?_ _) | (with_reducible refine Kd.C_drew ?_)))
    (case aB => exact (Y24))
    (case aF => exact (fun _ _ => trivial))
    (case aO => exact (rq HO166.out))
    (case aS => exact (below_size (Y24)))
    (case aL => have := LMc6.out; omega)
    intro v168 w15 ho hb hg hat
    rw [← Ny167.out] at ho
    have n0_ := am (blk_grown (g := gb162) (o := .cells #[.slice A0_0 l0_0.length c0_0] 33 (0, 0)) (kq BK162.out) hg (Kd.R_ne HO166.out BK162.out (by decide)))
    have n1_ := am (hb)
    have n2_ := am (ho)
    clear BK162
    clear HB
    clear HO166
    have BK162 := n0_
    have HB := n1_
    have HO169 := n2_
    clear n0_ n1_ n2_
    clear ho hb hg hat
    refine hK.out _ _ ((blk_cell BK162.out 0).trans rfl) (fun hHeld => ?_)
    clear hK K
    refine norm_ (a' := ?_) ?_ ?_
    rotate_left
    ·show Act.put _ (some 16) _ = _
     simp only [Act.put, List.setIfInBounds_toArray, List.set_cons_zero, List.set_cons_succ, i64_w, i32_w]
     rfl
    refine one_ (i := 5) (N := some 18) #[true, true, true, true, true, true, false, false, false, false, false] rfl rfl (one_of HT_.out (by kernel_rfl)) (by decide) (fun K hK => ?_)
    refine Kd.R_append_rows_step k50 (w0 := w) w.heap.size (by rfl) (.tmp 16) (.tmp 17) 28 50 (.agg #[(.int .i64 0), (.int .i64 0), (.int .i64 0), (.int .i64 0)]) 32 rfl Try.underlying28 info50 rfl (by decide) (by omega) v168 y167 l2 _ _ _ (fun _ => True) (fun _ => False) rfl rfl ?aO ?aR (fun _ _ h => h) (fun _ h => h.elim) ?aF ?aB ?aS ?aL ?_
    (case aR => repeat (first | exact (Kd.C_below HR2.out HB.out) | (with_reducible refine Kd.C_alloc ?_ _) | (with_reducible refine Kd.C_drewN ?_ _) | (with_reducible refine Kd.C_drew ?_)))
    (case aB => exact (Y24))
    (case aF => exact (fun _ _ => trivial))
    (case aO => exact (rq HO169.out))
    (case aS => exact (below_size (Y24)))
    (case aL => have := LMc7.out; omega)
    intro v171 w16 ho hb hg hat
    rw [← Ny170.out] at ho
    have n0_ := am (blk_grown (g := gb162) (o := .cells #[.slice A0_0 l0_0.length c0_0] 33 (0, 0)) (kq BK162.out) hg (Kd.R_ne HO169.out BK162.out (by decide)))
    have n1_ := am (hb)
    have n2_ := am (ho)
    clear BK162
    clear HB
    clear HO169
    have BK162 := n0_
    have HB := n1_
    have HO172 := n2_
    clear n0_ n1_ n2_
    clear ho hb hg hat
    obtain ⟨Ao17, co17, eo17⟩ := Kd.R_slice HO172.out
    (first | subst eo17 | (injection eo17 with f1_ f2_ f3_; have f4_ := f1_.symm; have f5_ := f3_.symm; clear f1_ f2_ f3_; subst f4_; subst f5_))
    refine hK.out _ _ ((blk_cell BK162.out 0).trans rfl) (fun hHeld => ?_)
    clear hK K
    refine norm_ (a' := ?_) ?_ ?_
    rotate_left
    ·show Act.put _ (some 18) _ = _
     simp only [Act.put, List.setIfInBounds_toArray, List.set_cons_zero, List.set_cons_succ, i64_w, i32_w]
     rfl
    refine one_ (i := 6) (N := some 19) #[true, true, true, true, true, true, true, false, false, false, false] rfl rfl (one_of HT_.out (by kernel_rfl)) (by decide) (fun K hK => ?_)
    refine goes_ Try.func26 (by kernel_rfl) rfl #[.agg #[.slice A0_0 l0_0.length c0_0], .slice Ao17 y170.length co17] (by rfl) rfl rfl (aq) ?_
    with_reducible refine (spec_checkedProgram.calls k _ _ l0_0 (fun k_ => some k_ = (.slice Ao17 y170.length co17 : Value).ownBlock) (.slice Ao17 y170.length co17) y170 t173 t176 w _ ?side1 ?side2 ?side3 ?side4 A8.out).mono ?_
    (case side1 => exact Y24)
    (case side2 => exact Kd.C_kept_came k63_heap HR0_0.out (Y24) (fun k_ hs_ => (fun e_ => Kd.R_base HO172.out k_ e_.symm) hs_))
    (case side3 => exact HC0_0.out)
    (case side4 => exact Kd.R_tight rfl HO172.out)
    rintro e w18 ⟨v174, rfl, ho0, hb, hkp⟩
    refine ⟨_, rfl, ?_⟩
    have n0_ := am (blk_kept (kq BK162.out) hkp (fun hs_ => (fun e_ => (Kd.R_ne HO172.out BK162.out (by decide)) e_) hs_))
    have n1_ := am (Kd.R_mono (ok' := fun k_ => True) ho0 (fun k_ hk_ => trivial))
    have n2_ := am (hb)
    clear BK162
    clear HB
    clear HO172
    have BK162 := n0_
    have HO175 := n1_
    have HB := n2_
    clear n0_ n1_ n2_
    (try clear hb)
    (try clear hkp)
    (try clear ho0)
    refine hK.out _ _ ((blk_cell BK162.out 0).trans rfl) (fun hHeld => ?_)
    clear hK K
    refine norm_ (a' := ?_) ?_ ?_
    rotate_left
    ·show Act.put _ (some 19) _ = _
     simp only [Act.put, List.setIfInBounds_toArray, List.set_cons_zero, List.set_cons_succ, i64_w, i32_w]
     rfl
    refine pq (i := 7) (N := some 20) #[true, true, true, true, true, true, true, true, false, false, false] ?_
    refine pq (i := 8) (N := some 21) #[true, true, true, true, true, true, true, true, true, false, false] ?_
    refine pq (i := 9) (N := some 6) #[true, true, true, true, true, true, true, true, true, true, false] ?_
    refine pq (i := 10) (N := some 7) #[true, true, true, true, true, true, true, true, true, true, true] ?_
    refine done_ (done_of HT_.out (by kernel_rfl)) ?_
    try go_wp2
    go_ret2
    exact ⟨_, Y1, rq HO175.out, Y24⟩
   ·rw [if_neg c7] at H
    exact absurd H (by simp)
  ·rw [if_neg c6] at H
   exact absurd H (by simp)
 ·replace c5 := Bool.eq_false_iff.mpr c5
  subst c5
  have H1 : (some (([] : List (S50)), false)) = some (r1, r2) := by rw [if_neg (show ¬ (false = true) by decide)] at H; exact H
  clear H
  have H := H1
  clear H1
  simp only [Option.some.injEq, Prod.mk.injEq] at H
  obtain ⟨rfl, rfl⟩ := H
  go_enter Try.func9, Try.ntmps9
  go_wp2_with (first | ((with_reducible refine gate_dst (N := 3) rfl ?_); refine bE (N := 3) (cs := #[.slice A0_0 l0_0.length c0_0]) (t := 33) ?_; intro gb162 hg w19 hbox hb; have BK162 := am (hbox); have GW162 := am ((Y0 : w.heap.size ≤ gb162)); have GE162 := am ((Y0 : w.heap.size ≤ gb162)); replace HB := am (below_step (bq) hb); clear hb hbox hg; have hcz20_0 := bc0 BK162.out; have hfz20_0 := blk_frozen BK162.out 0) | ((with_reducible refine gate_callee (f := 25) rfl ?_); refine gL (some 11) Try.func25 #[.agg #[.slice A0_0 l0_0.length c0_0], .slice A1 l1.length c1, .slice A2 l2.length c2] ?_; (with_reducible refine (spec_both.calls k _ _ l0_0 _ _ l1 _ _ l2 false _ ?side1 ?side2 ?side3 ?side4 ?side5 ?side6 A4.out).mono ?_); (case side1 => exact cq (Kd.C_below HR0_0.out HB.out)); (case side2 => exact HC0_0.out); (case side3 => exact cq (Kd.C_below HR1.out HB.out)); (case side4 => exact HC1.out); (case side5 => exact cq (Kd.C_below HR2.out HB.out)); (case side6 => exact HC2.out); rintro e w21 ⟨rfl, hb⟩; refine ⟨_, rfl, ?_⟩; replace BK162 := am (blk_below (g := gb162) (o := .cells #[.slice A0_0 l0_0.length c0_0] 33 (0, 0)) (kq BK162.out) hb); replace HB := am (below_step (Y24) hb); (try clear hb); (try clear hb2); (try clear hk); (try clear hi)))
  go_ret2
  exact ⟨_, Y1, Y28, Y24⟩
def impl_ThenProgram.f (k : Nat) (l0_0 : List (S63)) (l1 : List (S50)) (l2 : List (S50)) : Option ((List (S50)) × Bool) := (impl_bothValid.f k l0_0 l1 l2).bind fun t277 => (if t277 = true then ((slices_Concat_Line.f (([l1, l2] : List (List (S50))))).bind fun t281 => ((impl_programMade.f k l0_0 t281).bind fun bt284 => (some (bt284.1, bt284.2)))) else (some (([] : List (S50)), false)))
def impl_ThenProgram.T3 : Bool × List (List Nat × List Nat) := (true, [([], []), ([], []), ([], []), ([1, 2], [1, 2]), ([3], [3]), ([0, 4, 4], [0, 4]), ([5], [5]), ([5], [5]), ([6, 5, 0, 1, 2, 3, 4, 5, 6, 7], [6]), ([7, 8, 0, 1, 2, 3, 4, 5, 6, 7, 8], [7])])
def impl_ThenProgram.B3 : List Nat := [0, 0, 0, 6, 14, 31, 63, 63, 255, 511]
theorem impl_ThenProgram.tab3 : rtab .any (opsOf Try.f12 3) = impl_ThenProgram.T3 := by kernel_rfl
theorem impl_ThenProgram.bits3 : waitsOk impl_ThenProgram.T3.2 impl_ThenProgram.B3 = true := by kernel_rfl
set_option maxHeartbeats 8000000 in
set_option maxRecDepth 100000 in
theorem impl_ThenProgram.calls (k : Nat) (A0_0 : Option Addr) (c0_0 : Nat) (l0_0 : List (S63)) (P1_ : Nat → Prop) (A1 : Option Addr) (c1 : Nat) (l1 : List (S50)) (P2_ : Nat → Prop) (A2 : Option Addr) (c2 : Nat) (l2 : List (S50)) (r1 : List (S50)) (r2 : Bool) (w : World) (hr0_0 : Kd.C k63 w A0_0 l0_0.length l0_0) (hc0_0 : l0_0.length ≤ c0_0) (hs1 : Kd.V k50 50 w w.heap.size (fun k_ => P1_ k_) (.slice A1 l1.length c1) l1) (hs2 : Kd.V k50 50 w w.heap.size (fun k_ => P2_ k_) (.slice A2 l2.length c2) l2) (h : impl_ThenProgram.f k l0_0 l1 l2 = some (r1, r2)) :
  Calls Try.prog 12 #[.agg #[.slice A0_0 l0_0.length c0_0], .slice A1 l1.length c1, .slice A2 l2.length c2] w fun e w' => ∃ v0_ : Value, e = .returned (.tuple #[v0_, .bool r2]) ∧ Kd.R k50 50 w' w.heap.size (fun k_ => (w.heap.size ≤ k_)) v0_ r1 ∧ Below w.heap.size w w' := by
 have hu33 := Try.underlying33
 have HR0_0 := am hr0_0
 have HC0_0 := am hc0_0
 clear hr0_0 hc0_0
 have HO1 := am (show Kd.V k50 50 w w.heap.size (fun k_ => ((P1_ k_ ∨ P2_ k_) ∨ w.heap.size ≤ k_)) (.slice A1 l1.length c1) l1 from Kd.V_mono hs1 (fun k_ hk => .inl (.inl hk)))
 have HO2 := am (show Kd.V k50 50 w w.heap.size (fun k_ => ((P1_ k_ ∨ P2_ k_) ∨ w.heap.size ≤ k_)) (.slice A2 l2.length c2) l2 from Kd.V_mono hs2 (fun k_ hk => .inl (.inr hk)))
 have HB := am (Below.refl w.heap.size w)
 have H : ((impl_bothValid.f k l0_0 l1 l2).bind fun t277 => (if t277 = true then ((slices_Concat_Line.f (([l1, l2] : List (List (S50))))).bind fun t281 => ((impl_programMade.f k l0_0 t281).bind fun bt284 => (some (bt284.1, bt284.2)))) else (some (([] : List (S50)), false)))) = some (r1, r2) := h
 clear h
 replace H := Option.bind_eq_some_iff.mp H
 obtain ⟨t277, A40, H⟩ := H
 replace H : (if t277 = true then ((slices_Concat_Line.f (([l1, l2] : List (List (S50))))).bind fun t281 => ((impl_programMade.f k l0_0 t281).bind fun bt284 => (some (bt284.1, bt284.2)))) else (some (([] : List (S50)), false))) = some (r1, r2) := H
 have A4 := am A40
 clear A40
 by_cases c5 : t277 = true
 ·subst c5
  have H1 : ((slices_Concat_Line.f (([l1, l2] : List (List (S50))))).bind fun t281 => ((impl_programMade.f k l0_0 t281).bind fun bt284 => (some (bt284.1, bt284.2)))) = some (r1, r2) := by rw [if_pos rfl] at H; exact H
  clear H
  have H := H1
  clear H1
  obtain ⟨y278, hy278⟩ : ∃ y_ : List (List (S50)), y_ = (([l1, l2] : List (List (S50)))) := ⟨_, rfl⟩
  replace H : ((slices_Concat_Line.f y278).bind fun t281 => ((impl_programMade.f k l0_0 t281).bind fun bt284 => (some (bt284.1, bt284.2)))) = some (r1, r2) := by first | (rw [hy278]; with_reducible exact H) | (have H2_ := (Option.bind_some _ _).symm.trans H; rw [hy278]; with_reducible exact H2_) | (have H2_ := (Option.bind_some _ _).symm.trans H; with_reducible exact H2_) | with_reducible exact H | (rw [hy278]; exact H) | exact H
  have Ny278 := am hy278
  clear hy278
  replace H := Option.bind_eq_some_iff.mp H
  obtain ⟨t281, A60, H⟩ := H
  replace H : ((impl_programMade.f k l0_0 t281).bind fun bt284 => (some (bt284.1, bt284.2))) = some (r1, r2) := H
  have A6 := am A60
  clear A60
  replace H := Option.bind_eq_some_iff.mp H
  obtain ⟨⟨t284, t287⟩, A70, H⟩ := H
  replace H : (some (t284, t287)) = some (r1, r2) := H
  have A7 := am A70
  clear A70
  simp only [Option.some.injEq, Prod.mk.injEq] at H
  obtain ⟨rfl, rfl⟩ := H
  go_enter Try.func12, Try.ntmps12
  try go_wp2_with (first | ((with_reducible refine gate_dst (N := 3) rfl ?_); refine bE (N := 3) (cs := #[.slice A0_0 l0_0.length c0_0]) (t := 33) ?_; intro gb276 hg w8 hbox hb; have BK276 := am (hbox); have GW276 := am ((Y0 : w.heap.size ≤ gb276)); have GE276 := am ((Y0 : w.heap.size ≤ gb276)); replace HO1 := am (Kd.V_below (Kd.V_elderB (Y35) gb276 (Nat.le_of_eq hg.symm)) hb); replace HO2 := am (Kd.V_below (Kd.V_elderB (Y36) gb276 (Nat.le_of_eq hg.symm)) hb); replace HB := am (below_step (bq) hb); clear hb hbox hg; have hcz9_0 := bc0 BK276.out; have hfz9_0 := blk_frozen BK276.out 0) | ((with_reducible refine gate_callee (f := 29) rfl ?_); refine gL (some 11) Try.func29 #[.agg #[.slice A0_0 l0_0.length c0_0], .slice A1 l1.length c1, .slice A2 l2.length c2] ?_; (with_reducible refine (impl_bothValid.calls k _ _ l0_0 _ _ l1 _ _ l2 true _ ?side1 ?side2 ?side3 ?side4 ?side5 ?side6 A4.out).mono ?_); (case side1 => exact cq (Kd.C_below HR0_0.out HB.out)); (case side2 => exact HC0_0.out); (case side3 => exact cq (Kd.V_reads' HO1.out).2.2); (case side4 => exact (Kd.V_reads' HO1.out).2.1); (case side5 => exact cq (Kd.V_reads' HO2.out).2.2); (case side6 => exact (Kd.V_reads' HO2.out).2.1); rintro e w10 ⟨rfl, hb⟩; refine ⟨_, rfl, ?_⟩; replace HO1 := am (Kd.V_below (Y35) hb); replace HO2 := am (Kd.V_below (Y36) hb); replace BK276 := am (blk_below (g := gb276) (o := .cells #[.slice A0_0 l0_0.length c0_0] 33 (0, 0)) (kq BK276.out) hb); replace HB := am (below_step (Y21) hb); (try clear hb); (try clear hb2); (try clear hk); (try clear hi)))
  replace HO1 := am (Kd.V_drew HO1.out)
  replace HO2 := am (Kd.V_drew HO2.out)
  replace BK276 := am (blk_drew BK276.out)
  replace HB := am (below_drew1 HB.out)
  refine start_ (n := 10) (S := fun w' => w'.cell? ⟨gb276, 0, none⟩ = some (.slice A0_0 l0_0.length c0_0)) (ds := []) #[false, false, false, false, false, false, false, false, false, false] (by kernel_rfl) rfl rfl ((blk_cell BK276.out 0).trans rfl) (fun hHeld => ?_); refine with_tabW impl_ThenProgram.tab3 impl_ThenProgram.bits3 (fun HT_ HW_ => ?_)
  generalize w10.drew = w11 at HO1 HO2 BK276 HB hHeld ⊢
  refine pq (i := 1) (N := some 14) #[false, true, false, false, false, false, false, false, false, false] ?_
  refine pq (i := 2) (N := some 15) #[false, true, true, false, false, false, false, false, false, false] ?_
  refine take_ (i := 0) (N := some 13) (v := ?_) (a' := ?_) #[true, true, true, false, false, false, false, false, false, false] rfl rfl (take_ofW HT_.out HW_.out (by kernel_rfl)) (fun _ _ _ h => h) (Or.inl ⟨by rfl, ?_⟩) hHeld ?_ ?_
  rotate_left
  ·intro w' s0
   go_simp
   with_reducible rfl
  rotate_left
  ·exact sa
  refine one_ (i := 3) (N := some 16) #[true, true, true, true, false, false, false, false, false, false] rfl rfl (one_of HT_.out (by kernel_rfl)) (by decide) (fun K hK => ?_)
  refine Kd.N_lit_step (Kd.slice 50 k50) _ 28 ?hg (N' := 16) ?hd (xs := ([l1, l2] : List (List (S50)))) (inner := [.slice A1 l1.length c1, .slice A2 l2.length c2]) (ok := (fun k_ => ((P1_ k_ ∨ P2_ k_) ∨ w.heap.size ≤ k_) ∧ k_ ≠ gb276)) (okp := (fun k_ => ((P1_ k_ ∨ P2_ k_) ∨ w.heap.size ≤ k_) ∧ k_ ≠ gb276)) ?hr ?hp (fun _ hk => hk) ((show ∀ k_, w11.heap.size ≤ k_ → (fun k_ => ((P1_ k_ ∨ P2_ k_) ∨ w.heap.size ≤ k_) ∧ k_ ≠ gb276) k_ from fun k_ hk => ⟨(.inr (Nat.le_trans (below_size (Y21)) hk)), Kd.freshB (g := gb276) (o := .cells #[.slice A0_0 l0_0.length c0_0] 33 (0, 0)) (kq BK276.out) k_ hk⟩) _ (Nat.le_refl _)) (Below.refl _ _) (Nat.le_refl _) (by simp) ?_; (case hd => rfl); (case hg => rfl); (case hr => exact Y4); (case hp => exact (Reps.one (show Kd.FK (Kd.slice 50 k50) _ _ l1 [.slice A1 l1.length c1] from (Kd.FK_slice_mk (Kd.V_reads' (Kd.V_mono (ok' := (fun k_ => ((P1_ k_ ∨ P2_ k_) ∨ w.heap.size ≤ k_) ∧ k_ ≠ gb276)) (HO1.out) (fun k_ hk => ⟨hk.1, hk.2⟩))).2.1 (Kd.V_F (Kd.V_mono (ok' := (fun k_ => ((P1_ k_ ∨ P2_ k_) ∨ w.heap.size ≤ k_) ∧ k_ ≠ gb276)) (HO1.out) (fun k_ hk => ⟨hk.1, hk.2⟩))))) (Reps.one (show Kd.FK (Kd.slice 50 k50) _ _ l2 [.slice A2 l2.length c2] from (Kd.FK_slice_mk (Kd.V_reads' (Kd.V_mono (ok' := (fun k_ => ((P1_ k_ ∨ P2_ k_) ∨ w.heap.size ≤ k_) ∧ k_ ≠ gb276)) (HO2.out) (fun k_ hk => ⟨hk.1, hk.2⟩))).2.1 (Kd.V_F (Kd.V_mono (ok' := (fun k_ => ((P1_ k_ ∨ P2_ k_) ∨ w.heap.size ≤ k_) ∧ k_ ≠ gb276)) (HO2.out) (fun k_ hk => ⟨hk.1, hk.2⟩))))) (Reps.none _ _))))
  intro v279 w12 ho13 hb hg_ hnew_
  clear hg_ hnew_
  (first | rw [← Ny278.out] at ho13 | (simp only [Int.reduceToNat] at ho13; rw [← Ny278.out] at ho13))
  have HO280 := am (Kd.N_lower ho13 (below_size (Y21)))
  replace HO1 := am (Kd.V_elder' (Y35) (Kd.N_base ho13) hb)
  replace HO2 := am (Kd.V_elder' (Y36) (Kd.N_base ho13) hb)
  replace BK276 := am (blk_below (g := gb276) (o := .cells #[.slice A0_0 l0_0.length c0_0] 33 (0, 0)) (kq BK276.out) hb)
  replace HB := am (below_step (Y21) hb)
  clear hb ho13
  obtain ⟨Ao14, co14, eo14⟩ := Kd.N_slice HO280.out
  (first | subst eo14 | (injection eo14 with f1_ f2_ f3_; have f4_ := f1_.symm; have f5_ := f3_.symm; clear f1_ f2_ f3_; subst f4_; subst f5_))
  refine hK.out _ _ ((blk_cell BK276.out 0).trans rfl) (fun hHeld => ?_)
  clear hK K
  refine norm_ (a' := ?_) ?_ ?_
  rotate_left
  ·show Act.put _ (some 16) _ = _
   simp only [Act.put, List.setIfInBounds_toArray, List.set_cons_zero, List.set_cons_succ, i64_w, i32_w]
   rfl
  refine one_ (i := 4) (N := some 17) #[true, true, true, true, true, false, false, false, false, false] rfl rfl (one_of HT_.out (by kernel_rfl)) (by decide) (fun K hK => ?_)
  refine goes_ Try.func31 (by kernel_rfl) rfl #[.slice Ao14 y278.length co14] (by rfl) rfl rfl (aq) ?_
  with_reducible refine (slices_Concat_Line.calls _ _ y278 t281 _ ?side1 ?side2 A6.out).mono ?_
  (case side1 => exact cq (Kd.N_reads' HO280.out).2.2)
  (case side2 => exact (Kd.N_reads' HO280.out).2.1)
  rintro e w15 ⟨v282, rfl, ho0, hb⟩
  refine ⟨_, rfl, ?_⟩
  have HO283 := am (Kd.R_lower (Kd.R_newM (M := fun k_ => (w.heap.size ≤ k_)) ho0 (below_size (Y21)) (fun k_ h_ => h_)) (below_size (Y21)))
  replace HO1 := am (Kd.V_elder' (Y35) (Kd.R_base ho0) hb)
  replace HO2 := am (Kd.V_elder' (Y36) (Kd.R_base ho0) hb)
  replace HO280 := am (Kd.N_elder' (by (with_reducible repeat (first | apply Kd.N_alloc | apply Kd.N_drewN | apply Kd.N_drew)); exact HO280.out) (Kd.R_base ho0) hb)
  replace BK276 := am (blk_below (g := gb276) (o := .cells #[.slice A0_0 l0_0.length c0_0] 33 (0, 0)) (kq BK276.out) hb)
  replace HB := am (below_step (Y21) hb)
  (try clear hb)
  (try clear hb2)
  (try clear hk)
  (try clear hi)
  (try clear ho0)
  obtain ⟨Ao16, co16, eo16⟩ := Kd.R_slice HO283.out
  (first | subst eo16 | (injection eo16 with f1_ f2_ f3_; have f4_ := f1_.symm; have f5_ := f3_.symm; clear f1_ f2_ f3_; subst f4_; subst f5_))
  refine hK.out _ _ ((blk_cell BK276.out 0).trans rfl) (fun hHeld => ?_)
  clear hK K
  refine norm_ (a' := ?_) ?_ ?_
  rotate_left
  ·show Act.put _ (some 17) _ = _
   simp only [Act.put, List.setIfInBounds_toArray, List.set_cons_zero, List.set_cons_succ, i64_w, i32_w]
   rfl
  refine one_ (i := 5) (N := some 18) #[true, true, true, true, true, true, false, false, false, false] rfl rfl (one_of HT_.out (by kernel_rfl)) (by decide) (fun K hK => ?_)
  refine goes_ Try.func30 (by kernel_rfl) rfl #[.agg #[.slice A0_0 l0_0.length c0_0], .slice Ao16 t281.length co16] (by rfl) rfl rfl (aq) ?_
  with_reducible refine (impl_programMade.calls k _ _ l0_0 (fun k_ => some k_ = (.slice Ao16 t281.length co16 : Value).ownBlock) (.slice Ao16 t281.length co16) t281 t284 t287 w _ ?side1 ?side2 ?side3 ?side4 A7.out).mono ?_
  (case side1 => exact Y21)
  (case side2 => exact Kd.C_kept_came k63_heap HR0_0.out (Y21) (fun k_ hs_ => (fun e_ => Kd.R_base HO283.out k_ e_.symm) hs_))
  (case side3 => exact HC0_0.out)
  (case side4 => exact Kd.R_tight rfl HO283.out)
  rintro e w17 ⟨v285, rfl, ho0, hb, hkp⟩
  refine ⟨_, rfl, ?_⟩
  have n0_ := am (Kd.V_mono (ok' := fun k_ => ((P1_ k_ ∨ P2_ k_) ∨ w.heap.size ≤ k_) ∧ some k_ ≠ (.slice Ao14 y278.length co14 : Value).ownBlock ∧ k_ ≠ gb276 ∧ some k_ ≠ (v285 : Value).ownBlock) (Kd.V_keptB (HO1.out) hkp (fun k_ hk_ hs_ => (hk_.2) hs_)) (fun k_ hk_ => ⟨hk_.1.1.1.1, hk_.1.1.2, hk_.1.1.1.2, fun e_ => Or.elim (ho0.1 k_ e_.symm) (fun hs_ => hk_.2.1 hs_) (fun hn_ => Nat.not_le.2 hk_.2.2 hn_)⟩))
  have n1_ := am (Kd.V_mono (ok' := fun k_ => ((P1_ k_ ∨ P2_ k_) ∨ w.heap.size ≤ k_) ∧ some k_ ≠ (.slice Ao14 y278.length co14 : Value).ownBlock ∧ k_ ≠ gb276 ∧ some k_ ≠ (v285 : Value).ownBlock) (Kd.V_keptB (HO2.out) hkp (fun k_ hk_ hs_ => (hk_.2) hs_)) (fun k_ hk_ => ⟨hk_.1.1.1.1, hk_.1.1.2, hk_.1.1.1.2, fun e_ => Or.elim (ho0.1 k_ e_.symm) (fun hs_ => hk_.2.1 hs_) (fun hn_ => Nat.not_le.2 hk_.2.2 hn_)⟩))
  have n2_ := am (blk_kept (kq BK276.out) hkp (fun hs_ => (fun e_ => (Kd.R_ne HO283.out BK276.out (by decide)) e_) hs_))
  have n3_ := am (Kd.N_mono (ok' := fun k_ => ((P1_ k_ ∨ P2_ k_) ∨ w.heap.size ≤ k_) ∧ k_ ≠ gb276 ∧ some k_ ≠ (v285 : Value).ownBlock) (Kd.N_keptB (HO280.out) hkp (fun k_ hk_ hs_ => (hk_.2) hs_)) (fun k_ hk_ => ⟨hk_.1.1.1, hk_.1.1.2, fun e_ => Or.elim (ho0.1 k_ e_.symm) (fun hs_ => hk_.2.1 hs_) (fun hn_ => Nat.not_le.2 hk_.2.2 hn_)⟩))
  have n4_ := am (Kd.R_mono (ok' := fun k_ => (w.heap.size ≤ k_)) ho0 (fun k_ hk_ => Or.elim hk_ (fun hs_ => (HO283.out.1 k_ (hs_).symm).1) (fun hn_ => (Nat.le_trans (below_size (Y21)) hn_))))
  have n5_ := am (hb)
  clear HO1
  clear HO2
  clear BK276
  clear HO280
  clear HB
  clear HO283
  have HO1 := n0_
  have HO2 := n1_
  have BK276 := n2_
  have HO280 := n3_
  have HO286 := n4_
  have HB := n5_
  clear n0_ n1_ n2_ n3_ n4_ n5_
  (try clear hb)
  (try clear hkp)
  (try clear ho0)
  refine hK.out _ _ ((blk_cell BK276.out 0).trans rfl) (fun hHeld => ?_)
  clear hK K
  refine norm_ (a' := ?_) ?_ ?_
  rotate_left
  ·show Act.put _ (some 18) _ = _
   simp only [Act.put, List.setIfInBounds_toArray, List.set_cons_zero, List.set_cons_succ, i64_w, i32_w]
   rfl
  refine pq (i := 6) (N := some 19) #[true, true, true, true, true, true, true, false, false, false] ?_
  refine pq (i := 7) (N := some 20) #[true, true, true, true, true, true, true, true, false, false] ?_
  refine pq (i := 8) (N := some 6) #[true, true, true, true, true, true, true, true, true, false] ?_
  refine pq (i := 9) (N := some 7) #[true, true, true, true, true, true, true, true, true, true] ?_
  refine done_ (done_of HT_.out (by kernel_rfl)) ?_
  try go_wp2
  go_ret2
  exact ⟨_, Y1, rq HO286.out, Y21⟩
 ·replace c5 := Bool.eq_false_iff.mpr c5
  subst c5
  have H1 : (some (([] : List (S50)), false)) = some (r1, r2) := by rw [if_neg (show ¬ (false = true) by decide)] at H; exact H
  clear H
  have H := H1
  clear H1
  simp only [Option.some.injEq, Prod.mk.injEq] at H
  obtain ⟨rfl, rfl⟩ := H
  go_enter Try.func12, Try.ntmps12
  go_wp2_with (first | ((with_reducible refine gate_dst (N := 3) rfl ?_); refine bE (N := 3) (cs := #[.slice A0_0 l0_0.length c0_0]) (t := 33) ?_; intro gb276 hg w18 hbox hb; have BK276 := am (hbox); have GW276 := am ((Y0 : w.heap.size ≤ gb276)); have GE276 := am ((Y0 : w.heap.size ≤ gb276)); replace HO1 := am (Kd.V_below (Kd.V_elderB (Y35) gb276 (Nat.le_of_eq hg.symm)) hb); replace HO2 := am (Kd.V_below (Kd.V_elderB (Y36) gb276 (Nat.le_of_eq hg.symm)) hb); replace HB := am (below_step (bq) hb); clear hb hbox hg; have hcz19_0 := bc0 BK276.out; have hfz19_0 := blk_frozen BK276.out 0) | ((with_reducible refine gate_callee (f := 29) rfl ?_); refine gL (some 11) Try.func29 #[.agg #[.slice A0_0 l0_0.length c0_0], .slice A1 l1.length c1, .slice A2 l2.length c2] ?_; (with_reducible refine (impl_bothValid.calls k _ _ l0_0 _ _ l1 _ _ l2 false _ ?side1 ?side2 ?side3 ?side4 ?side5 ?side6 A4.out).mono ?_); (case side1 => exact cq (Kd.C_below HR0_0.out HB.out)); (case side2 => exact HC0_0.out); (case side3 => exact cq (Kd.V_reads' HO1.out).2.2); (case side4 => exact (Kd.V_reads' HO1.out).2.1); (case side5 => exact cq (Kd.V_reads' HO2.out).2.2); (case side6 => exact (Kd.V_reads' HO2.out).2.1); rintro e w20 ⟨rfl, hb⟩; refine ⟨_, rfl, ?_⟩; replace HO1 := am (Kd.V_below (Y35) hb); replace HO2 := am (Kd.V_below (Y36) hb); replace BK276 := am (blk_below (g := gb276) (o := .cells #[.slice A0_0 l0_0.length c0_0] 33 (0, 0)) (kq BK276.out) hb); replace HB := am (below_step (Y21) hb); (try clear hb); (try clear hb2); (try clear hk); (try clear hi)))
  go_ret2
  exact ⟨_, Y1, Y28, Y21⟩
mutual
def laws_FnExactThenProgram.j0 : Nat → List (S52) → List (S52) → List (S50) → Bool → List (S50) → List (S50) → List (S50) → Bool → Bool → List (S62) → List (S63) → Option (Bool)
 | 0, _, _, _, _, _, _, _, _, _, _, _ => none
 | k + 1, x1, x2, x8, x9, x11, x12, x13, x14, x66, x319000, x339000 => if x66 = true then (some false) else ((laws_toTree.f k x319000).bind fun t350 => ((laws_eqTree.f k x339000 t350).bind fun t353 => (if t353 = true then ((laws_toLineS.f k x1).bind fun t354 => ((laws_eqLineS.f k x11 t354).bind fun t357 => (if t357 = true then ((laws_toLineS.f k x2).bind fun t358 => ((laws_eqLineS.f k x12 t358).bind fun t361 => (if t361 = true then ((laws_markTree.f k x339000 1).bind fun bt362 => ((laws_markLineS.f k x11 bt362.1).bind fun bt364 => ((laws_markLineS.f k x12 bt364.1).bind fun bt366 => (if bt366.1 < 0 then (laws_FnExactThenProgram.j1 k x1 x2 x8 x9 x13 true x319000) else ((laws_eqLineS.f k x13 x8).bind fun t368 => (if t368 = true then (laws_FnExactThenProgram.j1 k x1 x2 x8 x9 x13 (x14 != x9) x319000) else (laws_FnExactThenProgram.j1 k x1 x2 x8 x9 x13 true x319000))))))) else (some false)))) else (some false)))) else (some false))))
def laws_FnExactThenProgram.j1 : Nat → List (S52) → List (S52) → List (S50) → Bool → List (S50) → Bool → List (S62) → Option (Bool)
 | 0, _, _, _, _, _, _, _ => none
 | k + 1, x1, x2, x8, x9, x13, x103, x319000 => if x103 = true then (some false) else ((laws_markLineS.f k x13 1).bind fun bt369 => ((laws_heldLineS.f k bt369.2 1).bind fun t371 => (if t371 < 0 then (some false) else (if t371 = bt369.1 then ((laws_toTree.f k x319000).bind fun t372 => ((laws_toLineS.f k x1).bind fun t375 => ((laws_toLineS.f k x2).bind fun t378 => ((impl_ThenProgram.f k t372 t375 t378).bind fun bt381 => ((laws_eqLineS.f k bt381.1 x8).bind fun t385 => (if t385 = true then (laws_FnExactThenProgram.j2 k bt369.2 bt369.1 (bt381.2 != x9)) else (laws_FnExactThenProgram.j2 k bt369.2 bt369.1 true))))))) else (some false)))))
def laws_FnExactThenProgram.j2 : Nat → List (S50) → Int → Bool → Option (Bool)
 | 0, _, _, _ => none
 | k + 1, x13, x16, x133 => if x133 = true then (some false) else ((laws_heldLineS.f k x13 1).bind fun t386 => (if t386 < 0 then (some false) else (if t386 = x16 then (some true) else (some false))))
end
def laws_FnExactThenProgram.f (k : Nat) (l0_0 : List (S62)) (l1 : List (S52)) (l2 : List (S52)) : Option (Bool) := (laws_szTree.f k l0_0 1048576).bind fun t319 => (if t319 < 0 then (some true) else ((laws_szLineS.f l1 t319).bind fun t320 => (if t320 < 0 then (some true) else ((laws_szLineS.f l2 t320).bind fun t321 => (if t321 < 0 then (some true) else ((laws_toTree.f k l0_0).bind fun t322 => ((laws_toLineS.f k l1).bind fun t325 => ((laws_toLineS.f k l2).bind fun t328 => ((spec_ThenProgram.f k t322 t325 t328).bind fun bt331 => ((laws_toTree.f k l0_0).bind fun t335 => ((laws_toLineS.f k l1).bind fun t339 => ((laws_toLineS.f k l2).bind fun t342 => ((impl_ThenProgram.f k t335 t339 t342).bind fun bt345 => ((laws_eqLineS.f k bt345.1 bt331.1).bind fun t349 => (if t349 = true then (laws_FnExactThenProgram.j0 k l1 l2 bt331.1 bt331.2 t339 t342 bt345.1 bt345.2 (bt345.2 != bt331.2) l0_0 t335) else (laws_FnExactThenProgram.j0 k l1 l2 bt331.1 bt331.2 t339 t342 bt345.1 bt345.2 true l0_0 t335))))))))))))))))
set_option maxHeartbeats 8000000 in
set_option maxRecDepth 100000 in
theorem laws_FnExactThenProgram.calls (k : Nat) (A0_0 : Option Addr) (c0_0 : Nat) (l0_0 : List (S62)) (A1 : Option Addr) (c1 : Nat) (l1 : List (S52)) (A2 : Option Addr) (c2 : Nat) (l2 : List (S52)) (r : Bool) (w : World) (hr0_0 : Kd.C k62 w A0_0 l0_0.length l0_0) (hc0_0 : l0_0.length ≤ c0_0) (hr1 : Kd.C k52 w A1 l1.length l1) (hc1 : l1.length ≤ c1) (hr2 : Kd.C k52 w A2 l2.length l2) (hc2 : l2.length ≤ c2) (hT : r = true) (h : laws_FnExactThenProgram.f k l0_0 l1 l2 = some r) :
  Calls Try.prog 3 #[.agg #[.slice A0_0 l0_0.length c0_0], .slice A1 l1.length c1, .slice A2 l2.length c2] w fun e w' => e = .returned (.bool r) ∧ Below w.heap.size w w' := by
 have hu24 := Try.underlying24
 have hu33 := Try.underlying33
 have HR0_0 := am hr0_0
 have HC0_0 := am hc0_0
 clear hr0_0 hc0_0
 have HR1 := am hr1
 have HC1 := am hc1
 clear hr1 hc1
 have HR2 := am hr2
 have HC2 := am hc2
 clear hr2 hc2
 have HB := am (Below.refl w.heap.size w)
 have H : ((laws_szTree.f k l0_0 1048576).bind fun t319 => (if t319 < 0 then (some true) else ((laws_szLineS.f l1 t319).bind fun t320 => (if t320 < 0 then (some true) else ((laws_szLineS.f l2 t320).bind fun t321 => (if t321 < 0 then (some true) else ((laws_toTree.f k l0_0).bind fun t322 => ((laws_toLineS.f k l1).bind fun t325 => ((laws_toLineS.f k l2).bind fun t328 => ((spec_ThenProgram.f k t322 t325 t328).bind fun bt331 => ((laws_toTree.f k l0_0).bind fun t335 => ((laws_toLineS.f k l1).bind fun t339 => ((laws_toLineS.f k l2).bind fun t342 => ((impl_ThenProgram.f k t335 t339 t342).bind fun bt345 => ((laws_eqLineS.f k bt345.1 bt331.1).bind fun t349 => (if t349 = true then (laws_FnExactThenProgram.j0 k l1 l2 bt331.1 bt331.2 t339 t342 bt345.1 bt345.2 (bt345.2 != bt331.2) l0_0 t335) else (laws_FnExactThenProgram.j0 k l1 l2 bt331.1 bt331.2 t339 t342 bt345.1 bt345.2 true l0_0 t335))))))))))))))))) = some r := h
 clear h
 replace H := Option.bind_eq_some_iff.mp H
 obtain ⟨t319, A40, H⟩ := H
 replace H : (if t319 < 0 then (some true) else ((laws_szLineS.f l1 t319).bind fun t320 => (if t320 < 0 then (some true) else ((laws_szLineS.f l2 t320).bind fun t321 => (if t321 < 0 then (some true) else ((laws_toTree.f k l0_0).bind fun t322 => ((laws_toLineS.f k l1).bind fun t325 => ((laws_toLineS.f k l2).bind fun t328 => ((spec_ThenProgram.f k t322 t325 t328).bind fun bt331 => ((laws_toTree.f k l0_0).bind fun t335 => ((laws_toLineS.f k l1).bind fun t339 => ((laws_toLineS.f k l2).bind fun t342 => ((impl_ThenProgram.f k t335 t339 t342).bind fun bt345 => ((laws_eqLineS.f k bt345.1 bt331.1).bind fun t349 => (if t349 = true then (laws_FnExactThenProgram.j0 k l1 l2 bt331.1 bt331.2 t339 t342 bt345.1 bt345.2 (bt345.2 != bt331.2) l0_0 t335) else (laws_FnExactThenProgram.j0 k l1 l2 bt331.1 bt331.2 t339 t342 bt345.1 bt345.2 true l0_0 t335)))))))))))))))) = some r := H
 have A4 := am A40
 clear A40
 by_cases c5 : t319 < 0
 ·rw [if_pos c5] at H
  have c5b0 : decide (t319 < 0) = true := decide_eq_true c5
  clear c5
  obtain rfl := Option.some.inj H
  go_enter Try.func3, Try.ntmps3
  go_wp2_with (first | ((with_reducible refine gate_dst (N := 3) rfl ?_); refine bE (N := 3) (cs := #[.slice A0_0 l0_0.length c0_0]) (t := 24) ?_; intro gb318 hg w6 hbox hb; have BK318 := am (hbox); have GW318 := am ((Y0 : w.heap.size ≤ gb318)); have GE318 := am ((Y0 : w.heap.size ≤ gb318)); replace HB := am (below_step (bq) hb); clear hb hbox hg; have hcz7_0 := bc0 BK318.out; have hfz7_0 := blk_frozen BK318.out 0) | ((with_reducible refine gate_callee (f := 7) rfl ?_); refine gL (some 22) Try.func7 #[.agg #[.slice A0_0 l0_0.length c0_0], .int .i64 1048576] ?_; (with_reducible refine (laws_szTree.calls k _ _ l0_0 1048576 t319 _ ?side1 ?side2 A4.out).mono ?_); (case side1 => exact cq (Kd.C_below HR0_0.out HB.out)); (case side2 => exact HC0_0.out); rintro e w8 ⟨rfl, hb⟩; refine ⟨_, rfl, ?_⟩; replace BK318 := am (blk_below (g := gb318) (o := .cells #[.slice A0_0 l0_0.length c0_0] 24 (0, 0)) (kq BK318.out) hb); replace HB := am (below_step (Y13) hb); (try clear hb); (try clear hb2); (try clear hk); (try clear hi)))
  go_ret
  exact ⟨Y1, Y13⟩
 ·rw [if_neg c5] at H
  have c5b0 : decide (t319 < 0) = false := decide_eq_false c5
  clear c5
  replace H := Option.bind_eq_some_iff.mp H
  obtain ⟨t320, A90, H⟩ := H
  replace H : (if t320 < 0 then (some true) else ((laws_szLineS.f l2 t320).bind fun t321 => (if t321 < 0 then (some true) else ((laws_toTree.f k l0_0).bind fun t322 => ((laws_toLineS.f k l1).bind fun t325 => ((laws_toLineS.f k l2).bind fun t328 => ((spec_ThenProgram.f k t322 t325 t328).bind fun bt331 => ((laws_toTree.f k l0_0).bind fun t335 => ((laws_toLineS.f k l1).bind fun t339 => ((laws_toLineS.f k l2).bind fun t342 => ((impl_ThenProgram.f k t335 t339 t342).bind fun bt345 => ((laws_eqLineS.f k bt345.1 bt331.1).bind fun t349 => (if t349 = true then (laws_FnExactThenProgram.j0 k l1 l2 bt331.1 bt331.2 t339 t342 bt345.1 bt345.2 (bt345.2 != bt331.2) l0_0 t335) else (laws_FnExactThenProgram.j0 k l1 l2 bt331.1 bt331.2 t339 t342 bt345.1 bt345.2 true l0_0 t335)))))))))))))) = some r := H
  have A9 := am A90
  clear A90
  by_cases c10 : t320 < 0
  ·rw [if_pos c10] at H
   have c10b0 : decide (t320 < 0) = true := decide_eq_true c10
   clear c10
   obtain rfl := Option.some.inj H
   go_enter Try.func3, Try.ntmps3
   go_wp2_with (first | ((with_reducible refine gate_dst (N := 3) rfl ?_); refine bE (N := 3) (cs := #[.slice A0_0 l0_0.length c0_0]) (t := 24) ?_; intro gb318 hg w11 hbox hb; have BK318 := am (hbox); have GW318 := am ((Y0 : w.heap.size ≤ gb318)); have GE318 := am ((Y0 : w.heap.size ≤ gb318)); replace HB := am (below_step (bq) hb); clear hb hbox hg; have hcz12_0 := bc0 BK318.out; have hfz12_0 := blk_frozen BK318.out 0) | ((with_reducible refine gate_callee (f := 7) rfl ?_); refine gL (some 22) Try.func7 #[.agg #[.slice A0_0 l0_0.length c0_0], .int .i64 1048576] ?_; (with_reducible refine (laws_szTree.calls k _ _ l0_0 1048576 t319 _ ?side1 ?side2 A4.out).mono ?_); (case side1 => exact cq (Kd.C_below HR0_0.out HB.out)); (case side2 => exact HC0_0.out); rintro e w13 ⟨rfl, hb⟩; refine ⟨_, rfl, ?_⟩; replace BK318 := am (blk_below (g := gb318) (o := .cells #[.slice A0_0 l0_0.length c0_0] 24 (0, 0)) (kq BK318.out) hb); replace HB := am (below_step (Y13) hb); (try clear hb); (try clear hb2); (try clear hk); (try clear hi)) | ((with_reducible refine gate_callee (f := 8) rfl ?_); refine gL (some 27) Try.func8 #[.slice A1 l1.length c1, .int .i64 t319] ?_; (with_reducible refine (laws_szLineS.calls _ _ l1 t319 t320 _ ?side1 ?side2 A9.out).mono ?_); (case side1 => exact cq (Kd.C_below HR1.out HB.out)); (case side2 => exact HC1.out); rintro e w' ⟨rfl, ⟨nd, rfl⟩⟩; refine ⟨_, rfl, ?_⟩))
   go_ret
   exact ⟨Y1, Y13⟩
  ·rw [if_neg c10] at H
   have c10b0 : decide (t320 < 0) = false := decide_eq_false c10
   clear c10
   replace H := Option.bind_eq_some_iff.mp H
   obtain ⟨t321, A140, H⟩ := H
   replace H : (if t321 < 0 then (some true) else ((laws_toTree.f k l0_0).bind fun t322 => ((laws_toLineS.f k l1).bind fun t325 => ((laws_toLineS.f k l2).bind fun t328 => ((spec_ThenProgram.f k t322 t325 t328).bind fun bt331 => ((laws_toTree.f k l0_0).bind fun t335 => ((laws_toLineS.f k l1).bind fun t339 => ((laws_toLineS.f k l2).bind fun t342 => ((impl_ThenProgram.f k t335 t339 t342).bind fun bt345 => ((laws_eqLineS.f k bt345.1 bt331.1).bind fun t349 => (if t349 = true then (laws_FnExactThenProgram.j0 k l1 l2 bt331.1 bt331.2 t339 t342 bt345.1 bt345.2 (bt345.2 != bt331.2) l0_0 t335) else (laws_FnExactThenProgram.j0 k l1 l2 bt331.1 bt331.2 t339 t342 bt345.1 bt345.2 true l0_0 t335)))))))))))) = some r := H
   have A14 := am A140
   clear A140
   by_cases c15 : t321 < 0
   ·rw [if_pos c15] at H
    have c15b0 : decide (t321 < 0) = true := decide_eq_true c15
    clear c15
    obtain rfl := Option.some.inj H
    go_enter Try.func3, Try.ntmps3
    go_wp2_with (first | ((with_reducible refine gate_dst (N := 3) rfl ?_); refine bE (N := 3) (cs := #[.slice A0_0 l0_0.length c0_0]) (t := 24) ?_; intro gb318 hg w16 hbox hb; have BK318 := am (hbox); have GW318 := am ((Y0 : w.heap.size ≤ gb318)); have GE318 := am ((Y0 : w.heap.size ≤ gb318)); replace HB := am (below_step (bq) hb); clear hb hbox hg; have hcz17_0 := bc0 BK318.out; have hfz17_0 := blk_frozen BK318.out 0) | ((with_reducible refine gate_callee (f := 7) rfl ?_); refine gL (some 22) Try.func7 #[.agg #[.slice A0_0 l0_0.length c0_0], .int .i64 1048576] ?_; (with_reducible refine (laws_szTree.calls k _ _ l0_0 1048576 t319 _ ?side1 ?side2 A4.out).mono ?_); (case side1 => exact cq (Kd.C_below HR0_0.out HB.out)); (case side2 => exact HC0_0.out); rintro e w18 ⟨rfl, hb⟩; refine ⟨_, rfl, ?_⟩; replace BK318 := am (blk_below (g := gb318) (o := .cells #[.slice A0_0 l0_0.length c0_0] 24 (0, 0)) (kq BK318.out) hb); replace HB := am (below_step (Y13) hb); (try clear hb); (try clear hb2); (try clear hk); (try clear hi)) | ((with_reducible refine gate_callee (f := 8) rfl ?_); refine gL (some 27) Try.func8 #[.slice A1 l1.length c1, .int .i64 t319] ?_; (with_reducible refine (laws_szLineS.calls _ _ l1 t319 t320 _ ?side1 ?side2 A9.out).mono ?_); (case side1 => exact cq (Kd.C_below HR1.out HB.out)); (case side2 => exact HC1.out); rintro e w' ⟨rfl, ⟨nd, rfl⟩⟩; refine ⟨_, rfl, ?_⟩) | ((with_reducible refine gate_callee (f := 8) rfl ?_); refine gL (some 32) Try.func8 #[.slice A2 l2.length c2, .int .i64 t320] ?_; (with_reducible refine (laws_szLineS.calls _ _ l2 t320 t321 _ ?side1 ?side2 A14.out).mono ?_); (case side1 => repeat (first | exact (Kd.C_below HR2.out (by repeat (first | (with_reducible first | exact HB.out | apply below_alloc | apply pw_below_drewN | apply below_drew1 | refine below_set ?_ GE318.out) | exact HB.out))) | (with_reducible refine Kd.C_alloc ?_ _) | (with_reducible refine Kd.C_drewN ?_ _) | (with_reducible refine Kd.C_drew ?_))); (case side2 => exact HC2.out); rintro e w' ⟨rfl, ⟨nd, rfl⟩⟩; refine ⟨_, rfl, ?_⟩))
    go_ret
    exact ⟨Y1, Y13⟩
   ·rw [if_neg c15] at H
    have c15b0 : decide (t321 < 0) = false := decide_eq_false c15
    clear c15
    replace H := Option.bind_eq_some_iff.mp H
    obtain ⟨t322, A190, H⟩ := H
    replace H : ((laws_toLineS.f k l1).bind fun t325 => ((laws_toLineS.f k l2).bind fun t328 => ((spec_ThenProgram.f k t322 t325 t328).bind fun bt331 => ((laws_toTree.f k l0_0).bind fun t335 => ((laws_toLineS.f k l1).bind fun t339 => ((laws_toLineS.f k l2).bind fun t342 => ((impl_ThenProgram.f k t335 t339 t342).bind fun bt345 => ((laws_eqLineS.f k bt345.1 bt331.1).bind fun t349 => (if t349 = true then (laws_FnExactThenProgram.j0 k l1 l2 bt331.1 bt331.2 t339 t342 bt345.1 bt345.2 (bt345.2 != bt331.2) l0_0 t335) else (laws_FnExactThenProgram.j0 k l1 l2 bt331.1 bt331.2 t339 t342 bt345.1 bt345.2 true l0_0 t335)))))))))) = some r := H
    have A19 := am A190
    clear A190
    replace H := Option.bind_eq_some_iff.mp H
    obtain ⟨t325, A200, H⟩ := H
    replace H : ((laws_toLineS.f k l2).bind fun t328 => ((spec_ThenProgram.f k t322 t325 t328).bind fun bt331 => ((laws_toTree.f k l0_0).bind fun t335 => ((laws_toLineS.f k l1).bind fun t339 => ((laws_toLineS.f k l2).bind fun t342 => ((impl_ThenProgram.f k t335 t339 t342).bind fun bt345 => ((laws_eqLineS.f k bt345.1 bt331.1).bind fun t349 => (if t349 = true then (laws_FnExactThenProgram.j0 k l1 l2 bt331.1 bt331.2 t339 t342 bt345.1 bt345.2 (bt345.2 != bt331.2) l0_0 t335) else (laws_FnExactThenProgram.j0 k l1 l2 bt331.1 bt331.2 t339 t342 bt345.1 bt345.2 true l0_0 t335))))))))) = some r := H
    have A20 := am A200
    clear A200
    replace H := Option.bind_eq_some_iff.mp H
    obtain ⟨t328, A210, H⟩ := H
    replace H : ((spec_ThenProgram.f k t322 t325 t328).bind fun bt331 => ((laws_toTree.f k l0_0).bind fun t335 => ((laws_toLineS.f k l1).bind fun t339 => ((laws_toLineS.f k l2).bind fun t342 => ((impl_ThenProgram.f k t335 t339 t342).bind fun bt345 => ((laws_eqLineS.f k bt345.1 bt331.1).bind fun t349 => (if t349 = true then (laws_FnExactThenProgram.j0 k l1 l2 bt331.1 bt331.2 t339 t342 bt345.1 bt345.2 (bt345.2 != bt331.2) l0_0 t335) else (laws_FnExactThenProgram.j0 k l1 l2 bt331.1 bt331.2 t339 t342 bt345.1 bt345.2 true l0_0 t335)))))))) = some r := H
    have A21 := am A210
    clear A210
    replace H := Option.bind_eq_some_iff.mp H
    obtain ⟨⟨t331, t334⟩, A220, H⟩ := H
    replace H : ((laws_toTree.f k l0_0).bind fun t335 => ((laws_toLineS.f k l1).bind fun t339 => ((laws_toLineS.f k l2).bind fun t342 => ((impl_ThenProgram.f k t335 t339 t342).bind fun bt345 => ((laws_eqLineS.f k bt345.1 t331).bind fun t349 => (if t349 = true then (laws_FnExactThenProgram.j0 k l1 l2 t331 t334 t339 t342 bt345.1 bt345.2 (bt345.2 != t334) l0_0 t335) else (laws_FnExactThenProgram.j0 k l1 l2 t331 t334 t339 t342 bt345.1 bt345.2 true l0_0 t335))))))) = some r := H
    have A22 := am A220
    clear A220
    replace H := Option.bind_eq_some_iff.mp H
    obtain ⟨t335, A230, H⟩ := H
    replace H : ((laws_toLineS.f k l1).bind fun t339 => ((laws_toLineS.f k l2).bind fun t342 => ((impl_ThenProgram.f k t335 t339 t342).bind fun bt345 => ((laws_eqLineS.f k bt345.1 t331).bind fun t349 => (if t349 = true then (laws_FnExactThenProgram.j0 k l1 l2 t331 t334 t339 t342 bt345.1 bt345.2 (bt345.2 != t334) l0_0 t335) else (laws_FnExactThenProgram.j0 k l1 l2 t331 t334 t339 t342 bt345.1 bt345.2 true l0_0 t335)))))) = some r := H
    have A23 := am A230
    clear A230
    replace H := Option.bind_eq_some_iff.mp H
    obtain ⟨t339, A240, H⟩ := H
    replace H : ((laws_toLineS.f k l2).bind fun t342 => ((impl_ThenProgram.f k t335 t339 t342).bind fun bt345 => ((laws_eqLineS.f k bt345.1 t331).bind fun t349 => (if t349 = true then (laws_FnExactThenProgram.j0 k l1 l2 t331 t334 t339 t342 bt345.1 bt345.2 (bt345.2 != t334) l0_0 t335) else (laws_FnExactThenProgram.j0 k l1 l2 t331 t334 t339 t342 bt345.1 bt345.2 true l0_0 t335))))) = some r := H
    have A24 := am A240
    clear A240
    replace H := Option.bind_eq_some_iff.mp H
    obtain ⟨t342, A250, H⟩ := H
    replace H : ((impl_ThenProgram.f k t335 t339 t342).bind fun bt345 => ((laws_eqLineS.f k bt345.1 t331).bind fun t349 => (if t349 = true then (laws_FnExactThenProgram.j0 k l1 l2 t331 t334 t339 t342 bt345.1 bt345.2 (bt345.2 != t334) l0_0 t335) else (laws_FnExactThenProgram.j0 k l1 l2 t331 t334 t339 t342 bt345.1 bt345.2 true l0_0 t335)))) = some r := H
    have A25 := am A250
    clear A250
    replace H := Option.bind_eq_some_iff.mp H
    obtain ⟨⟨t345, t348⟩, A260, H⟩ := H
    replace H : ((laws_eqLineS.f k t345 t331).bind fun t349 => (if t349 = true then (laws_FnExactThenProgram.j0 k l1 l2 t331 t334 t339 t342 t345 t348 (t348 != t334) l0_0 t335) else (laws_FnExactThenProgram.j0 k l1 l2 t331 t334 t339 t342 t345 t348 true l0_0 t335))) = some r := H
    have A26 := am A260
    clear A260
    have HC27 := am H
    clear H
    go_enter Try.func3, Try.ntmps3
    go_upto_region 16 with (first | ((with_reducible refine gate_dst (N := 3) rfl ?_); refine bE (N := 3) (cs := #[.slice A0_0 l0_0.length c0_0]) (t := 24) ?_; intro gb318 hg w28 hbox hb; have BK318 := am (hbox); have GW318 := am ((Y0 : w.heap.size ≤ gb318)); have GE318 := am ((Y0 : w.heap.size ≤ gb318)); replace HB := am (below_step (bq) hb); clear hb hbox hg; have hcz29_0 := bc0 BK318.out; have hfz29_0 := blk_frozen BK318.out 0) | ((with_reducible refine gate_callee (f := 7) rfl ?_); refine gL (some 22) Try.func7 #[.agg #[.slice A0_0 l0_0.length c0_0], .int .i64 1048576] ?_; (with_reducible refine (laws_szTree.calls k _ _ l0_0 1048576 t319 _ ?side1 ?side2 A4.out).mono ?_); (case side1 => exact cq (Kd.C_below HR0_0.out HB.out)); (case side2 => exact HC0_0.out); rintro e w30 ⟨rfl, hb⟩; refine ⟨_, rfl, ?_⟩; replace BK318 := am (blk_below (g := gb318) (o := .cells #[.slice A0_0 l0_0.length c0_0] 24 (0, 0)) (kq BK318.out) hb); replace HB := am (below_step (Y13) hb); (try clear hb); (try clear hb2); (try clear hk); (try clear hi)) | ((with_reducible refine gate_callee (f := 8) rfl ?_); refine gL (some 27) Try.func8 #[.slice A1 l1.length c1, .int .i64 t319] ?_; (with_reducible refine (laws_szLineS.calls _ _ l1 t319 t320 _ ?side1 ?side2 A9.out).mono ?_); (case side1 => exact cq (Kd.C_below HR1.out HB.out)); (case side2 => exact HC1.out); rintro e w' ⟨rfl, ⟨nd, rfl⟩⟩; refine ⟨_, rfl, ?_⟩; (try (rw [drewN_self w30]; generalize hq_ : World.drewN w30 _ = w30; have n0_ : Aside0 (w30.heap[gb318]? = some (.cells #[.slice A0_0 l0_0.length c0_0] 24 (0, 0))) := ⟨by rw [← hq_]; exact (kq BK318.out)⟩; have n1_ : Aside0 (Below w.heap.size w w30) := ⟨by rw [← hq_]; exact (Y13)⟩; clear BK318 HB hq_; have BK318 := n0_; have HB := n1_; clear n0_ n1_))) | ((with_reducible refine gate_callee (f := 8) rfl ?_); refine gL (some 32) Try.func8 #[.slice A2 l2.length c2, .int .i64 t320] ?_; (with_reducible refine (laws_szLineS.calls _ _ l2 t320 t321 _ ?side1 ?side2 A14.out).mono ?_); (case side1 => exact cq (Kd.C_below HR2.out HB.out)); (case side2 => exact HC2.out); rintro e w' ⟨rfl, ⟨nd, rfl⟩⟩; refine ⟨_, rfl, ?_⟩; (try (rw [drewN_self w30]; generalize hq_ : World.drewN w30 _ = w30; have n0_ : Aside0 (w30.heap[gb318]? = some (.cells #[.slice A0_0 l0_0.length c0_0] 24 (0, 0))) := ⟨by rw [← hq_]; exact (kq BK318.out)⟩; have n1_ : Aside0 (Below w.heap.size w w30) := ⟨by rw [← hq_]; exact (Y13)⟩; clear BK318 HB hq_; have BK318 := n0_; have HB := n1_; clear n0_ n1_)); have hcz31_0 := bc0 BK318.out; have hfz31_0 := blk_frozen BK318.out 0) | ((with_reducible refine gate_callee (f := 10) rfl ?_); refine gL (some 37) Try.func10 #[.agg #[.slice A0_0 l0_0.length c0_0]] ?_; (with_reducible refine (laws_toTree.calls k _ _ l0_0 t322 _ ?side1 ?side2 A19.out).mono ?_); (case side1 => exact cq (Kd.C_below HR0_0.out HB.out)); (case side2 => exact HC0_0.out); rintro e w32 ⟨v323, rfl, ho0, hb⟩; refine ⟨_, rfl, ?_⟩; have HO324 := am (Kd.R_lower ho0 (below_size (Y13))); replace BK318 := am (blk_below (g := gb318) (o := .cells #[.slice A0_0 l0_0.length c0_0] 24 (0, 0)) (kq BK318.out) hb); replace HB := am (below_step (Y13) hb); (try clear hb); (try clear hb2); (try clear hk); (try clear hi); (try clear ho0)) | ((with_reducible refine gate_callee (f := 11) rfl ?_); refine gL (some 39) Try.func11 #[.slice A1 l1.length c1] ?_; (with_reducible refine (laws_toLineS.calls k _ _ l1 t325 _ ?side1 ?side2 A20.out).mono ?_); (case side1 => exact cq (Kd.C_below HR1.out HB.out)); (case side2 => exact HC1.out); rintro e w33 ⟨v326, rfl, ho0, hb⟩; refine ⟨_, rfl, ?_⟩; have HO327 := am (Kd.R_lower ho0 (below_size (Y13))); replace HO324 := am (Kd.R_below (rq HO324.out) hb); replace BK318 := am (blk_below (g := gb318) (o := .cells #[.slice A0_0 l0_0.length c0_0] 24 (0, 0)) (kq BK318.out) hb); replace HB := am (below_step (Y13) hb); (try clear hb); (try clear hb2); (try clear hk); (try clear hi); (try clear ho0)) | ((with_reducible refine gate_callee (f := 11) rfl ?_); refine gL (some 41) Try.func11 #[.slice A2 l2.length c2] ?_; (with_reducible refine (laws_toLineS.calls k _ _ l2 t328 _ ?side1 ?side2 A21.out).mono ?_); (case side1 => exact cq (Kd.C_below HR2.out HB.out)); (case side2 => exact HC2.out); rintro e w34 ⟨v329, rfl, ho0, hb⟩; refine ⟨_, rfl, ?_⟩; have HO330 := am (Kd.R_lower (Kd.R_new' ho0 (Kd.R_lt (rq HO327.out))) (below_size (Y13))); replace HO324 := am (Kd.R_below (rq HO324.out) hb); replace HO327 := am (Kd.R_elder' (rq HO327.out) (Kd.R_base ho0) hb); replace BK318 := am (blk_below (g := gb318) (o := .cells #[.slice A0_0 l0_0.length c0_0] 24 (0, 0)) (kq BK318.out) hb); replace HB := am (below_step (Y13) hb); (try clear hb); (try clear hb2); (try clear hk); (try clear hi); (try clear ho0); obtain ⟨Ao35, co35, eo35⟩ := Kd.R_slice HO324.out; subst eo35; obtain ⟨Ao36, co36, eo36⟩ := Kd.R_slice HO327.out; subst eo36; obtain ⟨Ao37, co37, eo37⟩ := Kd.R_slice HO330.out; subst eo37) | ((with_reducible refine gate_callee (f := 9) rfl ?_); refine gL (some 42) Try.func9 #[.agg #[.slice Ao35 t322.length co35], .slice Ao36 t325.length co36, .slice Ao37 t328.length co37] ?_; (with_reducible refine (spec_ThenProgram.calls k _ _ t322 _ _ t325 _ _ t328 t331 t334 _ ?side1 ?side2 ?side3 ?side4 ?side5 ?side6 A22.out).mono ?_); (case side1 => exact cq (Kd.R_reads' HO324.out).2.2); (case side2 => exact (Kd.R_reads' HO324.out).2.1); (case side3 => exact cq (Kd.R_reads' HO327.out).2.2); (case side4 => exact (Kd.R_reads' HO327.out).2.1); (case side5 => exact cq (Kd.R_reads' HO330.out).2.2); (case side6 => exact (Kd.R_reads' HO330.out).2.1); rintro e w38 ⟨v332, rfl, ho0, hb⟩; refine ⟨_, rfl, ?_⟩; have HO333 := am (Kd.R_lower (Kd.R_new' (Kd.R_new' ho0 (Kd.R_lt (rq HO327.out))) (Kd.R_lt (rq HO330.out))) (below_size (Y13))); replace HO324 := am (Kd.R_below (rq HO324.out) hb); replace HO327 := am (Kd.R_elder' (rq HO327.out) (Kd.R_base ho0) hb); replace HO330 := am (Kd.R_elder' (rq HO330.out) (Kd.R_base ho0) hb); replace BK318 := am (blk_below (g := gb318) (o := .cells #[.slice A0_0 l0_0.length c0_0] 24 (0, 0)) (kq BK318.out) hb); replace HB := am (below_step (Y13) hb); (try clear hb); (try clear hb2); (try clear hk); (try clear hi); (try clear ho0); have hcz39_0 := bc0 BK318.out; have hfz39_0 := blk_frozen BK318.out 0) | ((with_reducible refine gate_callee (f := 10) rfl ?_); refine gL (some 46) Try.func10 #[.agg #[.slice A0_0 l0_0.length c0_0]] ?_; (with_reducible refine (laws_toTree.calls k _ _ l0_0 t335 _ ?side1 ?side2 A23.out).mono ?_); (case side1 => exact cq (Kd.C_below HR0_0.out HB.out)); (case side2 => exact HC0_0.out); rintro e w40 ⟨v336, rfl, ho0, hb⟩; refine ⟨_, rfl, ?_⟩; have HO337 := am (Kd.R_lower (Kd.R_new' ho0 (Kd.R_lt (rq HO324.out))) (below_size (Y13))); replace HO324 := am (Kd.R_elder' (rq HO324.out) (Kd.R_base ho0) hb); replace HO327 := am (Kd.R_below (rq HO327.out) hb); replace HO330 := am (Kd.R_below (rq HO330.out) hb); replace HO333 := am (Kd.R_below (rq HO333.out) hb); replace BK318 := am (blk_below (g := gb318) (o := .cells #[.slice A0_0 l0_0.length c0_0] 24 (0, 0)) (kq BK318.out) hb); replace HB := am (below_step (Y13) hb); (try clear hb); (try clear hb2); (try clear hk); (try clear hi); (try clear ho0)) | ((with_reducible refine gate_dst (N := 10) rfl ?_); refine bE (N := 10) (cs := #[.slice none 0 0]) (t := 33) ?_; intro gb338 hg w41 hbox hb; have BK338 := am (hbox); have GW338 := am ((Y82 : w.heap.size ≤ gb338)); have GE338 := am ((Y82 : w.heap.size ≤ gb338)); have NB318_338 := am ((by rw [hg]; exact Nat.ne_of_lt (blk_lt (g := gb318) (o := .cells #[.slice A0_0 l0_0.length c0_0] 24 (0, 0)) (kq BK318.out)) : gb318 ≠ gb338)); have NB338_318 := am ((by rw [hg]; exact Nat.ne_of_gt (blk_lt (g := gb318) (o := .cells #[.slice A0_0 l0_0.length c0_0] 24 (0, 0)) (kq BK318.out)) : gb338 ≠ gb318)); replace HO324 := am (Kd.R_below (rq HO324.out) hb); replace HO327 := am (Kd.R_below (rq HO327.out) hb); replace HO330 := am (Kd.R_below (rq HO330.out) hb); replace HO333 := am (Kd.R_below (rq HO333.out) hb); replace HO337 := am (Kd.R_below (rq HO337.out) hb); replace BK318 := am (blk_below (g := gb318) (o := .cells #[.slice A0_0 l0_0.length c0_0] 24 (0, 0)) (kq BK318.out) hb); replace HB := am (below_step (Y13) hb); clear hb hbox hg; obtain ⟨Ao42, co42, eo42⟩ := Kd.R_slice HO337.out; subst eo42; have hnb43 := NB338_318.out; have hnc43 := NB318_338.out; have hcz44_0 := bc0 BK338.out; have hfz44_0 := blk_frozen BK338.out 0) | ((with_reducible refine gate_callee (f := 11) rfl ?_); refine gL (some 48) Try.func11 #[.slice A1 l1.length c1] ?_; (with_reducible refine (laws_toLineS.calls k _ _ l1 t339 _ ?side1 ?side2 A24.out).mono ?_); (case side1 => exact Kd.C_below HR1.out (Y6)); (case side2 => exact HC1.out); rintro e w45 ⟨v340, rfl, ho0, hb⟩; refine ⟨_, rfl, ?_⟩; have HO341 := am (Kd.R_lower (Kd.R_new' (Kd.R_new' (Kd.R_new' ho0 (Kd.R_lt (Y83))) (Kd.R_lt (Y84))) (Kd.R_lt (Y85))) (below_size (Y6))); replace HO324 := am (Kd.R_below (by (with_reducible repeat (first | apply Kd.R_alloc | apply Kd.R_drewN | apply Kd.R_drew)); exact (Kd.R_mono (Kd.R_far (p := ⟨gb338, 0, none⟩) (Kd.R_types HO324.out BK338.out (by decide)) (fun _ hk => hk.2) (.slice Ao42 t335.length co42)) (fun _ h_ => h_.1))) hb); replace HO327 := am (Kd.R_elder' (Y83) (Kd.R_base ho0) hb); replace HO330 := am (Kd.R_elder' (Y84) (Kd.R_base ho0) hb); replace HO333 := am (Kd.R_elder' (Y85) (Kd.R_base ho0) hb); replace HO337 := am (Kd.R_below (by (with_reducible repeat (first | apply Kd.R_alloc | apply Kd.R_drewN | apply Kd.R_drew)); exact (Kd.R_mono (Kd.R_far (p := ⟨gb338, 0, none⟩) (Kd.R_types HO337.out BK338.out (by decide)) (fun _ hk => hk.2) (.slice Ao42 t335.length co42)) (fun _ h_ => h_.1))) hb); replace BK318 := am (blk_below (g := gb318) (o := .cells #[.slice A0_0 l0_0.length c0_0] 24 (0, 0)) (by (with_reducible repeat (first | refine blk_drewN ?_ _ | refine blk_drew ?_ | refine blk_alloc ?_ _)); refine blk_far ?_ NB318_338.out _; (with_reducible repeat (first | refine blk_drewN ?_ _ | refine blk_drew ?_ | refine blk_alloc ?_ _)); exact BK318.out) hb); replace BK338 := am (blk_below (g := gb338) (o := .cells #[.slice Ao42 t335.length co42] 33 (0, 0)) (by (with_reducible repeat (first | refine blk_drewN ?_ _ | refine blk_drew ?_ | refine blk_alloc ?_ _)); refine blk_put (cs := #[.slice none 0 0]) ?_ 0 _ rfl; (with_reducible repeat (first | refine blk_drewN ?_ _ | refine blk_drew ?_ | refine blk_alloc ?_ _)); exact BK338.out) hb); replace HB := am (below_step (Y6) hb); (try clear hb); (try clear hb2); (try clear hk); (try clear hi); (try clear ho0)) | ((with_reducible refine gate_callee (f := 11) rfl ?_); refine gL (some 50) Try.func11 #[.slice A2 l2.length c2] ?_; (with_reducible refine (laws_toLineS.calls k _ _ l2 t342 _ ?side1 ?side2 A25.out).mono ?_); (case side1 => exact cq (Kd.C_below HR2.out HB.out)); (case side2 => exact HC2.out); rintro e w46 ⟨v343, rfl, ho0, hb⟩; refine ⟨_, rfl, ?_⟩; have HO344 := am (Kd.R_lower (Kd.R_new' (Kd.R_new' (Kd.R_new' (Kd.R_new' ho0 (Kd.R_lt (rq HO327.out))) (Kd.R_lt (rq HO330.out))) (Kd.R_lt (rq HO333.out))) (Kd.R_lt (rq HO341.out))) (below_size (Y6))); replace HO324 := am (Kd.R_below (rq HO324.out) hb); replace HO327 := am (Kd.R_elder' (rq HO327.out) (Kd.R_base ho0) hb); replace HO330 := am (Kd.R_elder' (rq HO330.out) (Kd.R_base ho0) hb); replace HO333 := am (Kd.R_elder' (rq HO333.out) (Kd.R_base ho0) hb); replace HO337 := am (Kd.R_below (rq HO337.out) hb); replace HO341 := am (Kd.R_elder' (rq HO341.out) (Kd.R_base ho0) hb); replace BK318 := am (blk_below (g := gb318) (o := .cells #[.slice A0_0 l0_0.length c0_0] 24 (0, 0)) (kq BK318.out) hb); replace BK338 := am (blk_below (g := gb338) (o := .cells #[.slice Ao42 t335.length co42] 33 (0, 0)) (kq BK338.out) hb); replace HB := am (below_step (Y6) hb); (try clear hb); (try clear hb2); (try clear hk); (try clear hi); (try clear ho0); have hcz47_0 := bc0 BK338.out; have hfz47_0 := blk_frozen BK338.out 0; obtain ⟨Ao48, co48, eo48⟩ := Kd.R_slice HO341.out; subst eo48; obtain ⟨Ao49, co49, eo49⟩ := Kd.R_slice HO344.out; subst eo49) | ((with_reducible refine gate_callee (f := 12) rfl ?_); refine gL (some 55) Try.func12 #[.agg #[.slice Ao42 t335.length co42], .slice Ao48 t339.length co48, .slice Ao49 t342.length co49] ?_; (with_reducible refine (impl_ThenProgram.calls k _ _ t335 (fun k_ => some k_ = (.slice Ao48 t339.length co48 : Value).ownBlock) _ _ t339 (fun k_ => some k_ = (.slice Ao49 t342.length co49 : Value).ownBlock) _ _ t342 t345 t348 _ ?side1 ?side2 ?side3 ?side4 A26.out).mono ?_); (case side1 => exact cq (Kd.R_reads' HO337.out).2.2); (case side2 => exact (Kd.R_reads' HO337.out).2.1); (case side3 => exact Kd.R_V (Kd.R_tight rfl (Kd.R_types (Kd.R_types (Kd.R_apart' (Kd.R_apart' (HO341.out) (Kd.R_typed HO324.out) (by decide)) (Kd.R_typed HO337.out) (by decide)) BK318.out (by decide)) BK338.out (by decide)))); (case side4 => exact Kd.R_V (Kd.R_tight rfl (Kd.R_types (Kd.R_types (Kd.R_apart' (Kd.R_apart' (HO344.out) (Kd.R_typed HO324.out) (by decide)) (Kd.R_typed HO337.out) (by decide)) BK318.out (by decide)) BK338.out (by decide)))); rintro e w50 ⟨v346, rfl, ho0, hb⟩; refine ⟨_, rfl, ?_⟩; have HO347 := am (Kd.R_lower (Kd.R_new' (Kd.R_new' (Kd.R_new' (Kd.R_new' (Kd.R_new' (Kd.R_mono (ok' := fun k_ => True) ho0 (fun _ hk_ => trivial)) (Kd.R_lt (rq HO327.out))) (Kd.R_lt (rq HO330.out))) (Kd.R_lt (rq HO333.out))) (Kd.R_lt (rq HO341.out))) (Kd.R_lt (rq HO344.out))) (below_size (Y6))); replace HO324 := am (Kd.R_below (rq HO324.out) hb); replace HO327 := am (Kd.R_elder' (rq HO327.out) (Kd.R_base ho0) hb); replace HO330 := am (Kd.R_elder' (rq HO330.out) (Kd.R_base ho0) hb); replace HO333 := am (Kd.R_elder' (rq HO333.out) (Kd.R_base ho0) hb); replace HO337 := am (Kd.R_below (rq HO337.out) hb); replace HO341 := am (Kd.R_elder' (rq HO341.out) (Kd.R_base ho0) hb); replace HO344 := am (Kd.R_elder' (rq HO344.out) (Kd.R_base ho0) hb); replace BK318 := am (blk_below (g := gb318) (o := .cells #[.slice A0_0 l0_0.length c0_0] 24 (0, 0)) (kq BK318.out) hb); replace BK338 := am (blk_below (g := gb338) (o := .cells #[.slice Ao42 t335.length co42] 33 (0, 0)) (kq BK338.out) hb); replace HB := am (below_step (Y6) hb); (try clear hb); (try clear hb2); (try clear hk); (try clear hi); (try clear ho0)))
    (try simp only [Act.put, List.setIfInBounds_toArray, List.set_cons_zero, List.set_cons_succ])
    go_cut [66] (fun v66 wc => ∃ (kq : Nat) (x66_26 : Bool), v66 = .bool x66_26 ∧ Aside0 (laws_FnExactThenProgram.j0 kq l1 l2 t331 t334 t339 t342 t345 t348 x66_26 l0_0 t335 = some r) ∧ Aside0 (kq ≤ k) ∧ Aside0 (Kd.R k50 50 wc w.heap.size (fun k_ => some k_ ≠ ((.slice Ao48 t339.length co48) : Value).ownBlock ∧ some k_ ≠ ((.slice Ao49 t342.length co49) : Value).ownBlock ∧ some k_ ≠ (v346 : Value).ownBlock) v332 t331) ∧ Aside0 (Kd.R k50 50 wc w.heap.size (fun k_ => some k_ ≠ (v332 : Value).ownBlock ∧ some k_ ≠ ((.slice Ao49 t342.length co49) : Value).ownBlock ∧ some k_ ≠ (v346 : Value).ownBlock) (.slice Ao48 t339.length co48) t339) ∧ Aside0 (Kd.R k50 50 wc w.heap.size (fun k_ => some k_ ≠ (v332 : Value).ownBlock ∧ some k_ ≠ ((.slice Ao48 t339.length co48) : Value).ownBlock ∧ some k_ ≠ (v346 : Value).ownBlock) (.slice Ao49 t342.length co49) t342) ∧ Aside0 (Kd.R k50 50 wc w.heap.size (fun k_ => some k_ ≠ (v332 : Value).ownBlock ∧ some k_ ≠ ((.slice Ao48 t339.length co48) : Value).ownBlock ∧ some k_ ≠ ((.slice Ao49 t342.length co49) : Value).ownBlock) v346 t345) ∧ Aside0 (Kd.R k63 63 wc w.heap.size (fun _ => True) (.slice Ao42 t335.length co42) t335) ∧ Aside0 (wc.heap[gb318]? = some (.cells #[(.slice A0_0 l0_0.length c0_0)] 24 (0, 0))) ∧ Aside0 (wc.heap[gb338]? = some (.cells #[(.slice Ao42 t335.length co42)] 33 (0, 0))) ∧ Aside0 (Below w.heap.size w wc))
    case first =>
     have H := HC27.out
     clear HC27
     replace H := Option.bind_eq_some_iff.mp H
     obtain ⟨t349, A510, H⟩ := H
     replace H : (if t349 = true then (laws_FnExactThenProgram.j0 k l1 l2 t331 t334 t339 t342 t345 t348 (t348 != t334) l0_0 t335) else (laws_FnExactThenProgram.j0 k l1 l2 t331 t334 t339 t342 t345 t348 true l0_0 t335)) = some r := H
     have A51 := am A510
     clear A510
     by_cases c52 : t349 = true
     ·subst c52
      have H1 : (laws_FnExactThenProgram.j0 k l1 l2 t331 t334 t339 t342 t345 t348 (t348 != t334) l0_0 t335) = some r := by rw [if_pos rfl] at H; exact H
      clear H
      have H := H1
      clear H1
      have H' := am H
      clear H
      obtain ⟨Ao53, co53, eo53⟩ := Kd.R_slice HO347.out
      subst eo53
      obtain ⟨Ao54, co54, eo54⟩ := Kd.R_slice HO333.out
      subst eo54
      go_wp2_with (first | ((with_reducible refine gate_callee (f := 13) rfl ?_); refine gL (some 60) Try.func13 #[.slice Ao53 t345.length co53, .slice Ao54 t331.length co54] ?_; (with_reducible refine (laws_eqLineS.calls k _ _ t345 _ _ t331 true _ ?side1 ?side2 ?side3 ?side4 A51.out).mono ?_); (case side1 => exact cq (Kd.R_reads' HO347.out).2.2); (case side2 => exact (Kd.R_reads' HO347.out).2.1); (case side3 => exact cq (Kd.R_reads' HO333.out).2.2); (case side4 => exact (Kd.R_reads' HO333.out).2.1); rintro e w55 ⟨rfl, hb⟩; refine ⟨_, rfl, ?_⟩; replace HO324 := am (Kd.R_below (rq HO324.out) hb); replace HO327 := am (Kd.R_below (rq HO327.out) hb); replace HO330 := am (Kd.R_below (rq HO330.out) hb); replace HO333 := am (Kd.R_below (rq HO333.out) hb); replace HO337 := am (Kd.R_below (rq HO337.out) hb); replace HO341 := am (Kd.R_below (rq HO341.out) hb); replace HO344 := am (Kd.R_below (rq HO344.out) hb); replace HO347 := am (Kd.R_below (rq HO347.out) hb); replace BK318 := am (blk_below (g := gb318) (o := .cells #[.slice A0_0 l0_0.length c0_0] 24 (0, 0)) (kq BK318.out) hb); replace BK338 := am (blk_below (g := gb338) (o := .cells #[.slice Ao42 t335.length co42] 33 (0, 0)) (kq BK338.out) hb); replace HB := am (below_step (Y6) hb); (try clear hb); (try clear hb2); (try clear hk); (try clear hi)))
      go_meet
      case rel => exact ⟨_, ((t348 != t334)), (sq), H', ⟨Y22⟩, ⟨by (with_reducible repeat (first | apply Kd.R_alloc | apply Kd.R_drewN | apply Kd.R_drew)); exact Kd.R_mono HO333.out (fun _ hk => ⟨hk.1.1.2, ⟨hk.1.2, hk.2⟩⟩)⟩, ⟨by (with_reducible repeat (first | apply Kd.R_alloc | apply Kd.R_drewN | apply Kd.R_drew)); exact Kd.R_mono HO341.out (fun _ hk => ⟨hk.1.1.2, ⟨hk.1.2, hk.2⟩⟩)⟩, ⟨by (with_reducible repeat (first | apply Kd.R_alloc | apply Kd.R_drewN | apply Kd.R_drew)); exact Kd.R_mono HO344.out (fun _ hk => ⟨hk.1.1.2, ⟨hk.1.2, hk.2⟩⟩)⟩, ⟨by (with_reducible repeat (first | apply Kd.R_alloc | apply Kd.R_drewN | apply Kd.R_drew)); exact Kd.R_mono HO347.out (fun _ hk => ⟨hk.1.1.2, ⟨hk.1.2, hk.2⟩⟩)⟩, ⟨by (with_reducible repeat (first | apply Kd.R_alloc | apply Kd.R_drewN | apply Kd.R_drew)); exact Kd.R_mono HO337.out (fun _ hk => trivial)⟩, ⟨kq BK318.out⟩, ⟨kq BK338.out⟩, ⟨Y6⟩⟩
     ·replace c52 := Bool.eq_false_iff.mpr c52
      subst c52
      have H1 : (laws_FnExactThenProgram.j0 k l1 l2 t331 t334 t339 t342 t345 t348 true l0_0 t335) = some r := by rw [if_neg (show ¬ (false = true) by decide)] at H; exact H
      clear H
      have H := H1
      clear H1
      have H' := am H
      clear H
      obtain ⟨Ao56, co56, eo56⟩ := Kd.R_slice HO347.out
      subst eo56
      obtain ⟨Ao57, co57, eo57⟩ := Kd.R_slice HO333.out
      subst eo57
      go_wp2_with (first | ((with_reducible refine gate_callee (f := 13) rfl ?_); refine gL (some 60) Try.func13 #[.slice Ao56 t345.length co56, .slice Ao57 t331.length co57] ?_; (with_reducible refine (laws_eqLineS.calls k _ _ t345 _ _ t331 false _ ?side1 ?side2 ?side3 ?side4 A51.out).mono ?_); (case side1 => exact cq (Kd.R_reads' HO347.out).2.2); (case side2 => exact (Kd.R_reads' HO347.out).2.1); (case side3 => exact cq (Kd.R_reads' HO333.out).2.2); (case side4 => exact (Kd.R_reads' HO333.out).2.1); rintro e w58 ⟨rfl, hb⟩; refine ⟨_, rfl, ?_⟩; replace HO324 := am (Kd.R_below (rq HO324.out) hb); replace HO327 := am (Kd.R_below (rq HO327.out) hb); replace HO330 := am (Kd.R_below (rq HO330.out) hb); replace HO333 := am (Kd.R_below (rq HO333.out) hb); replace HO337 := am (Kd.R_below (rq HO337.out) hb); replace HO341 := am (Kd.R_below (rq HO341.out) hb); replace HO344 := am (Kd.R_below (rq HO344.out) hb); replace HO347 := am (Kd.R_below (rq HO347.out) hb); replace BK318 := am (blk_below (g := gb318) (o := .cells #[.slice A0_0 l0_0.length c0_0] 24 (0, 0)) (kq BK318.out) hb); replace BK338 := am (blk_below (g := gb338) (o := .cells #[.slice Ao42 t335.length co42] 33 (0, 0)) (kq BK338.out) hb); replace HB := am (below_step (Y6) hb); (try clear hb); (try clear hb2); (try clear hk); (try clear hi)))
      go_meet
      case rel => exact ⟨_, (true), (sq), H', ⟨Y22⟩, ⟨by (with_reducible repeat (first | apply Kd.R_alloc | apply Kd.R_drewN | apply Kd.R_drew)); exact Kd.R_mono HO333.out (fun _ hk => ⟨hk.1.1.2, ⟨hk.1.2, hk.2⟩⟩)⟩, ⟨by (with_reducible repeat (first | apply Kd.R_alloc | apply Kd.R_drewN | apply Kd.R_drew)); exact Kd.R_mono HO341.out (fun _ hk => ⟨hk.1.1.2, ⟨hk.1.2, hk.2⟩⟩)⟩, ⟨by (with_reducible repeat (first | apply Kd.R_alloc | apply Kd.R_drewN | apply Kd.R_drew)); exact Kd.R_mono HO344.out (fun _ hk => ⟨hk.1.1.2, ⟨hk.1.2, hk.2⟩⟩)⟩, ⟨by (with_reducible repeat (first | apply Kd.R_alloc | apply Kd.R_drewN | apply Kd.R_drew)); exact Kd.R_mono HO347.out (fun _ hk => ⟨hk.1.1.2, ⟨hk.1.2, hk.2⟩⟩)⟩, ⟨by (with_reducible repeat (first | apply Kd.R_alloc | apply Kd.R_drewN | apply Kd.R_drew)); exact Kd.R_mono HO337.out (fun _ hk => trivial)⟩, ⟨kq BK318.out⟩, ⟨kq BK338.out⟩, ⟨Y6⟩⟩
    case rest =>
     clear HC27
     try clear c1
     try clear c2
     try clear p2
     try clear c3
     try clear c4
     try clear c5
     try clear c5b0
     try clear c7
     try clear c8
     try clear c9
     try clear c10
     try clear c10b0
     try clear c11
     try clear c12
     try clear c13
     try clear c15
     try clear c15b0
     try clear c43
     try clear c52
     try clear hcz12_0
     try clear hcz17_0
     try clear hcz29_0
     try clear hcz31_0
     try clear hcz39_0
     try clear hcz44_0
     try clear hcz47_0
     try clear hcz7_0
     try clear hfz12_0
     try clear hfz17_0
     try clear hfz29_0
     try clear hfz31_0
     try clear hfz39_0
     try clear hfz44_0
     try clear hfz47_0
     try clear hfz7_0
     obtain ⟨kq, x66_26, rfl, HA, HJ26, HO_8, HO_11, HO_12, HO_13, HO_339000, BK318, BK338, HB⟩ := hcut
     cases kq with
     | zero => exact absurd HA.out (by simp [laws_FnExactThenProgram.j0])
     | succ kj26 =>
      have H := HA.out
      clear HA
      simp only [laws_FnExactThenProgram.j0] at H
      by_cases c59 : x66_26 = true
      ·subst c59
       have H1 : (some false) = some r := by rw [if_pos rfl] at H; exact H
       clear H
       have H := H1
       clear H1
       exact absurd ((Option.some.inj H).trans hT) Bool.false_ne_true
      ·replace c59 := Bool.eq_false_iff.mpr c59
       subst c59
       have H1 : ((laws_toTree.f kj26 l0_0).bind fun t350 => ((laws_eqTree.f kj26 t335 t350).bind fun t353 => (if t353 = true then ((laws_toLineS.f kj26 l1).bind fun t354 => ((laws_eqLineS.f kj26 t339 t354).bind fun t357 => (if t357 = true then ((laws_toLineS.f kj26 l2).bind fun t358 => ((laws_eqLineS.f kj26 t342 t358).bind fun t361 => (if t361 = true then ((laws_markTree.f kj26 t335 1).bind fun bt362 => ((laws_markLineS.f kj26 t339 bt362.1).bind fun bt364 => ((laws_markLineS.f kj26 t342 bt364.1).bind fun bt366 => (if bt366.1 < 0 then (laws_FnExactThenProgram.j1 kj26 l1 l2 t331 t334 t345 true l0_0) else ((laws_eqLineS.f kj26 t345 t331).bind fun t368 => (if t368 = true then (laws_FnExactThenProgram.j1 kj26 l1 l2 t331 t334 t345 (t348 != t334) l0_0) else (laws_FnExactThenProgram.j1 kj26 l1 l2 t331 t334 t345 true l0_0))))))) else (some false)))) else (some false)))) else (some false)))) = some r := by rw [if_neg (show ¬ (false = true) by decide)] at H; exact H
       clear H
       have H := H1
       clear H1
       replace H := Option.bind_eq_some_iff.mp H
       obtain ⟨t350, A600, H⟩ := H
       replace H : ((laws_eqTree.f kj26 t335 t350).bind fun t353 => (if t353 = true then ((laws_toLineS.f kj26 l1).bind fun t354 => ((laws_eqLineS.f kj26 t339 t354).bind fun t357 => (if t357 = true then ((laws_toLineS.f kj26 l2).bind fun t358 => ((laws_eqLineS.f kj26 t342 t358).bind fun t361 => (if t361 = true then ((laws_markTree.f kj26 t335 1).bind fun bt362 => ((laws_markLineS.f kj26 t339 bt362.1).bind fun bt364 => ((laws_markLineS.f kj26 t342 bt364.1).bind fun bt366 => (if bt366.1 < 0 then (laws_FnExactThenProgram.j1 kj26 l1 l2 t331 t334 t345 true l0_0) else ((laws_eqLineS.f kj26 t345 t331).bind fun t368 => (if t368 = true then (laws_FnExactThenProgram.j1 kj26 l1 l2 t331 t334 t345 (t348 != t334) l0_0) else (laws_FnExactThenProgram.j1 kj26 l1 l2 t331 t334 t345 true l0_0))))))) else (some false)))) else (some false)))) else (some false))) = some r := H
       have A60 := am A600
       clear A600
       replace H := Option.bind_eq_some_iff.mp H
       obtain ⟨t353, A610, H⟩ := H
       replace H : (if t353 = true then ((laws_toLineS.f kj26 l1).bind fun t354 => ((laws_eqLineS.f kj26 t339 t354).bind fun t357 => (if t357 = true then ((laws_toLineS.f kj26 l2).bind fun t358 => ((laws_eqLineS.f kj26 t342 t358).bind fun t361 => (if t361 = true then ((laws_markTree.f kj26 t335 1).bind fun bt362 => ((laws_markLineS.f kj26 t339 bt362.1).bind fun bt364 => ((laws_markLineS.f kj26 t342 bt364.1).bind fun bt366 => (if bt366.1 < 0 then (laws_FnExactThenProgram.j1 kj26 l1 l2 t331 t334 t345 true l0_0) else ((laws_eqLineS.f kj26 t345 t331).bind fun t368 => (if t368 = true then (laws_FnExactThenProgram.j1 kj26 l1 l2 t331 t334 t345 (t348 != t334) l0_0) else (laws_FnExactThenProgram.j1 kj26 l1 l2 t331 t334 t345 true l0_0))))))) else (some false)))) else (some false)))) else (some false)) = some r := H
       have A61 := am A610
       clear A610
       by_cases c62 : t353 = true
       ·subst c62
        have H1 : ((laws_toLineS.f kj26 l1).bind fun t354 => ((laws_eqLineS.f kj26 t339 t354).bind fun t357 => (if t357 = true then ((laws_toLineS.f kj26 l2).bind fun t358 => ((laws_eqLineS.f kj26 t342 t358).bind fun t361 => (if t361 = true then ((laws_markTree.f kj26 t335 1).bind fun bt362 => ((laws_markLineS.f kj26 t339 bt362.1).bind fun bt364 => ((laws_markLineS.f kj26 t342 bt364.1).bind fun bt366 => (if bt366.1 < 0 then (laws_FnExactThenProgram.j1 kj26 l1 l2 t331 t334 t345 true l0_0) else ((laws_eqLineS.f kj26 t345 t331).bind fun t368 => (if t368 = true then (laws_FnExactThenProgram.j1 kj26 l1 l2 t331 t334 t345 (t348 != t334) l0_0) else (laws_FnExactThenProgram.j1 kj26 l1 l2 t331 t334 t345 true l0_0))))))) else (some false)))) else (some false)))) = some r := by rw [if_pos rfl] at H; exact H
        clear H
        have H := H1
        clear H1
        replace H := Option.bind_eq_some_iff.mp H
        obtain ⟨t354, A630, H⟩ := H
        replace H : ((laws_eqLineS.f kj26 t339 t354).bind fun t357 => (if t357 = true then ((laws_toLineS.f kj26 l2).bind fun t358 => ((laws_eqLineS.f kj26 t342 t358).bind fun t361 => (if t361 = true then ((laws_markTree.f kj26 t335 1).bind fun bt362 => ((laws_markLineS.f kj26 t339 bt362.1).bind fun bt364 => ((laws_markLineS.f kj26 t342 bt364.1).bind fun bt366 => (if bt366.1 < 0 then (laws_FnExactThenProgram.j1 kj26 l1 l2 t331 t334 t345 true l0_0) else ((laws_eqLineS.f kj26 t345 t331).bind fun t368 => (if t368 = true then (laws_FnExactThenProgram.j1 kj26 l1 l2 t331 t334 t345 (t348 != t334) l0_0) else (laws_FnExactThenProgram.j1 kj26 l1 l2 t331 t334 t345 true l0_0))))))) else (some false)))) else (some false))) = some r := H
        have A63 := am A630
        clear A630
        replace H := Option.bind_eq_some_iff.mp H
        obtain ⟨t357, A640, H⟩ := H
        replace H : (if t357 = true then ((laws_toLineS.f kj26 l2).bind fun t358 => ((laws_eqLineS.f kj26 t342 t358).bind fun t361 => (if t361 = true then ((laws_markTree.f kj26 t335 1).bind fun bt362 => ((laws_markLineS.f kj26 t339 bt362.1).bind fun bt364 => ((laws_markLineS.f kj26 t342 bt364.1).bind fun bt366 => (if bt366.1 < 0 then (laws_FnExactThenProgram.j1 kj26 l1 l2 t331 t334 t345 true l0_0) else ((laws_eqLineS.f kj26 t345 t331).bind fun t368 => (if t368 = true then (laws_FnExactThenProgram.j1 kj26 l1 l2 t331 t334 t345 (t348 != t334) l0_0) else (laws_FnExactThenProgram.j1 kj26 l1 l2 t331 t334 t345 true l0_0))))))) else (some false)))) else (some false)) = some r := H
        have A64 := am A640
        clear A640
        by_cases c65 : t357 = true
        ·subst c65
         have H1 : ((laws_toLineS.f kj26 l2).bind fun t358 => ((laws_eqLineS.f kj26 t342 t358).bind fun t361 => (if t361 = true then ((laws_markTree.f kj26 t335 1).bind fun bt362 => ((laws_markLineS.f kj26 t339 bt362.1).bind fun bt364 => ((laws_markLineS.f kj26 t342 bt364.1).bind fun bt366 => (if bt366.1 < 0 then (laws_FnExactThenProgram.j1 kj26 l1 l2 t331 t334 t345 true l0_0) else ((laws_eqLineS.f kj26 t345 t331).bind fun t368 => (if t368 = true then (laws_FnExactThenProgram.j1 kj26 l1 l2 t331 t334 t345 (t348 != t334) l0_0) else (laws_FnExactThenProgram.j1 kj26 l1 l2 t331 t334 t345 true l0_0))))))) else (some false)))) = some r := by rw [if_pos rfl] at H; exact H
         clear H
         have H := H1
         clear H1
         replace H := Option.bind_eq_some_iff.mp H
         obtain ⟨t358, A660, H⟩ := H
         replace H : ((laws_eqLineS.f kj26 t342 t358).bind fun t361 => (if t361 = true then ((laws_markTree.f kj26 t335 1).bind fun bt362 => ((laws_markLineS.f kj26 t339 bt362.1).bind fun bt364 => ((laws_markLineS.f kj26 t342 bt364.1).bind fun bt366 => (if bt366.1 < 0 then (laws_FnExactThenProgram.j1 kj26 l1 l2 t331 t334 t345 true l0_0) else ((laws_eqLineS.f kj26 t345 t331).bind fun t368 => (if t368 = true then (laws_FnExactThenProgram.j1 kj26 l1 l2 t331 t334 t345 (t348 != t334) l0_0) else (laws_FnExactThenProgram.j1 kj26 l1 l2 t331 t334 t345 true l0_0))))))) else (some false))) = some r := H
         have A66 := am A660
         clear A660
         replace H := Option.bind_eq_some_iff.mp H
         obtain ⟨t361, A670, H⟩ := H
         replace H : (if t361 = true then ((laws_markTree.f kj26 t335 1).bind fun bt362 => ((laws_markLineS.f kj26 t339 bt362.1).bind fun bt364 => ((laws_markLineS.f kj26 t342 bt364.1).bind fun bt366 => (if bt366.1 < 0 then (laws_FnExactThenProgram.j1 kj26 l1 l2 t331 t334 t345 true l0_0) else ((laws_eqLineS.f kj26 t345 t331).bind fun t368 => (if t368 = true then (laws_FnExactThenProgram.j1 kj26 l1 l2 t331 t334 t345 (t348 != t334) l0_0) else (laws_FnExactThenProgram.j1 kj26 l1 l2 t331 t334 t345 true l0_0))))))) else (some false)) = some r := H
         have A67 := am A670
         clear A670
         by_cases c68 : t361 = true
         ·subst c68
          have H1 : ((laws_markTree.f kj26 t335 1).bind fun bt362 => ((laws_markLineS.f kj26 t339 bt362.1).bind fun bt364 => ((laws_markLineS.f kj26 t342 bt364.1).bind fun bt366 => (if bt366.1 < 0 then (laws_FnExactThenProgram.j1 kj26 l1 l2 t331 t334 t345 true l0_0) else ((laws_eqLineS.f kj26 t345 t331).bind fun t368 => (if t368 = true then (laws_FnExactThenProgram.j1 kj26 l1 l2 t331 t334 t345 (t348 != t334) l0_0) else (laws_FnExactThenProgram.j1 kj26 l1 l2 t331 t334 t345 true l0_0))))))) = some r := by rw [if_pos rfl] at H; exact H
          clear H
          have H := H1
          clear H1
          replace H := Option.bind_eq_some_iff.mp H
          obtain ⟨⟨t362, t363⟩, A690, H⟩ := H
          replace H : ((laws_markLineS.f kj26 t339 t362).bind fun bt364 => ((laws_markLineS.f kj26 t342 bt364.1).bind fun bt366 => (if bt366.1 < 0 then (laws_FnExactThenProgram.j1 kj26 l1 l2 t331 t334 t345 true l0_0) else ((laws_eqLineS.f kj26 t345 t331).bind fun t368 => (if t368 = true then (laws_FnExactThenProgram.j1 kj26 l1 l2 t331 t334 t345 (t348 != t334) l0_0) else (laws_FnExactThenProgram.j1 kj26 l1 l2 t331 t334 t345 true l0_0)))))) = some r := H
          have A69 := am A690
          clear A690
          replace H := Option.bind_eq_some_iff.mp H
          obtain ⟨⟨t364, t365⟩, A700, H⟩ := H
          replace H : ((laws_markLineS.f kj26 t342 t364).bind fun bt366 => (if bt366.1 < 0 then (laws_FnExactThenProgram.j1 kj26 l1 l2 t331 t334 t345 true l0_0) else ((laws_eqLineS.f kj26 t345 t331).bind fun t368 => (if t368 = true then (laws_FnExactThenProgram.j1 kj26 l1 l2 t331 t334 t345 (t348 != t334) l0_0) else (laws_FnExactThenProgram.j1 kj26 l1 l2 t331 t334 t345 true l0_0))))) = some r := H
          have A70 := am A700
          clear A700
          replace H := Option.bind_eq_some_iff.mp H
          obtain ⟨⟨t366, t367⟩, A710, H⟩ := H
          replace H : (if t366 < 0 then (laws_FnExactThenProgram.j1 kj26 l1 l2 t331 t334 t345 true l0_0) else ((laws_eqLineS.f kj26 t345 t331).bind fun t368 => (if t368 = true then (laws_FnExactThenProgram.j1 kj26 l1 l2 t331 t334 t345 (t348 != t334) l0_0) else (laws_FnExactThenProgram.j1 kj26 l1 l2 t331 t334 t345 true l0_0)))) = some r := H
          have A71 := am A710
          clear A710
          have HC72 := am H
          clear H
          try go_wp2
          replace HO_8 := am (Kd.R_drew HO_8.out)
          replace HO_11 := am (Kd.R_drew HO_11.out)
          replace HO_12 := am (Kd.R_drew HO_12.out)
          replace HO_13 := am (Kd.R_drew HO_13.out)
          replace HO_339000 := am (Kd.R_drew HO_339000.out)
          replace BK318 := am (blk_drew BK318.out)
          replace BK338 := am (blk_drew BK338.out)
          replace HB := am (below_drew1 HB.out)
          refine start_ (n := 5) (S := fun w' => w'.cell? ⟨gb338, 0, none⟩ = some (.slice Ao42 t335.length co42) ∧ w'.cell? ⟨gb318, 0, none⟩ = some (.slice A0_0 l0_0.length c0_0)) (ds := []) #[false, false, false, false, false] (by kernel_rfl) rfl rfl ⟨(blk_cell BK338.out 0).trans rfl, (blk_cell BK318.out 0).trans rfl⟩ (fun hHeld => ?_)
          generalize wc.drew = w73 at HO_8 HO_11 HO_12 HO_13 HO_339000 BK318 BK338 HB hHeld ⊢
          refine take_ (i := 0) (N := some 67) (v := ?_) (a' := ?_) #[true, false, false, false, false] rfl rfl (by kernel_rfl) (fun _ _ _ h => h) (Or.inl ⟨by rfl, ?_⟩) hHeld ?_ ?_
          rotate_left
          ·rintro w' ⟨s0, s1⟩
           go_simp
           with_reducible rfl
          rotate_left
          ·exact sa
          refine take_ (i := 1) (N := some 68) (v := ?_) (a' := ?_) #[true, true, false, false, false] rfl rfl (by kernel_rfl) (fun _ _ _ h => h) (Or.inl ⟨by rfl, ?_⟩) hHeld ?_ ?_
          rotate_left
          ·rintro w' ⟨s0, s1⟩
           go_simp
           with_reducible rfl
          rotate_left
          ·exact sa
          refine one_ (i := 2) (N := some 69) #[true, true, true, false, false] rfl rfl (by kernel_rfl) (by decide) (fun K hK => ?_)
          refine goes_ Try.func10 (by kernel_rfl) rfl #[.agg #[.slice A0_0 l0_0.length c0_0]] (by rfl) rfl rfl (aq) ?_
          with_reducible refine (laws_toTree.calls kj26 _ _ l0_0 t350 _ ?side1 ?side2 A60.out).mono ?_
          (case side1 => exact cq (Kd.C_below HR0_0.out HB.out))
          (case side2 => exact HC0_0.out)
          rintro e w74 ⟨v351, rfl, ho0, hb⟩
          refine ⟨_, rfl, ?_⟩
          have HO352 := am (Kd.R_lower (Kd.R_new' ho0 (Kd.R_lt (rq HO_339000.out))) (below_size (Y6)))
          replace HO_8 := am (Kd.R_below (rq HO_8.out) hb)
          replace HO_11 := am (Kd.R_below (rq HO_11.out) hb)
          replace HO_12 := am (Kd.R_below (rq HO_12.out) hb)
          replace HO_13 := am (Kd.R_below (rq HO_13.out) hb)
          replace HO_339000 := am (Kd.R_elder' (rq HO_339000.out) (Kd.R_base ho0) hb)
          replace BK318 := am (blk_below (g := gb318) (o := .cells #[.slice A0_0 l0_0.length c0_0] 24 (0, 0)) (kq BK318.out) hb)
          replace BK338 := am (blk_below (g := gb338) (o := .cells #[.slice Ao42 t335.length co42] 33 (0, 0)) (kq BK338.out) hb)
          replace HB := am (below_step (Y6) hb)
          (try clear hb)
          (try clear hb2)
          (try clear hk)
          (try clear hi)
          (try clear ho0)
          obtain ⟨Ao75, co75, eo75⟩ := Kd.R_slice HO352.out
          (first | subst eo75 | (injection eo75 with f1_ f2_ f3_; have f4_ := f1_.symm; have f5_ := f3_.symm; clear f1_ f2_ f3_; subst f4_; subst f5_))
          refine hK.out _ _ ⟨(blk_cell BK338.out 0).trans rfl, (blk_cell BK318.out 0).trans rfl⟩ (fun hHeld => ?_)
          clear hK K
          refine norm_ (a' := ?_) ?_ ?_
          rotate_left
          ·show Act.put _ (some 69) _ = _
           simp only [Act.put, List.setIfInBounds_toArray, List.set_cons_zero, List.set_cons_succ, i64_w, i32_w]
           rfl
          refine one_ (i := 3) (N := some 70) #[true, true, true, true, false] rfl rfl (by kernel_rfl) (by decide) (fun K hK => ?_)
          refine goes_ Try.func14 (by kernel_rfl) rfl #[.agg #[.slice Ao42 t335.length co42], .agg #[.slice Ao75 t350.length co75]] (by rfl) rfl rfl (aq) ?_
          with_reducible refine (laws_eqTree.calls kj26 _ _ t335 _ _ t350 true _ ?side1 ?side2 ?side3 ?side4 A61.out).mono ?_
          (case side1 => exact cq (Kd.R_reads' HO_339000.out).2.2)
          (case side2 => exact (Kd.R_reads' HO_339000.out).2.1)
          (case side3 => exact cq (Kd.R_reads' HO352.out).2.2)
          (case side4 => exact (Kd.R_reads' HO352.out).2.1)
          rintro e w76 ⟨rfl, hb⟩
          refine ⟨_, rfl, ?_⟩
          replace HO_8 := am (Kd.R_below (rq HO_8.out) hb)
          replace HO_11 := am (Kd.R_below (rq HO_11.out) hb)
          replace HO_12 := am (Kd.R_below (rq HO_12.out) hb)
          replace HO_13 := am (Kd.R_below (rq HO_13.out) hb)
          replace HO_339000 := am (Kd.R_below (rq HO_339000.out) hb)
          replace HO352 := am (Kd.R_below (rq HO352.out) hb)
          replace BK318 := am (blk_below (g := gb318) (o := .cells #[.slice A0_0 l0_0.length c0_0] 24 (0, 0)) (kq BK318.out) hb)
          replace BK338 := am (blk_below (g := gb338) (o := .cells #[.slice Ao42 t335.length co42] 33 (0, 0)) (kq BK338.out) hb)
          replace HB := am (below_step (Y6) hb)
          (try clear hb)
          (try clear hb2)
          (try clear hk)
          (try clear hi)
          refine hK.out _ _ ⟨(blk_cell BK338.out 0).trans rfl, (blk_cell BK318.out 0).trans rfl⟩ (fun hHeld => ?_)
          clear hK K
          refine norm_ (a' := ?_) ?_ ?_
          rotate_left
          ·show Act.put _ (some 70) _ = _
           simp only [Act.put, List.setIfInBounds_toArray, List.set_cons_zero, List.set_cons_succ, i64_w, i32_w]
           rfl
          refine pure_ (i := 4) (N := some 71) (v := ?_) (a' := ?_) #[true, true, true, true, true] rfl rfl (by kernel_rfl) (fun _ _ _ h => h) (Or.inl ⟨by rfl, ?_⟩) ?_ ?_
          rotate_left
          ·exact sb
          rotate_left
          ·exact sa
          refine done_ (by kernel_rfl) ?_
          go_upto_region 28 with (first | ((with_reducible refine gate_callee (f := 11) rfl ?_); refine gL (some 74) Try.func11 #[.slice A1 l1.length c1] ?_; (with_reducible refine (laws_toLineS.calls kj26 _ _ l1 t354 _ ?side1 ?side2 A63.out).mono ?_); (case side1 => exact cq (Kd.C_below HR1.out HB.out)); (case side2 => exact HC1.out); rintro e w77 ⟨v355, rfl, ho0, hb⟩; refine ⟨_, rfl, ?_⟩; have HO356 := am (Kd.R_lower (Kd.R_new' (Kd.R_new' (Kd.R_new' (Kd.R_new' ho0 (Kd.R_lt (rq HO_8.out))) (Kd.R_lt (rq HO_11.out))) (Kd.R_lt (rq HO_12.out))) (Kd.R_lt (rq HO_13.out))) (below_size (Y6))); replace HO_8 := am (Kd.R_elder' (rq HO_8.out) (Kd.R_base ho0) hb); replace HO_11 := am (Kd.R_elder' (rq HO_11.out) (Kd.R_base ho0) hb); replace HO_12 := am (Kd.R_elder' (rq HO_12.out) (Kd.R_base ho0) hb); replace HO_13 := am (Kd.R_elder' (rq HO_13.out) (Kd.R_base ho0) hb); replace HO_339000 := am (Kd.R_below (rq HO_339000.out) hb); replace HO352 := am (Kd.R_below (rq HO352.out) hb); replace BK318 := am (blk_below (g := gb318) (o := .cells #[.slice A0_0 l0_0.length c0_0] 24 (0, 0)) (kq BK318.out) hb); replace BK338 := am (blk_below (g := gb338) (o := .cells #[.slice Ao42 t335.length co42] 33 (0, 0)) (kq BK338.out) hb); replace HB := am (below_step (Y6) hb); (try clear hb); (try clear hb2); (try clear hk); (try clear hi); (try clear ho0); obtain ⟨Ao78, co78, eo78⟩ := Kd.R_slice HO356.out; subst eo78) | ((with_reducible refine gate_callee (f := 13) rfl ?_); refine gL (some 75) Try.func13 #[.slice Ao48 t339.length co48, .slice Ao78 t354.length co78] ?_; (with_reducible refine (laws_eqLineS.calls kj26 _ _ t339 _ _ t354 true _ ?side1 ?side2 ?side3 ?side4 A64.out).mono ?_); (case side1 => exact cq (Kd.R_reads' HO_11.out).2.2); (case side2 => exact (Kd.R_reads' HO_11.out).2.1); (case side3 => exact cq (Kd.R_reads' HO356.out).2.2); (case side4 => exact (Kd.R_reads' HO356.out).2.1); rintro e w79 ⟨rfl, hb⟩; refine ⟨_, rfl, ?_⟩; replace HO_8 := am (Kd.R_below (rq HO_8.out) hb); replace HO_11 := am (Kd.R_below (rq HO_11.out) hb); replace HO_12 := am (Kd.R_below (rq HO_12.out) hb); replace HO_13 := am (Kd.R_below (rq HO_13.out) hb); replace HO_339000 := am (Kd.R_below (rq HO_339000.out) hb); replace HO352 := am (Kd.R_below (rq HO352.out) hb); replace HO356 := am (Kd.R_below (rq HO356.out) hb); replace BK318 := am (blk_below (g := gb318) (o := .cells #[.slice A0_0 l0_0.length c0_0] 24 (0, 0)) (kq BK318.out) hb); replace BK338 := am (blk_below (g := gb338) (o := .cells #[.slice Ao42 t335.length co42] 33 (0, 0)) (kq BK338.out) hb); replace HB := am (below_step (Y6) hb); (try clear hb); (try clear hb2); (try clear hk); (try clear hi)) | ((with_reducible refine gate_callee (f := 11) rfl ?_); refine gL (some 79) Try.func11 #[.slice A2 l2.length c2] ?_; (with_reducible refine (laws_toLineS.calls kj26 _ _ l2 t358 _ ?side1 ?side2 A66.out).mono ?_); (case side1 => exact cq (Kd.C_below HR2.out HB.out)); (case side2 => exact HC2.out); rintro e w80 ⟨v359, rfl, ho0, hb⟩; refine ⟨_, rfl, ?_⟩; have HO360 := am (Kd.R_lower (Kd.R_new' (Kd.R_new' (Kd.R_new' (Kd.R_new' (Kd.R_new' ho0 (Kd.R_lt (rq HO_8.out))) (Kd.R_lt (rq HO_11.out))) (Kd.R_lt (rq HO_12.out))) (Kd.R_lt (rq HO_13.out))) (Kd.R_lt (rq HO356.out))) (below_size (Y6))); replace HO_8 := am (Kd.R_elder' (rq HO_8.out) (Kd.R_base ho0) hb); replace HO_11 := am (Kd.R_elder' (rq HO_11.out) (Kd.R_base ho0) hb); replace HO_12 := am (Kd.R_elder' (rq HO_12.out) (Kd.R_base ho0) hb); replace HO_13 := am (Kd.R_elder' (rq HO_13.out) (Kd.R_base ho0) hb); replace HO_339000 := am (Kd.R_below (rq HO_339000.out) hb); replace HO352 := am (Kd.R_below (rq HO352.out) hb); replace HO356 := am (Kd.R_elder' (rq HO356.out) (Kd.R_base ho0) hb); replace BK318 := am (blk_below (g := gb318) (o := .cells #[.slice A0_0 l0_0.length c0_0] 24 (0, 0)) (kq BK318.out) hb); replace BK338 := am (blk_below (g := gb338) (o := .cells #[.slice Ao42 t335.length co42] 33 (0, 0)) (kq BK338.out) hb); replace HB := am (below_step (Y6) hb); (try clear hb); (try clear hb2); (try clear hk); (try clear hi); (try clear ho0); obtain ⟨Ao81, co81, eo81⟩ := Kd.R_slice HO360.out; subst eo81) | ((with_reducible refine gate_callee (f := 13) rfl ?_); refine gL (some 80) Try.func13 #[.slice Ao49 t342.length co49, .slice Ao81 t358.length co81] ?_; (with_reducible refine (laws_eqLineS.calls kj26 _ _ t342 _ _ t358 true _ ?side1 ?side2 ?side3 ?side4 A67.out).mono ?_); (case side1 => exact cq (Kd.R_reads' HO_12.out).2.2); (case side2 => exact (Kd.R_reads' HO_12.out).2.1); (case side3 => exact cq (Kd.R_reads' HO360.out).2.2); (case side4 => exact (Kd.R_reads' HO360.out).2.1); rintro e w82 ⟨rfl, hb⟩; refine ⟨_, rfl, ?_⟩; replace HO_8 := am (Kd.R_below (rq HO_8.out) hb); replace HO_11 := am (Kd.R_below (rq HO_11.out) hb); replace HO_12 := am (Kd.R_below (rq HO_12.out) hb); replace HO_13 := am (Kd.R_below (rq HO_13.out) hb); replace HO_339000 := am (Kd.R_below (rq HO_339000.out) hb); replace HO352 := am (Kd.R_below (rq HO352.out) hb); replace HO356 := am (Kd.R_below (rq HO356.out) hb); replace HO360 := am (Kd.R_below (rq HO360.out) hb); replace BK318 := am (blk_below (g := gb318) (o := .cells #[.slice A0_0 l0_0.length c0_0] 24 (0, 0)) (kq BK318.out) hb); replace BK338 := am (blk_below (g := gb338) (o := .cells #[.slice Ao42 t335.length co42] 33 (0, 0)) (kq BK338.out) hb); replace HB := am (below_step (Y6) hb); (try clear hb); (try clear hb2); (try clear hk); (try clear hi); have hnb83 := NB338_318.out; have hnc83 := NB318_338.out; have hcz84_0 := bc0 BK338.out; have hfz84_0 := blk_frozen BK338.out 0) | ((with_reducible refine gate_callee (f := 15) rfl ?_); refine gL (some 84) Try.func15 #[.agg #[.slice Ao42 t335.length co42], .int .i64 1] ?_; (with_reducible refine (laws_markTree.calls kj26 (fun k_ => some k_ = (.slice Ao42 t335.length co42 : Value).ownBlock) (.slice Ao42 t335.length co42) t335 1 t362 t363 w _ ?side1 ?side2 A69.out).mono ?_); (case side1 => exact Y6); (case side2 => exact Kd.R_tight rfl HO_339000.out); rintro e w85 ⟨rfl, hy0, hb, hkp⟩; refine ⟨_, rfl, ?_⟩; replace HO_8 := am (Kd.R_mono (ok' := fun k_ => some k_ ≠ (.slice Ao48 t339.length co48 : Value).ownBlock ∧ some k_ ≠ (.slice Ao49 t342.length co49 : Value).ownBlock ∧ some k_ ≠ (v346 : Value).ownBlock ∧ some k_ ≠ (.slice Ao78 t354.length co78 : Value).ownBlock ∧ some k_ ≠ (.slice Ao81 t358.length co81 : Value).ownBlock) (Kd.R_keptB ((Kd.R_apart' HO_8.out (Kd.R_typed HO_339000.out) (by decide))) hkp (fun k_ hk_ hs_ => (hk_.2) hs_)) (fun k_ hk_ => ⟨hk_.1.1.1.1.1, hk_.1.1.1.1.2.1, hk_.1.1.1.1.2.2, hk_.1.1.1.2, hk_.1.1.2⟩)); replace HO_11 := am (Kd.R_mono (ok' := fun k_ => some k_ ≠ (v332 : Value).ownBlock ∧ some k_ ≠ (.slice Ao49 t342.length co49 : Value).ownBlock ∧ some k_ ≠ (v346 : Value).ownBlock ∧ some k_ ≠ (.slice Ao78 t354.length co78 : Value).ownBlock ∧ some k_ ≠ (.slice Ao81 t358.length co81 : Value).ownBlock) (Kd.R_keptB ((Kd.R_apart' HO_11.out (Kd.R_typed HO_339000.out) (by decide))) hkp (fun k_ hk_ hs_ => (hk_.2) hs_)) (fun k_ hk_ => ⟨hk_.1.1.1.1.1, hk_.1.1.1.1.2.1, hk_.1.1.1.1.2.2, hk_.1.1.1.2, hk_.1.1.2⟩)); replace HO_12 := am (Kd.R_mono (ok' := fun k_ => some k_ ≠ (v332 : Value).ownBlock ∧ some k_ ≠ (.slice Ao48 t339.length co48 : Value).ownBlock ∧ some k_ ≠ (v346 : Value).ownBlock ∧ some k_ ≠ (.slice Ao78 t354.length co78 : Value).ownBlock ∧ some k_ ≠ (.slice Ao81 t358.length co81 : Value).ownBlock) (Kd.R_keptB ((Kd.R_apart' HO_12.out (Kd.R_typed HO_339000.out) (by decide))) hkp (fun k_ hk_ hs_ => (hk_.2) hs_)) (fun k_ hk_ => ⟨hk_.1.1.1.1.1, hk_.1.1.1.1.2.1, hk_.1.1.1.1.2.2, hk_.1.1.1.2, hk_.1.1.2⟩)); replace HO_13 := am (Kd.R_mono (ok' := fun k_ => some k_ ≠ (v332 : Value).ownBlock ∧ some k_ ≠ (.slice Ao48 t339.length co48 : Value).ownBlock ∧ some k_ ≠ (.slice Ao49 t342.length co49 : Value).ownBlock ∧ some k_ ≠ (.slice Ao78 t354.length co78 : Value).ownBlock ∧ some k_ ≠ (.slice Ao81 t358.length co81 : Value).ownBlock) (Kd.R_keptB ((Kd.R_apart' HO_13.out (Kd.R_typed HO_339000.out) (by decide))) hkp (fun k_ hk_ hs_ => (hk_.2) hs_)) (fun k_ hk_ => ⟨hk_.1.1.1.1.1, hk_.1.1.1.1.2.1, hk_.1.1.1.1.2.2, hk_.1.1.1.2, hk_.1.1.2⟩)); replace BK318 := am (blk_kept (kq BK318.out) hkp (fun hs_ => (fun e_ => (Kd.R_ne HO_339000.out BK318.out (by decide)) e_) hs_)); replace BK338 := am (blk_kept (kq BK338.out) hkp (fun hs_ => (fun e_ => (Kd.R_ne HO_339000.out BK338.out (by decide)) e_) hs_)); replace HO352 := am (Kd.R_mono (ok' := fun k_ => some k_ ≠ (.slice Ao42 t335.length co42 : Value).ownBlock) (Kd.R_keptB (HO352.out) hkp (fun k_ hk_ hs_ => (hk_.2) hs_)) (fun k_ hk_ => hk_.1.2)); replace HO356 := am (Kd.R_mono (ok' := fun k_ => some k_ ≠ (v332 : Value).ownBlock ∧ some k_ ≠ (.slice Ao48 t339.length co48 : Value).ownBlock ∧ some k_ ≠ (.slice Ao49 t342.length co49 : Value).ownBlock ∧ some k_ ≠ (v346 : Value).ownBlock ∧ some k_ ≠ (.slice Ao81 t358.length co81 : Value).ownBlock) (Kd.R_keptB ((Kd.R_apart' HO356.out (Kd.R_typed HO_339000.out) (by decide))) hkp (fun k_ hk_ hs_ => (hk_.2) hs_)) (fun k_ hk_ => ⟨hk_.1.1.1.1.1.1.2, hk_.1.1.1.1.1.2, hk_.1.1.1.1.2, hk_.1.1.1.2, hk_.1.1.2⟩)); replace HO360 := am (Kd.R_mono (ok' := fun k_ => some k_ ≠ (v332 : Value).ownBlock ∧ some k_ ≠ (.slice Ao48 t339.length co48 : Value).ownBlock ∧ some k_ ≠ (.slice Ao49 t342.length co49 : Value).ownBlock ∧ some k_ ≠ (v346 : Value).ownBlock ∧ some k_ ≠ (.slice Ao78 t354.length co78 : Value).ownBlock) (Kd.R_keptB ((Kd.R_apart' HO360.out (Kd.R_typed HO_339000.out) (by decide))) hkp (fun k_ hk_ hs_ => (hk_.2) hs_)) (fun k_ hk_ => ⟨hk_.1.1.1.1.1.1.2, hk_.1.1.1.1.1.2, hk_.1.1.1.1.2, hk_.1.1.1.2, hk_.1.1.2⟩)); replace HO_339000 := am (Kd.R_reok rfl hy0 (fun k_ e_ => HO_339000.out.1 k_ e_)); replace HB := am (hb); (try clear hb); (try clear hkp); (try clear hy0)) | ((with_reducible refine gate_callee (f := 16) rfl ?_); refine gL (some 87) Try.func16 #[.slice Ao48 t339.length co48, .int .i64 t362] ?_; (with_reducible refine (laws_markLineS.calls kj26 (fun k_ => some k_ = (.slice Ao48 t339.length co48 : Value).ownBlock) (.slice Ao48 t339.length co48) t339 t362 t364 t365 w _ ?side1 ?side2 A70.out).mono ?_); (case side1 => exact Y6); (case side2 => exact Kd.R_tight rfl HO_11.out); rintro e w86 ⟨rfl, hy0, hb, hkp⟩; refine ⟨_, rfl, ?_⟩; replace HO_8 := am (Kd.R_mono (ok' := fun k_ => some k_ ≠ (.slice Ao48 t339.length co48 : Value).ownBlock ∧ some k_ ≠ (.slice Ao49 t342.length co49 : Value).ownBlock ∧ some k_ ≠ (v346 : Value).ownBlock ∧ some k_ ≠ (.slice Ao78 t354.length co78 : Value).ownBlock ∧ some k_ ≠ (.slice Ao81 t358.length co81 : Value).ownBlock) (Kd.R_keptB (HO_8.out) hkp (fun k_ hk_ hs_ => (hk_.1) hs_)) (fun k_ hk_ => ⟨hk_.1.1, hk_.1.2.1, hk_.1.2.2.1, hk_.1.2.2.2.1, hk_.1.2.2.2.2⟩)); replace HO_12 := am (Kd.R_mono (ok' := fun k_ => some k_ ≠ (v332 : Value).ownBlock ∧ some k_ ≠ (.slice Ao48 t339.length co48 : Value).ownBlock ∧ some k_ ≠ (v346 : Value).ownBlock ∧ some k_ ≠ (.slice Ao78 t354.length co78 : Value).ownBlock ∧ some k_ ≠ (.slice Ao81 t358.length co81 : Value).ownBlock) (Kd.R_keptB (HO_12.out) hkp (fun k_ hk_ hs_ => (hk_.2.1) hs_)) (fun k_ hk_ => ⟨hk_.1.1, hk_.1.2.1, hk_.1.2.2.1, hk_.1.2.2.2.1, hk_.1.2.2.2.2⟩)); replace HO_13 := am (Kd.R_mono (ok' := fun k_ => some k_ ≠ (v332 : Value).ownBlock ∧ some k_ ≠ (.slice Ao48 t339.length co48 : Value).ownBlock ∧ some k_ ≠ (.slice Ao49 t342.length co49 : Value).ownBlock ∧ some k_ ≠ (.slice Ao78 t354.length co78 : Value).ownBlock ∧ some k_ ≠ (.slice Ao81 t358.length co81 : Value).ownBlock) (Kd.R_keptB (HO_13.out) hkp (fun k_ hk_ hs_ => (hk_.2.1) hs_)) (fun k_ hk_ => ⟨hk_.1.1, hk_.1.2.1, hk_.1.2.2.1, hk_.1.2.2.2.1, hk_.1.2.2.2.2⟩)); replace HO_339000 := am (Kd.R_mono (ok' := fun k_ => some k_ ≠ (.slice Ao75 t350.length co75 : Value).ownBlock) (Kd.R_keptB ((Kd.R_apart' HO_339000.out (Kd.R_typed HO_11.out) (by decide))) hkp (fun k_ hk_ hs_ => (hk_.2) hs_)) (fun k_ hk_ => hk_.1.1.2)); replace BK318 := am (blk_kept (kq BK318.out) hkp (fun hs_ => (fun e_ => (Kd.R_ne HO_11.out BK318.out (by decide)) e_) hs_)); replace BK338 := am (blk_kept (kq BK338.out) hkp (fun hs_ => (fun e_ => (Kd.R_ne HO_11.out BK338.out (by decide)) e_) hs_)); replace HO352 := am (Kd.R_mono (ok' := fun k_ => some k_ ≠ (.slice Ao42 t335.length co42 : Value).ownBlock) (Kd.R_keptB ((Kd.R_apart' HO352.out (Kd.R_typed HO_11.out) (by decide))) hkp (fun k_ hk_ hs_ => (hk_.2) hs_)) (fun k_ hk_ => hk_.1.1)); replace HO_11 := am (Kd.R_reok rfl hy0 (fun k_ e_ => HO_11.out.1 k_ e_)); replace HO356 := am (Kd.R_mono (ok' := fun k_ => some k_ ≠ (v332 : Value).ownBlock ∧ some k_ ≠ (.slice Ao48 t339.length co48 : Value).ownBlock ∧ some k_ ≠ (.slice Ao49 t342.length co49 : Value).ownBlock ∧ some k_ ≠ (v346 : Value).ownBlock ∧ some k_ ≠ (.slice Ao81 t358.length co81 : Value).ownBlock) (Kd.R_keptB (HO356.out) hkp (fun k_ hk_ hs_ => (hk_.2.1) hs_)) (fun k_ hk_ => ⟨hk_.1.1, hk_.1.2.1, hk_.1.2.2.1, hk_.1.2.2.2.1, hk_.1.2.2.2.2⟩)); replace HO360 := am (Kd.R_mono (ok' := fun k_ => some k_ ≠ (v332 : Value).ownBlock ∧ some k_ ≠ (.slice Ao48 t339.length co48 : Value).ownBlock ∧ some k_ ≠ (.slice Ao49 t342.length co49 : Value).ownBlock ∧ some k_ ≠ (v346 : Value).ownBlock ∧ some k_ ≠ (.slice Ao78 t354.length co78 : Value).ownBlock) (Kd.R_keptB (HO360.out) hkp (fun k_ hk_ hs_ => (hk_.2.1) hs_)) (fun k_ hk_ => ⟨hk_.1.1, hk_.1.2.1, hk_.1.2.2.1, hk_.1.2.2.2.1, hk_.1.2.2.2.2⟩)); replace HB := am (hb); (try clear hb); (try clear hkp); (try clear hy0)) | ((with_reducible refine gate_callee (f := 16) rfl ?_); refine gL (some 90) Try.func16 #[.slice Ao49 t342.length co49, .int .i64 t364] ?_; (with_reducible refine (laws_markLineS.calls kj26 (fun k_ => some k_ = (.slice Ao49 t342.length co49 : Value).ownBlock) (.slice Ao49 t342.length co49) t342 t364 t366 t367 w _ ?side1 ?side2 A71.out).mono ?_); (case side1 => exact Y6); (case side2 => exact Kd.R_tight rfl HO_12.out); rintro e w87 ⟨rfl, hy0, hb, hkp⟩; refine ⟨_, rfl, ?_⟩; replace HO_8 := am (Kd.R_mono (ok' := fun k_ => some k_ ≠ (.slice Ao48 t339.length co48 : Value).ownBlock ∧ some k_ ≠ (.slice Ao49 t342.length co49 : Value).ownBlock ∧ some k_ ≠ (v346 : Value).ownBlock ∧ some k_ ≠ (.slice Ao78 t354.length co78 : Value).ownBlock ∧ some k_ ≠ (.slice Ao81 t358.length co81 : Value).ownBlock) (Kd.R_keptB (HO_8.out) hkp (fun k_ hk_ hs_ => (hk_.2.1) hs_)) (fun k_ hk_ => ⟨hk_.1.1, hk_.1.2.1, hk_.1.2.2.1, hk_.1.2.2.2.1, hk_.1.2.2.2.2⟩)); replace HO_11 := am (Kd.R_mono (ok' := fun k_ => some k_ ≠ (v332 : Value).ownBlock ∧ some k_ ≠ (.slice Ao49 t342.length co49 : Value).ownBlock ∧ some k_ ≠ (v346 : Value).ownBlock ∧ some k_ ≠ (.slice Ao78 t354.length co78 : Value).ownBlock ∧ some k_ ≠ (.slice Ao81 t358.length co81 : Value).ownBlock) (Kd.R_keptB (HO_11.out) hkp (fun k_ hk_ hs_ => (hk_.2.1) hs_)) (fun k_ hk_ => ⟨hk_.1.1, hk_.1.2.1, hk_.1.2.2.1, hk_.1.2.2.2.1, hk_.1.2.2.2.2⟩)); replace HO_13 := am (Kd.R_mono (ok' := fun k_ => some k_ ≠ (v332 : Value).ownBlock ∧ some k_ ≠ (.slice Ao48 t339.length co48 : Value).ownBlock ∧ some k_ ≠ (.slice Ao49 t342.length co49 : Value).ownBlock ∧ some k_ ≠ (.slice Ao78 t354.length co78 : Value).ownBlock ∧ some k_ ≠ (.slice Ao81 t358.length co81 : Value).ownBlock) (Kd.R_keptB (HO_13.out) hkp (fun k_ hk_ hs_ => (hk_.2.2.1) hs_)) (fun k_ hk_ => ⟨hk_.1.1, hk_.1.2.1, hk_.1.2.2.1, hk_.1.2.2.2.1, hk_.1.2.2.2.2⟩)); replace HO_339000 := am (Kd.R_mono (ok' := fun k_ => some k_ ≠ (.slice Ao75 t350.length co75 : Value).ownBlock) (Kd.R_keptB ((Kd.R_apart' HO_339000.out (Kd.R_typed HO_12.out) (by decide))) hkp (fun k_ hk_ hs_ => (hk_.2) hs_)) (fun k_ hk_ => hk_.1.1)); replace BK318 := am (blk_kept (kq BK318.out) hkp (fun hs_ => (fun e_ => (Kd.R_ne HO_12.out BK318.out (by decide)) e_) hs_)); replace BK338 := am (blk_kept (kq BK338.out) hkp (fun hs_ => (fun e_ => (Kd.R_ne HO_12.out BK338.out (by decide)) e_) hs_)); replace HO352 := am (Kd.R_mono (ok' := fun k_ => some k_ ≠ (.slice Ao42 t335.length co42 : Value).ownBlock) (Kd.R_keptB ((Kd.R_apart' HO352.out (Kd.R_typed HO_12.out) (by decide))) hkp (fun k_ hk_ hs_ => (hk_.2) hs_)) (fun k_ hk_ => hk_.1.1)); replace HO_12 := am (Kd.R_reok rfl hy0 (fun k_ e_ => HO_12.out.1 k_ e_)); replace HO356 := am (Kd.R_mono (ok' := fun k_ => some k_ ≠ (v332 : Value).ownBlock ∧ some k_ ≠ (.slice Ao48 t339.length co48 : Value).ownBlock ∧ some k_ ≠ (.slice Ao49 t342.length co49 : Value).ownBlock ∧ some k_ ≠ (v346 : Value).ownBlock ∧ some k_ ≠ (.slice Ao81 t358.length co81 : Value).ownBlock) (Kd.R_keptB (HO356.out) hkp (fun k_ hk_ hs_ => (hk_.2.2.1) hs_)) (fun k_ hk_ => ⟨hk_.1.1, hk_.1.2.1, hk_.1.2.2.1, hk_.1.2.2.2.1, hk_.1.2.2.2.2⟩)); replace HO360 := am (Kd.R_mono (ok' := fun k_ => some k_ ≠ (v332 : Value).ownBlock ∧ some k_ ≠ (.slice Ao48 t339.length co48 : Value).ownBlock ∧ some k_ ≠ (.slice Ao49 t342.length co49 : Value).ownBlock ∧ some k_ ≠ (v346 : Value).ownBlock ∧ some k_ ≠ (.slice Ao78 t354.length co78 : Value).ownBlock) (Kd.R_keptB (HO360.out) hkp (fun k_ hk_ hs_ => (hk_.2.2.1) hs_)) (fun k_ hk_ => ⟨hk_.1.1, hk_.1.2.1, hk_.1.2.2.1, hk_.1.2.2.2.1, hk_.1.2.2.2.2⟩)); replace HB := am (hb); (try clear hb); (try clear hkp); (try clear hy0)))
          (try simp only [Act.put, List.setIfInBounds_toArray, List.set_cons_zero, List.set_cons_succ])
          go_cut [103] (fun v103 wc => ∃ (kq : Nat) (x103_71 : Bool), v103 = .bool x103_71 ∧ Aside0 (laws_FnExactThenProgram.j1 kq l1 l2 t331 t334 t345 x103_71 l0_0 = some r) ∧ Aside0 (kq ≤ kj26) ∧ Aside0 (Kd.R k50 50 wc w.heap.size (fun k_ => some k_ ≠ (v346 : Value).ownBlock) v332 t331) ∧ Aside0 (Kd.R k50 50 wc w.heap.size (fun k_ => some k_ ≠ (v332 : Value).ownBlock) v346 t345) ∧ Aside0 (Kd.R k63 63 wc w.heap.size (fun _ => True) (.slice Ao42 t335.length co42) t363) ∧ Aside0 (wc.heap[gb318]? = some (.cells #[(.slice A0_0 l0_0.length c0_0)] 24 (0, 0))) ∧ Aside0 (wc.heap[gb338]? = some (.cells #[(.slice Ao42 t335.length co42)] 33 (0, 0))) ∧ Aside0 (Below w.heap.size w wc))
          case first =>
           have H := HC72.out
           clear HC72
           by_cases c88 : t366 < 0
           ·rw [if_pos c88] at H
            have c88b0 : decide (t366 < 0) = true := decide_eq_true c88
            clear c88
            (first | rw [c88b0] | (simp only [i64_w, i32_w]; rw [c88b0]) | skip)
            have H' := am H
            clear H
            go_wp2
            go_meet
            case rel => exact ⟨_, (true), (sq), H', ⟨by have := HJ26.out; first | omega | exact Nat.le_refl _⟩, ⟨by (with_reducible repeat (first | apply Kd.R_alloc | apply Kd.R_drewN | apply Kd.R_drew)); exact Kd.R_mono HO_8.out (fun _ hk => hk.2.2.1)⟩, ⟨by (with_reducible repeat (first | apply Kd.R_alloc | apply Kd.R_drewN | apply Kd.R_drew)); exact Kd.R_mono HO_13.out (fun _ hk => hk.1)⟩, ⟨by (with_reducible repeat (first | apply Kd.R_alloc | apply Kd.R_drewN | apply Kd.R_drew)); exact Kd.R_mono HO_339000.out (fun _ hk => trivial)⟩, ⟨kq BK318.out⟩, ⟨kq BK338.out⟩, ⟨Y6⟩⟩
           ·rw [if_neg c88] at H
            have c88b0 : decide (t366 < 0) = false := decide_eq_false c88
            clear c88
            (first | rw [c88b0] | (simp only [i64_w, i32_w]; rw [c88b0]) | skip)
            replace H := Option.bind_eq_some_iff.mp H
            obtain ⟨t368, A890, H⟩ := H
            replace H : (if t368 = true then (laws_FnExactThenProgram.j1 kj26 l1 l2 t331 t334 t345 (t348 != t334) l0_0) else (laws_FnExactThenProgram.j1 kj26 l1 l2 t331 t334 t345 true l0_0)) = some r := H
            have A89 := am A890
            clear A890
            by_cases c90 : t368 = true
            ·subst c90
             have H1 : (laws_FnExactThenProgram.j1 kj26 l1 l2 t331 t334 t345 (t348 != t334) l0_0) = some r := by rw [if_pos rfl] at H; exact H
             clear H
             have H := H1
             clear H1
             have H' := am H
             clear H
             obtain ⟨Ao91, co91, eo91⟩ := Kd.R_slice HO_13.out
             subst eo91
             obtain ⟨Ao92, co92, eo92⟩ := Kd.R_slice HO_8.out
             subst eo92
             go_wp2_with (first | (go_at_call 13; (with_reducible refine (laws_eqLineS.calls kj26 _ _ t345 _ _ t331 true _ ?side1 ?side2 ?side3 ?side4 A89.out).mono ?_); (case side1 => exact cq (Kd.R_reads' HO_13.out).2.2); (case side2 => exact (Kd.R_reads' HO_13.out).2.1); (case side3 => exact cq (Kd.R_reads' HO_8.out).2.2); (case side4 => exact (Kd.R_reads' HO_8.out).2.1); rintro e w93 ⟨rfl, hb⟩; replace HO_8 := am (Kd.R_below (rq HO_8.out) hb); replace HO_11 := am (Kd.R_below (rq HO_11.out) hb); replace HO_12 := am (Kd.R_below (rq HO_12.out) hb); replace HO_13 := am (Kd.R_below (rq HO_13.out) hb); replace HO_339000 := am (Kd.R_below (rq HO_339000.out) hb); replace HO352 := am (Kd.R_below (rq HO352.out) hb); replace HO356 := am (Kd.R_below (rq HO356.out) hb); replace HO360 := am (Kd.R_below (rq HO360.out) hb); replace BK318 := am (blk_below (g := gb318) (o := .cells #[.slice A0_0 l0_0.length c0_0] 24 (0, 0)) (kq BK318.out) hb); replace BK338 := am (blk_below (g := gb338) (o := .cells #[.slice Ao42 t335.length co42] 33 (0, 0)) (kq BK338.out) hb); replace HB := am (below_step (Y6) hb); (try clear hb); (try clear hb2); (try clear hk); (try clear hi)))
             go_meet
             case rel => exact ⟨_, ((t348 != t334)), (sq), H', ⟨by have := HJ26.out; first | omega | exact Nat.le_refl _⟩, ⟨by (with_reducible repeat (first | apply Kd.R_alloc | apply Kd.R_drewN | apply Kd.R_drew)); exact Kd.R_mono HO_8.out (fun _ hk => hk.2.2.1)⟩, ⟨by (with_reducible repeat (first | apply Kd.R_alloc | apply Kd.R_drewN | apply Kd.R_drew)); exact Kd.R_mono HO_13.out (fun _ hk => hk.1)⟩, ⟨by (with_reducible repeat (first | apply Kd.R_alloc | apply Kd.R_drewN | apply Kd.R_drew)); exact Kd.R_mono HO_339000.out (fun _ hk => trivial)⟩, ⟨kq BK318.out⟩, ⟨kq BK338.out⟩, ⟨Y6⟩⟩
            ·replace c90 := Bool.eq_false_iff.mpr c90
             subst c90
             have H1 : (laws_FnExactThenProgram.j1 kj26 l1 l2 t331 t334 t345 true l0_0) = some r := by rw [if_neg (show ¬ (false = true) by decide)] at H; exact H
             clear H
             have H := H1
             clear H1
             have H' := am H
             clear H
             obtain ⟨Ao94, co94, eo94⟩ := Kd.R_slice HO_13.out
             subst eo94
             obtain ⟨Ao95, co95, eo95⟩ := Kd.R_slice HO_8.out
             subst eo95
             go_wp2_with (first | (go_at_call 13; (with_reducible refine (laws_eqLineS.calls kj26 _ _ t345 _ _ t331 false _ ?side1 ?side2 ?side3 ?side4 A89.out).mono ?_); (case side1 => exact cq (Kd.R_reads' HO_13.out).2.2); (case side2 => exact (Kd.R_reads' HO_13.out).2.1); (case side3 => exact cq (Kd.R_reads' HO_8.out).2.2); (case side4 => exact (Kd.R_reads' HO_8.out).2.1); rintro e w96 ⟨rfl, hb⟩; replace HO_8 := am (Kd.R_below (rq HO_8.out) hb); replace HO_11 := am (Kd.R_below (rq HO_11.out) hb); replace HO_12 := am (Kd.R_below (rq HO_12.out) hb); replace HO_13 := am (Kd.R_below (rq HO_13.out) hb); replace HO_339000 := am (Kd.R_below (rq HO_339000.out) hb); replace HO352 := am (Kd.R_below (rq HO352.out) hb); replace HO356 := am (Kd.R_below (rq HO356.out) hb); replace HO360 := am (Kd.R_below (rq HO360.out) hb); replace BK318 := am (blk_below (g := gb318) (o := .cells #[.slice A0_0 l0_0.length c0_0] 24 (0, 0)) (kq BK318.out) hb); replace BK338 := am (blk_below (g := gb338) (o := .cells #[.slice Ao42 t335.length co42] 33 (0, 0)) (kq BK338.out) hb); replace HB := am (below_step (Y6) hb); (try clear hb); (try clear hb2); (try clear hk); (try clear hi)))
             go_meet
             case rel => exact ⟨_, (true), (sq), H', ⟨by have := HJ26.out; first | omega | exact Nat.le_refl _⟩, ⟨by (with_reducible repeat (first | apply Kd.R_alloc | apply Kd.R_drewN | apply Kd.R_drew)); exact Kd.R_mono HO_8.out (fun _ hk => hk.2.2.1)⟩, ⟨by (with_reducible repeat (first | apply Kd.R_alloc | apply Kd.R_drewN | apply Kd.R_drew)); exact Kd.R_mono HO_13.out (fun _ hk => hk.1)⟩, ⟨by (with_reducible repeat (first | apply Kd.R_alloc | apply Kd.R_drewN | apply Kd.R_drew)); exact Kd.R_mono HO_339000.out (fun _ hk => trivial)⟩, ⟨kq BK318.out⟩, ⟨kq BK338.out⟩, ⟨Y6⟩⟩
          case rest =>
           clear HC72
           try clear c1
           try clear c2
           try clear p2
           try clear c3
           try clear c4
           try clear c5
           try clear c5b0
           try clear c6
           try clear c7
           try clear c8
           try clear c9
           try clear c10
           try clear c10b0
           try clear c11
           try clear c12
           try clear c13
           try clear c14
           try clear c15
           try clear c15b0
           try clear c16
           try clear c43
           try clear c52
           try clear c59
           try clear c62
           try clear c65
           try clear c68
           try clear c83
           try clear c88
           try clear c88b0
           try clear c90
           try clear hcz12_0
           try clear hcz17_0
           try clear hcz29_0
           try clear hcz31_0
           try clear hcz39_0
           try clear hcz44_0
           try clear hcz47_0
           try clear hcz7_0
           try clear hcz84_0
           try clear hfz12_0
           try clear hfz17_0
           try clear hfz29_0
           try clear hfz31_0
           try clear hfz39_0
           try clear hfz44_0
           try clear hfz47_0
           try clear hfz7_0
           try clear hfz84_0
           try clear p2
           obtain ⟨kq, x103_71, rfl, HA, HJ71, HO_8, HO_13, HO_339000, BK318, BK338, HB⟩ := hcut
           have hl339000_71 := (Kd.R_reads' HO_339000.out).1
           rw [hl339000_71] at HO_339000
           (try simp only [hl339000_71])
           (try simp only [hl339000_71] at BK318)
           (try simp only [hl339000_71] at BK338)
           (try simp only [hl339000_71] at HO_8)
           (try simp only [hl339000_71] at HO_13)
           cases kq with
           | zero => exact absurd HA.out (by simp [laws_FnExactThenProgram.j1])
           | succ kj71 =>
            have H := HA.out
            clear HA
            simp only [laws_FnExactThenProgram.j1] at H
            by_cases c97 : x103_71 = true
            ·subst c97
             have H1 : (some false) = some r := by rw [if_pos rfl] at H; exact H
             clear H
             have H := H1
             clear H1
             exact absurd ((Option.some.inj H).trans hT) Bool.false_ne_true
            ·replace c97 := Bool.eq_false_iff.mpr c97
             subst c97
             have H1 : ((laws_markLineS.f kj71 t345 1).bind fun bt369 => ((laws_heldLineS.f kj71 bt369.2 1).bind fun t371 => (if t371 < 0 then (some false) else (if t371 = bt369.1 then ((laws_toTree.f kj71 l0_0).bind fun t372 => ((laws_toLineS.f kj71 l1).bind fun t375 => ((laws_toLineS.f kj71 l2).bind fun t378 => ((impl_ThenProgram.f kj71 t372 t375 t378).bind fun bt381 => ((laws_eqLineS.f kj71 bt381.1 t331).bind fun t385 => (if t385 = true then (laws_FnExactThenProgram.j2 kj71 bt369.2 bt369.1 (bt381.2 != t334)) else (laws_FnExactThenProgram.j2 kj71 bt369.2 bt369.1 true))))))) else (some false))))) = some r := by rw [if_neg (show ¬ (false = true) by decide)] at H; exact H
             clear H
             have H := H1
             clear H1
             replace H := Option.bind_eq_some_iff.mp H
             obtain ⟨⟨t369, t370⟩, A980, H⟩ := H
             replace H : ((laws_heldLineS.f kj71 t370 1).bind fun t371 => (if t371 < 0 then (some false) else (if t371 = t369 then ((laws_toTree.f kj71 l0_0).bind fun t372 => ((laws_toLineS.f kj71 l1).bind fun t375 => ((laws_toLineS.f kj71 l2).bind fun t378 => ((impl_ThenProgram.f kj71 t372 t375 t378).bind fun bt381 => ((laws_eqLineS.f kj71 bt381.1 t331).bind fun t385 => (if t385 = true then (laws_FnExactThenProgram.j2 kj71 t370 t369 (bt381.2 != t334)) else (laws_FnExactThenProgram.j2 kj71 t370 t369 true))))))) else (some false)))) = some r := H
             have A98 := am A980
             clear A980
             replace H := Option.bind_eq_some_iff.mp H
             obtain ⟨t371, A990, H⟩ := H
             replace H : (if t371 < 0 then (some false) else (if t371 = t369 then ((laws_toTree.f kj71 l0_0).bind fun t372 => ((laws_toLineS.f kj71 l1).bind fun t375 => ((laws_toLineS.f kj71 l2).bind fun t378 => ((impl_ThenProgram.f kj71 t372 t375 t378).bind fun bt381 => ((laws_eqLineS.f kj71 bt381.1 t331).bind fun t385 => (if t385 = true then (laws_FnExactThenProgram.j2 kj71 t370 t369 (bt381.2 != t334)) else (laws_FnExactThenProgram.j2 kj71 t370 t369 true))))))) else (some false))) = some r := H
             have A99 := am A990
             clear A990
             by_cases c100 : t371 < 0
             ·rw [if_pos c100] at H
              have c100b0 : decide (t371 < 0) = true := decide_eq_true c100
              clear c100
              exact absurd ((Option.some.inj H).trans hT) Bool.false_ne_true
             ·rw [if_neg c100] at H
              have c100b0 : decide (t371 < 0) = false := decide_eq_false c100
              clear c100
              by_cases c101 : t371 = t369
              ·rw [if_pos c101] at H
               have c101b0 : (t371 == t369) = true := beq_iff_eq.mpr c101
               have c101b1 : (t371 != t369) = false := bne_eq_false_iff_eq.mpr c101
               clear c101
               replace H := Option.bind_eq_some_iff.mp H
               obtain ⟨t372, A1020, H⟩ := H
               replace H : ((laws_toLineS.f kj71 l1).bind fun t375 => ((laws_toLineS.f kj71 l2).bind fun t378 => ((impl_ThenProgram.f kj71 t372 t375 t378).bind fun bt381 => ((laws_eqLineS.f kj71 bt381.1 t331).bind fun t385 => (if t385 = true then (laws_FnExactThenProgram.j2 kj71 t370 t369 (bt381.2 != t334)) else (laws_FnExactThenProgram.j2 kj71 t370 t369 true)))))) = some r := H
               have A102 := am A1020
               clear A1020
               replace H := Option.bind_eq_some_iff.mp H
               obtain ⟨t375, A1030, H⟩ := H
               replace H : ((laws_toLineS.f kj71 l2).bind fun t378 => ((impl_ThenProgram.f kj71 t372 t375 t378).bind fun bt381 => ((laws_eqLineS.f kj71 bt381.1 t331).bind fun t385 => (if t385 = true then (laws_FnExactThenProgram.j2 kj71 t370 t369 (bt381.2 != t334)) else (laws_FnExactThenProgram.j2 kj71 t370 t369 true))))) = some r := H
               have A103 := am A1030
               clear A1030
               replace H := Option.bind_eq_some_iff.mp H
               obtain ⟨t378, A1040, H⟩ := H
               replace H : ((impl_ThenProgram.f kj71 t372 t375 t378).bind fun bt381 => ((laws_eqLineS.f kj71 bt381.1 t331).bind fun t385 => (if t385 = true then (laws_FnExactThenProgram.j2 kj71 t370 t369 (bt381.2 != t334)) else (laws_FnExactThenProgram.j2 kj71 t370 t369 true)))) = some r := H
               have A104 := am A1040
               clear A1040
               replace H := Option.bind_eq_some_iff.mp H
               obtain ⟨⟨t381, t384⟩, A1050, H⟩ := H
               replace H : ((laws_eqLineS.f kj71 t381 t331).bind fun t385 => (if t385 = true then (laws_FnExactThenProgram.j2 kj71 t370 t369 (t384 != t334)) else (laws_FnExactThenProgram.j2 kj71 t370 t369 true))) = some r := H
               have A105 := am A1050
               clear A1050
               have HC106 := am H
               clear H
               obtain ⟨Ao107, co107, eo107⟩ := Kd.R_slice HO_13.out
               subst eo107
               go_upto_region 39 with (first | ((with_reducible refine gate_callee (f := 16) rfl ?_); refine gL (some 106) Try.func16 #[.slice Ao107 t345.length co107, .int .i64 1] ?_; (with_reducible refine (laws_markLineS.calls kj71 (fun k_ => some k_ = (.slice Ao107 t345.length co107 : Value).ownBlock) (.slice Ao107 t345.length co107) t345 1 t369 t370 w _ ?side1 ?side2 A98.out).mono ?_); (case side1 => exact Y6); (case side2 => exact Kd.R_tight rfl HO_13.out); rintro e w108 ⟨rfl, hy0, hb, hkp⟩; refine ⟨_, rfl, ?_⟩; replace HO_8 := am (Kd.R_mono (ok' := fun k_ => some k_ ≠ (.slice Ao107 t345.length co107 : Value).ownBlock) (Kd.R_keptB (HO_8.out) hkp (fun k_ hk_ hs_ => (hk_) hs_)) (fun k_ hk_ => hk_.1)); replace HO_339000 := am (Kd.R_mono (ok' := fun k_ => True) (Kd.R_keptB ((Kd.R_apart' HO_339000.out (Kd.R_typed HO_13.out) (by decide))) hkp (fun k_ hk_ hs_ => (hk_.2) hs_)) (fun k_ hk_ => trivial)); replace BK318 := am (blk_kept (kq BK318.out) hkp (fun hs_ => (fun e_ => (Kd.R_ne HO_13.out BK318.out (by decide)) e_) hs_)); replace BK338 := am (blk_kept (kq BK338.out) hkp (fun hs_ => (fun e_ => (Kd.R_ne HO_13.out BK338.out (by decide)) e_) hs_)); replace HO_13 := am (Kd.R_reok rfl hy0 (fun k_ e_ => HO_13.out.1 k_ e_)); replace HB := am (hb); (try clear hb); (try clear hkp); (try clear hy0)) | ((with_reducible refine gate_callee (f := 17) rfl ?_); refine goesL_ (some 109) rfl rfl Try.func17 (by kernel_rfl) rfl #[.slice Ao107 t370.length co107, .int .i64 1] rfl (by (try simp only [List.map_toArray, List.map_cons, List.map_nil]); first | done | (rw [show t370.length = t345.length from (Kd.R_reads' HO_13.out).1.symm] <;> rfl) | rfl | (simp only [List.length_drop, List.length_take]; rfl)) ?_; (with_reducible refine (laws_heldLineS.calls kj71 _ _ t370 1 t371 _ ?side1 ?side2 A99.out).mono ?_); (case side1 => exact cq (Kd.R_reads' HO_13.out).2.2); (case side2 => rw [show t370.length = t345.length from (Kd.R_reads' HO_13.out).1.symm]; exact (Kd.R_reads' HO_13.out).2.1); rintro e w' ⟨rfl, ⟨nd, rfl⟩⟩; refine ⟨_, rfl, ?_⟩; have hnb109 := NB318_338.out; have hnc109 := NB338_318.out; have hcz110_0 := bc0 BK318.out; have hfz110_0 := blk_frozen BK318.out 0) | ((with_reducible refine gate_callee (f := 10) rfl ?_); refine gL (some 117) Try.func10 #[.agg #[.slice A0_0 l0_0.length c0_0]] ?_; (with_reducible refine (laws_toTree.calls kj71 _ _ l0_0 t372 _ ?side1 ?side2 A102.out).mono ?_); (case side1 => repeat (first | exact (Kd.C_below HR0_0.out (by repeat (first | (with_reducible first | exact HB.out | apply below_alloc | apply pw_below_drewN | apply below_drew1 | refine below_set ?_ GE318.out | refine below_set ?_ GE338.out) | exact HB.out))) | (with_reducible refine Kd.C_alloc ?_ _) | (with_reducible refine Kd.C_drewN ?_ _) | (with_reducible refine Kd.C_drew ?_))); (case side2 => exact HC0_0.out); rintro e w111 ⟨v373, rfl, ho0, hb⟩; refine ⟨_, rfl, ?_⟩; have HO374 := am (Kd.R_lower (Kd.R_new' ho0 (Kd.R_lt (rq HO_339000.out))) (below_size (Y6))); replace HO_8 := am (Kd.R_below (rq HO_8.out) hb); replace HO_13 := am (Kd.R_below (rq HO_13.out) hb); replace HO_339000 := am (Kd.R_elder' (rq HO_339000.out) (Kd.R_base ho0) hb); replace BK318 := am (blk_below (g := gb318) (o := .cells #[.slice A0_0 l0_0.length c0_0] 24 (0, 0)) (kq BK318.out) hb); replace BK338 := am (blk_below (g := gb338) (o := .cells #[.slice Ao42 t363.length co42] 33 (0, 0)) (kq BK338.out) hb); replace HB := am (below_step (Y6) hb); (try clear hb); (try clear hb2); (try clear hk); (try clear hi); (try clear ho0)) | ((with_reducible refine gate_callee (f := 11) rfl ?_); refine gL (some 119) Try.func11 #[.slice A1 l1.length c1] ?_; (with_reducible refine (laws_toLineS.calls kj71 _ _ l1 t375 _ ?side1 ?side2 A103.out).mono ?_); (case side1 => exact cq (Kd.C_below HR1.out HB.out)); (case side2 => exact HC1.out); rintro e w112 ⟨v376, rfl, ho0, hb⟩; refine ⟨_, rfl, ?_⟩; have HO377 := am (Kd.R_lower (Kd.R_new' (Kd.R_new' ho0 (Kd.R_lt (rq HO_8.out))) (Kd.R_lt (rq HO_13.out))) (below_size (Y6))); replace HO_8 := am (Kd.R_elder' (rq HO_8.out) (Kd.R_base ho0) hb); replace HO_13 := am (Kd.R_elder' (rq HO_13.out) (Kd.R_base ho0) hb); replace HO_339000 := am (Kd.R_below (rq HO_339000.out) hb); replace HO374 := am (Kd.R_below (rq HO374.out) hb); replace BK318 := am (blk_below (g := gb318) (o := .cells #[.slice A0_0 l0_0.length c0_0] 24 (0, 0)) (kq BK318.out) hb); replace BK338 := am (blk_below (g := gb338) (o := .cells #[.slice Ao42 t363.length co42] 33 (0, 0)) (kq BK338.out) hb); replace HB := am (below_step (Y6) hb); (try clear hb); (try clear hb2); (try clear hk); (try clear hi); (try clear ho0)) | ((with_reducible refine gate_callee (f := 11) rfl ?_); refine gL (some 121) Try.func11 #[.slice A2 l2.length c2] ?_; (with_reducible refine (laws_toLineS.calls kj71 _ _ l2 t378 _ ?side1 ?side2 A104.out).mono ?_); (case side1 => exact cq (Kd.C_below HR2.out HB.out)); (case side2 => exact HC2.out); rintro e w113 ⟨v379, rfl, ho0, hb⟩; refine ⟨_, rfl, ?_⟩; have HO380 := am (Kd.R_lower (Kd.R_new' (Kd.R_new' (Kd.R_new' ho0 (Kd.R_lt (rq HO_8.out))) (Kd.R_lt (rq HO_13.out))) (Kd.R_lt (rq HO377.out))) (below_size (Y6))); replace HO_8 := am (Kd.R_elder' (rq HO_8.out) (Kd.R_base ho0) hb); replace HO_13 := am (Kd.R_elder' (rq HO_13.out) (Kd.R_base ho0) hb); replace HO_339000 := am (Kd.R_below (rq HO_339000.out) hb); replace HO374 := am (Kd.R_below (rq HO374.out) hb); replace HO377 := am (Kd.R_elder' (rq HO377.out) (Kd.R_base ho0) hb); replace BK318 := am (blk_below (g := gb318) (o := .cells #[.slice A0_0 l0_0.length c0_0] 24 (0, 0)) (kq BK318.out) hb); replace BK338 := am (blk_below (g := gb338) (o := .cells #[.slice Ao42 t363.length co42] 33 (0, 0)) (kq BK338.out) hb); replace HB := am (below_step (Y6) hb); (try clear hb); (try clear hb2); (try clear hk); (try clear hi); (try clear ho0); obtain ⟨Ao114, co114, eo114⟩ := Kd.R_slice HO374.out; subst eo114; obtain ⟨Ao115, co115, eo115⟩ := Kd.R_slice HO377.out; subst eo115; obtain ⟨Ao116, co116, eo116⟩ := Kd.R_slice HO380.out; subst eo116) | ((with_reducible refine gate_callee (f := 12) rfl ?_); refine gL (some 122) Try.func12 #[.agg #[.slice Ao114 t372.length co114], .slice Ao115 t375.length co115, .slice Ao116 t378.length co116] ?_; (with_reducible refine (impl_ThenProgram.calls kj71 _ _ t372 (fun k_ => some k_ = (.slice Ao115 t375.length co115 : Value).ownBlock) _ _ t375 (fun k_ => some k_ = (.slice Ao116 t378.length co116 : Value).ownBlock) _ _ t378 t381 t384 _ ?side1 ?side2 ?side3 ?side4 A105.out).mono ?_); (case side1 => exact cq (Kd.R_reads' HO374.out).2.2); (case side2 => exact (Kd.R_reads' HO374.out).2.1); (case side3 => exact Kd.R_V (Kd.R_tight rfl (Kd.R_types (Kd.R_types (Kd.R_apart' (Kd.R_apart' (HO377.out) (Kd.R_typed HO_339000.out) (by decide)) (Kd.R_typed HO374.out) (by decide)) BK318.out (by decide)) BK338.out (by decide)))); (case side4 => exact Kd.R_V (Kd.R_tight rfl (Kd.R_types (Kd.R_types (Kd.R_apart' (Kd.R_apart' (HO380.out) (Kd.R_typed HO_339000.out) (by decide)) (Kd.R_typed HO374.out) (by decide)) BK318.out (by decide)) BK338.out (by decide)))); rintro e w117 ⟨v382, rfl, ho0, hb⟩; refine ⟨_, rfl, ?_⟩; have HO383 := am (Kd.R_lower (Kd.R_new' (Kd.R_new' (Kd.R_new' (Kd.R_new' (Kd.R_mono (ok' := fun k_ => True) ho0 (fun _ hk_ => trivial)) (Kd.R_lt (rq HO_8.out))) (Kd.R_lt (rq HO_13.out))) (Kd.R_lt (rq HO377.out))) (Kd.R_lt (rq HO380.out))) (below_size (Y6))); replace HO_8 := am (Kd.R_elder' (rq HO_8.out) (Kd.R_base ho0) hb); replace HO_13 := am (Kd.R_elder' (rq HO_13.out) (Kd.R_base ho0) hb); replace HO_339000 := am (Kd.R_below (rq HO_339000.out) hb); replace HO374 := am (Kd.R_below (rq HO374.out) hb); replace HO377 := am (Kd.R_elder' (rq HO377.out) (Kd.R_base ho0) hb); replace HO380 := am (Kd.R_elder' (rq HO380.out) (Kd.R_base ho0) hb); replace BK318 := am (blk_below (g := gb318) (o := .cells #[.slice A0_0 l0_0.length c0_0] 24 (0, 0)) (kq BK318.out) hb); replace BK338 := am (blk_below (g := gb338) (o := .cells #[.slice Ao42 t363.length co42] 33 (0, 0)) (kq BK338.out) hb); replace HB := am (below_step (Y6) hb); (try clear hb); (try clear hb2); (try clear hk); (try clear hi); (try clear ho0)))
               (try simp only [Act.put, List.setIfInBounds_toArray, List.set_cons_zero, List.set_cons_succ])
               go_cut [133] (fun v133 wc => ∃ (kq : Nat) (x133_105 : Bool), v133 = .bool x133_105 ∧ Aside0 (laws_FnExactThenProgram.j2 kq t370 t369 x133_105 = some r) ∧ Aside0 (kq ≤ kj71) ∧ Aside0 (Kd.R k50 50 wc w.heap.size (fun _ => True) (.slice Ao107 t345.length co107) t370) ∧ Aside0 (Kd.R k63 63 wc w.heap.size (fun _ => True) (.slice Ao42 t363.length co42) t363) ∧ Aside0 (wc.heap[gb318]? = some (.cells #[(.slice A0_0 l0_0.length c0_0)] 24 (0, 0))) ∧ Aside0 (wc.heap[gb338]? = some (.cells #[(.slice Ao42 t363.length co42)] 33 (0, 0))) ∧ Aside0 (Below w.heap.size w wc))
               case first =>
                have H := HC106.out
                clear HC106
                replace H := Option.bind_eq_some_iff.mp H
                obtain ⟨t385, A1180, H⟩ := H
                replace H : (if t385 = true then (laws_FnExactThenProgram.j2 kj71 t370 t369 (t384 != t334)) else (laws_FnExactThenProgram.j2 kj71 t370 t369 true)) = some r := H
                have A118 := am A1180
                clear A1180
                by_cases c119 : t385 = true
                ·subst c119
                 have H1 : (laws_FnExactThenProgram.j2 kj71 t370 t369 (t384 != t334)) = some r := by rw [if_pos rfl] at H; exact H
                 clear H
                 have H := H1
                 clear H1
                 have H' := am H
                 clear H
                 obtain ⟨Ao120, co120, eo120⟩ := Kd.R_slice HO383.out
                 subst eo120
                 obtain ⟨Ao121, co121, eo121⟩ := Kd.R_slice HO_8.out
                 subst eo121
                 go_wp2_with (first | ((with_reducible refine gate_callee (f := 13) rfl ?_); refine gL (some 127) Try.func13 #[.slice Ao120 t381.length co120, .slice Ao121 t331.length co121] ?_; (with_reducible refine (laws_eqLineS.calls kj71 _ _ t381 _ _ t331 true _ ?side1 ?side2 ?side3 ?side4 A118.out).mono ?_); (case side1 => exact cq (Kd.R_reads' HO383.out).2.2); (case side2 => exact (Kd.R_reads' HO383.out).2.1); (case side3 => exact cq (Kd.R_reads' HO_8.out).2.2); (case side4 => exact (Kd.R_reads' HO_8.out).2.1); rintro e w122 ⟨rfl, hb⟩; refine ⟨_, rfl, ?_⟩; replace HO_8 := am (Kd.R_below (rq HO_8.out) hb); replace HO_13 := am (Kd.R_below (rq HO_13.out) hb); replace HO_339000 := am (Kd.R_below (rq HO_339000.out) hb); replace HO374 := am (Kd.R_below (rq HO374.out) hb); replace HO377 := am (Kd.R_below (rq HO377.out) hb); replace HO380 := am (Kd.R_below (rq HO380.out) hb); replace HO383 := am (Kd.R_below (rq HO383.out) hb); replace BK318 := am (blk_below (g := gb318) (o := .cells #[.slice A0_0 l0_0.length c0_0] 24 (0, 0)) (kq BK318.out) hb); replace BK338 := am (blk_below (g := gb338) (o := .cells #[.slice Ao42 t363.length co42] 33 (0, 0)) (kq BK338.out) hb); replace HB := am (below_step (Y6) hb); (try clear hb); (try clear hb2); (try clear hk); (try clear hi)))
                 go_meet
                 case rel => exact ⟨_, ((t384 != t334)), (sq), H', ⟨by have := HJ26.out; have := HJ71.out; first | omega | exact Nat.le_refl _⟩, ⟨by (try simp only [hl339000_71]); (with_reducible repeat (first | apply Kd.R_alloc | apply Kd.R_drewN | apply Kd.R_drew)); exact Kd.R_mono HO_13.out (fun _ hk => trivial)⟩, ⟨by (try simp only [hl339000_71]); (with_reducible repeat (first | apply Kd.R_alloc | apply Kd.R_drewN | apply Kd.R_drew)); exact Kd.R_mono HO_339000.out (fun _ hk => trivial)⟩, ⟨by (try simp only [hl339000_71]); (with_reducible repeat (first | refine blk_drewN ?_ _ | refine blk_drew ?_ | refine blk_alloc ?_ _)); exact BK318.out⟩, ⟨by (try simp only [hl339000_71]); (with_reducible repeat (first | refine blk_drewN ?_ _ | refine blk_drew ?_ | refine blk_alloc ?_ _)); exact BK338.out⟩, ⟨Y6⟩⟩
                ·replace c119 := Bool.eq_false_iff.mpr c119
                 subst c119
                 have H1 : (laws_FnExactThenProgram.j2 kj71 t370 t369 true) = some r := by rw [if_neg (show ¬ (false = true) by decide)] at H; exact H
                 clear H
                 have H := H1
                 clear H1
                 have H' := am H
                 clear H
                 obtain ⟨Ao123, co123, eo123⟩ := Kd.R_slice HO383.out
                 subst eo123
                 obtain ⟨Ao124, co124, eo124⟩ := Kd.R_slice HO_8.out
                 subst eo124
                 go_wp2_with (first | ((with_reducible refine gate_callee (f := 13) rfl ?_); refine gL (some 127) Try.func13 #[.slice Ao123 t381.length co123, .slice Ao124 t331.length co124] ?_; (with_reducible refine (laws_eqLineS.calls kj71 _ _ t381 _ _ t331 false _ ?side1 ?side2 ?side3 ?side4 A118.out).mono ?_); (case side1 => exact cq (Kd.R_reads' HO383.out).2.2); (case side2 => exact (Kd.R_reads' HO383.out).2.1); (case side3 => exact cq (Kd.R_reads' HO_8.out).2.2); (case side4 => exact (Kd.R_reads' HO_8.out).2.1); rintro e w125 ⟨rfl, hb⟩; refine ⟨_, rfl, ?_⟩; replace HO_8 := am (Kd.R_below (rq HO_8.out) hb); replace HO_13 := am (Kd.R_below (rq HO_13.out) hb); replace HO_339000 := am (Kd.R_below (rq HO_339000.out) hb); replace HO374 := am (Kd.R_below (rq HO374.out) hb); replace HO377 := am (Kd.R_below (rq HO377.out) hb); replace HO380 := am (Kd.R_below (rq HO380.out) hb); replace HO383 := am (Kd.R_below (rq HO383.out) hb); replace BK318 := am (blk_below (g := gb318) (o := .cells #[.slice A0_0 l0_0.length c0_0] 24 (0, 0)) (kq BK318.out) hb); replace BK338 := am (blk_below (g := gb338) (o := .cells #[.slice Ao42 t363.length co42] 33 (0, 0)) (kq BK338.out) hb); replace HB := am (below_step (Y6) hb); (try clear hb); (try clear hb2); (try clear hk); (try clear hi)))
                 go_meet
                 case rel => exact ⟨_, (true), (sq), H', ⟨by have := HJ26.out; have := HJ71.out; first | omega | exact Nat.le_refl _⟩, ⟨by (try simp only [hl339000_71]); (with_reducible repeat (first | apply Kd.R_alloc | apply Kd.R_drewN | apply Kd.R_drew)); exact Kd.R_mono HO_13.out (fun _ hk => trivial)⟩, ⟨by (try simp only [hl339000_71]); (with_reducible repeat (first | apply Kd.R_alloc | apply Kd.R_drewN | apply Kd.R_drew)); exact Kd.R_mono HO_339000.out (fun _ hk => trivial)⟩, ⟨by (try simp only [hl339000_71]); (with_reducible repeat (first | refine blk_drewN ?_ _ | refine blk_drew ?_ | refine blk_alloc ?_ _)); exact BK318.out⟩, ⟨by (try simp only [hl339000_71]); (with_reducible repeat (first | refine blk_drewN ?_ _ | refine blk_drew ?_ | refine blk_alloc ?_ _)); exact BK338.out⟩, ⟨Y6⟩⟩
               case rest =>
                clear HC106
                try clear c1
                try clear c2
                try clear p2
                try clear c3
                try clear c4
                try clear c5
                try clear c5b0
                try clear c6
                try clear c7
                try clear c8
                try clear c9
                try clear c10
                try clear c10b0
                try clear c11
                try clear c12
                try clear c13
                try clear c14
                try clear c15
                try clear c15b0
                try clear c16
                try clear c17
                try clear c43
                try clear c52
                try clear c59
                try clear c62
                try clear c65
                try clear c68
                try clear c83
                try clear c88
                try clear c88b0
                try clear c90
                try clear c97
                try clear c100
                try clear c100b0
                try clear c101
                try clear c101b0
                try clear c101b1
                try clear c109
                try clear c119
                try clear hcz110_0
                try clear hcz12_0
                try clear hcz17_0
                try clear hcz29_0
                try clear hcz31_0
                try clear hcz39_0
                try clear hcz44_0
                try clear hcz47_0
                try clear hcz7_0
                try clear hcz84_0
                try clear hfz110_0
                try clear hfz12_0
                try clear hfz17_0
                try clear hfz29_0
                try clear hfz31_0
                try clear hfz39_0
                try clear hfz44_0
                try clear hfz47_0
                try clear hfz7_0
                try clear hfz84_0
                try clear p2
                obtain ⟨kq, x133_105, rfl, HA, HJ105, HO_13, HO_339000, BK318, BK338, HB⟩ := hcut
                have hl13_105 := (Kd.R_reads' HO_13.out).1
                rw [hl13_105] at HO_13
                (try simp only [hl13_105])
                (try simp only [hl13_105] at BK318)
                (try simp only [hl13_105] at BK338)
                (try simp only [hl13_105] at HO_339000)
                cases kq with
                | zero => exact absurd HA.out (by simp [laws_FnExactThenProgram.j2])
                | succ kj105 =>
                 have H := HA.out
                 clear HA
                 simp only [laws_FnExactThenProgram.j2] at H
                 by_cases c126 : x133_105 = true
                 ·subst c126
                  have H1 : (some false) = some r := by rw [if_pos rfl] at H; exact H
                  clear H
                  have H := H1
                  clear H1
                  exact absurd ((Option.some.inj H).trans hT) Bool.false_ne_true
                 ·replace c126 := Bool.eq_false_iff.mpr c126
                  subst c126
                  have H1 : ((laws_heldLineS.f kj105 t370 1).bind fun t386 => (if t386 < 0 then (some false) else (if t386 = t369 then (some true) else (some false)))) = some r := by rw [if_neg (show ¬ (false = true) by decide)] at H; exact H
                  clear H
                  have H := H1
                  clear H1
                  replace H := Option.bind_eq_some_iff.mp H
                  obtain ⟨t386, A1270, H⟩ := H
                  replace H : (if t386 < 0 then (some false) else (if t386 = t369 then (some true) else (some false))) = some r := H
                  have A127 := am A1270
                  clear A1270
                  by_cases c128 : t386 < 0
                  ·rw [if_pos c128] at H
                   have c128b0 : decide (t386 < 0) = true := decide_eq_true c128
                   clear c128
                   exact absurd ((Option.some.inj H).trans hT) Bool.false_ne_true
                  ·rw [if_neg c128] at H
                   have c128b0 : decide (t386 < 0) = false := decide_eq_false c128
                   clear c128
                   by_cases c129 : t386 = t369
                   ·rw [if_pos c129] at H
                    have c129b0 : (t386 == t369) = true := beq_iff_eq.mpr c129
                    have c129b1 : (t386 != t369) = false := bne_eq_false_iff_eq.mpr c129
                    clear c129
                    obtain rfl := Option.some.inj H
                    go_wp2_with (first | ((with_reducible refine gate_callee (f := 17) rfl ?_); refine gL (some 136) Try.func17 #[.slice Ao107 t370.length co107, .int .i64 1] ?_; (with_reducible refine (laws_heldLineS.calls kj105 _ _ t370 1 t386 _ ?side1 ?side2 A127.out).mono ?_); (case side1 => exact cq (Kd.R_reads' HO_13.out).2.2); (case side2 => exact (Kd.R_reads' HO_13.out).2.1); rintro e w' ⟨rfl, ⟨nd, rfl⟩⟩; refine ⟨_, rfl, ?_⟩))
                    go_ret
                    exact ⟨Y1, Y6⟩
                   ·rw [if_neg c129] at H
                    have c129b0 : (t386 == t369) = false := beq_eq_false_iff_ne.mpr c129
                    have c129b1 : (t386 != t369) = true := bne_iff_ne.mpr c129
                    exact absurd ((Option.some.inj H).trans hT) Bool.false_ne_true
              ·rw [if_neg c101] at H
               have c101b0 : (t371 == t369) = false := beq_eq_false_iff_ne.mpr c101
               have c101b1 : (t371 != t369) = true := bne_iff_ne.mpr c101
               exact absurd ((Option.some.inj H).trans hT) Bool.false_ne_true
         ·replace c68 := Bool.eq_false_iff.mpr c68
          subst c68
          have H1 : (some false) = some r := by rw [if_neg (show ¬ (false = true) by decide)] at H; exact H
          clear H
          have H := H1
          clear H1
          exact absurd ((Option.some.inj H).trans hT) Bool.false_ne_true
        ·replace c65 := Bool.eq_false_iff.mpr c65
         subst c65
         have H1 : (some false) = some r := by rw [if_neg (show ¬ (false = true) by decide)] at H; exact H
         clear H
         have H := H1
         clear H1
         exact absurd ((Option.some.inj H).trans hT) Bool.false_ne_true
       ·replace c62 := Bool.eq_false_iff.mpr c62
        subst c62
        have H1 : (some false) = some r := by rw [if_neg (show ¬ (false = true) by decide)] at H; exact H
        clear H
        have H := H1
        clear H1
        exact absurd ((Option.some.inj H).trans hT) Bool.false_ne_true
end Go.Proofs.Ytgbigghiegiejaa.P
end
