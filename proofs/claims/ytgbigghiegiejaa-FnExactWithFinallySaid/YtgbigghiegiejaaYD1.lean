/- One part of the proofs on this program: functions of the program as plain functions, that the code comes to them, and facts on them. -/
import Derived.Test.YtgbigghiegiejaaYAll1
import Derived.Test.YtgbigghiegiejaaYAll2
import Derived.Test.YtgbigghiegiejaaYAll4
import Derived.Test.YtgbigghiegiejaaYAll5
import Derived.Test.YtgbigghiegiejaaYWAuto
section
namespace Go.Proofs.Ytgbigghiegiejaa.P
open Go.RowKit Go.Proofs.YtgbigghiegiejaaW.PrintWords Go.Proofs.YtgbigghiegiejaaW.PrintLast Go.Proofs.YtgbigghiegiejaaW.PrintMore
attribute [local go_sem] max2_int min2_int max_two min_two max_three min_three max_four min_four isSome_cell_setCell
set_option linter.unusedVariables false
set_option linter.unusedSimpArgs false
def spec_WithFinally.f (k : Nat) (l0_0 : List (S63)) (l1 : List (S50)) (l2 : List (S50)) : Option ((List (S50)) × Bool) := (spec_both.f k l0_0 l1 l2).bind fun t617 => (if t617 = true then ((spec_under.f k 0 7 0 0 l1).bind fun t618 => ((spec_under.f k 0 10 0 0 l2).bind fun t621 => (if t618.length + t621.length < 4398046511104 then ((spec_checkedProgram.f k l0_0 (t618 ++ t621)).bind fun bt627 => (some (bt627.1, bt627.2))) else (none)))) else (some (([] : List (S50)), false)))
def spec_WithFinally.T3 : Bool × List (List Nat × List Nat) := (true, [([], []), ([], []), ([], []), ([1, 2], [1, 2]), ([], []), ([], []), ([4, 5, 3], [4, 5]), ([3, 6, 6], [3, 6]), ([0, 7, 7], [0, 7]), ([8], [8]), ([8], [8]), ([9, 8, 0, 1, 2, 3, 4, 5, 6, 7, 8, 9, 10], [9]), ([10, 11, 0, 1, 2, 3, 4, 5, 6, 7, 8, 9, 10, 11], [10])])
def spec_WithFinally.B3 : List Nat := [0, 0, 0, 6, 0, 0, 62, 126, 255, 511, 511, 2047, 4095]
theorem spec_WithFinally.tab3 : rtab .any (opsOf Try.f22 3) = spec_WithFinally.T3 := by kernel_rfl
theorem spec_WithFinally.bits3 : waitsOk spec_WithFinally.T3.2 spec_WithFinally.B3 = true := by kernel_rfl
set_option maxHeartbeats 8000000 in
set_option maxRecDepth 100000 in
theorem spec_WithFinally.calls (k : Nat) (A0_0 : Option Addr) (c0_0 : Nat) (l0_0 : List (S63)) (A1 : Option Addr) (c1 : Nat) (l1 : List (S50)) (A2 : Option Addr) (c2 : Nat) (l2 : List (S50)) (r1 : List (S50)) (r2 : Bool) (w : World) (hr0_0 : Kd.C k63 w A0_0 l0_0.length l0_0) (hc0_0 : l0_0.length ≤ c0_0) (hr1 : Kd.C k50 w A1 l1.length l1) (hc1 : l1.length ≤ c1) (hr2 : Kd.C k50 w A2 l2.length l2) (hc2 : l2.length ≤ c2) (h : spec_WithFinally.f k l0_0 l1 l2 = some (r1, r2)) :
  Calls Try.prog 22 #[.agg #[.slice A0_0 l0_0.length c0_0], .slice A1 l1.length c1, .slice A2 l2.length c2] w fun e w' => ∃ v0_ : Value, e = .returned (.tuple #[v0_, .bool r2]) ∧ Kd.R k50 50 w' w.heap.size (fun _ => True) v0_ r1 ∧ Below w.heap.size w w' := by
 have hu33 := Try.underlying33
 have hu50 := Try.underlying50
 have HR0_0 := am hr0_0
 have HC0_0 := am hc0_0
 clear hr0_0 hc0_0
 have HR1 := am hr1
 have HC1 := am hc1
 clear hr1 hc1
 have HR2 := am hr2
 have HC2 := am hc2
 clear hr2 hc2
 have HB := am (Below.refl w.heap.size w)
 have H : ((spec_both.f k l0_0 l1 l2).bind fun t617 => (if t617 = true then ((spec_under.f k 0 7 0 0 l1).bind fun t618 => ((spec_under.f k 0 10 0 0 l2).bind fun t621 => (if t618.length + t621.length < 4398046511104 then ((spec_checkedProgram.f k l0_0 (t618 ++ t621)).bind fun bt627 => (some (bt627.1, bt627.2))) else (none)))) else (some (([] : List (S50)), false)))) = some (r1, r2) := h
 clear h
 replace H := Option.bind_eq_some_iff.mp H
 obtain ⟨t617, A40, H⟩ := H
 replace H : (if t617 = true then ((spec_under.f k 0 7 0 0 l1).bind fun t618 => ((spec_under.f k 0 10 0 0 l2).bind fun t621 => (if t618.length + t621.length < 4398046511104 then ((spec_checkedProgram.f k l0_0 (t618 ++ t621)).bind fun bt627 => (some (bt627.1, bt627.2))) else (none)))) else (some (([] : List (S50)), false))) = some (r1, r2) := H
 have A4 := am A40
 clear A40
 by_cases c5 : t617 = true
 ·subst c5
  have H1 : ((spec_under.f k 0 7 0 0 l1).bind fun t618 => ((spec_under.f k 0 10 0 0 l2).bind fun t621 => (if t618.length + t621.length < 4398046511104 then ((spec_checkedProgram.f k l0_0 (t618 ++ t621)).bind fun bt627 => (some (bt627.1, bt627.2))) else (none)))) = some (r1, r2) := by rw [if_pos rfl] at H; exact H
  clear H
  have H := H1
  clear H1
  replace H := Option.bind_eq_some_iff.mp H
  obtain ⟨t618, A60, H⟩ := H
  replace H : ((spec_under.f k 0 10 0 0 l2).bind fun t621 => (if t618.length + t621.length < 4398046511104 then ((spec_checkedProgram.f k l0_0 (t618 ++ t621)).bind fun bt627 => (some (bt627.1, bt627.2))) else (none))) = some (r1, r2) := H
  have A6 := am A60
  clear A60
  replace H := Option.bind_eq_some_iff.mp H
  obtain ⟨t621, A70, H⟩ := H
  replace H : (if t618.length + t621.length < 4398046511104 then ((spec_checkedProgram.f k l0_0 (t618 ++ t621)).bind fun bt627 => (some (bt627.1, bt627.2))) else (none)) = some (r1, r2) := H
  have A7 := am A70
  clear A70
  by_cases c8 : t618.length + t621.length < 4398046511104
  ·rw [if_pos c8] at H
   have LMc8 := am c8
   clear c8
   obtain ⟨y624, hy624⟩ : ∃ y_ : List (S50), y_ = (t618 ++ t621) := ⟨_, rfl⟩
   replace H : ((spec_checkedProgram.f k l0_0 y624).bind fun bt627 => (some (bt627.1, bt627.2))) = some (r1, r2) := by first | (rw [hy624]; with_reducible exact H) | (have H2_ := (Option.bind_some _ _).symm.trans H; rw [hy624]; with_reducible exact H2_) | (have H2_ := (Option.bind_some _ _).symm.trans H; with_reducible exact H2_) | with_reducible exact H | (rw [hy624]; exact H) | exact H
   have Ny624 := am hy624
   clear hy624
   replace H := Option.bind_eq_some_iff.mp H
   obtain ⟨⟨t627, t630⟩, A90, H⟩ := H
   replace H : (some (t627, t630)) = some (r1, r2) := H
   have A9 := am A90
   clear A90
   simp only [Option.some.injEq, Prod.mk.injEq] at H
   obtain ⟨rfl, rfl⟩ := H
   go_enter Try.func22, Try.ntmps22
   try go_wp2_with (first | ((with_reducible refine gate_dst (N := 3) rfl ?_); refine bE (N := 3) (cs := #[.slice A0_0 l0_0.length c0_0]) (t := 33) ?_; intro gb616 hg w10 hbox hb; have BK616 := am (hbox); have GW616 := am ((Y0 : w.heap.size ≤ gb616)); have GE616 := am ((Y0 : w.heap.size ≤ gb616)); replace HB := am (below_step (bq) hb); clear hb hbox hg; have hcz11_0 := bc0 BK616.out; have hfz11_0 := blk_frozen BK616.out 0) | ((with_reducible refine gate_callee (f := 25) rfl ?_); refine gL (some 11) Try.func25 #[.agg #[.slice A0_0 l0_0.length c0_0], .slice A1 l1.length c1, .slice A2 l2.length c2] ?_; (with_reducible refine (spec_both.calls k _ _ l0_0 _ _ l1 _ _ l2 true _ ?side1 ?side2 ?side3 ?side4 ?side5 ?side6 A4.out).mono ?_); (case side1 => exact cq (Kd.C_below HR0_0.out HB.out)); (case side2 => exact HC0_0.out); (case side3 => exact cq (Kd.C_below HR1.out HB.out)); (case side4 => exact HC1.out); (case side5 => exact cq (Kd.C_below HR2.out HB.out)); (case side6 => exact HC2.out); rintro e w12 ⟨rfl, hb⟩; refine ⟨_, rfl, ?_⟩; replace BK616 := am (blk_below (g := gb616) (o := .cells #[.slice A0_0 l0_0.length c0_0] 33 (0, 0)) (kq BK616.out) hb); replace HB := am (below_step (Y26) hb); (try clear hb); (try clear hb2); (try clear hk); (try clear hi)))
   replace BK616 := am (blk_drew BK616.out)
   replace HB := am (below_drew1 HB.out)
   refine start_ (n := 13) (S := fun w' => w'.cell? ⟨gb616, 0, none⟩ = some (.slice A0_0 l0_0.length c0_0)) (ds := []) #[false, false, false, false, false, false, false, false, false, false, false, false, false] (by kernel_rfl) rfl rfl ((blk_cell BK616.out 0).trans rfl) (fun hHeld => ?_); refine with_tabW spec_WithFinally.tab3 spec_WithFinally.bits3 (fun HT_ HW_ => ?_)
   generalize w12.drew = w13 at BK616 HB hHeld ⊢
   refine pq (i := 1) (N := some 14) #[false, true, false, false, false, false, false, false, false, false, false, false, false] ?_
   refine pq (i := 2) (N := some 15) #[false, true, true, false, false, false, false, false, false, false, false, false, false] ?_
   refine pq (i := 4) (N := some 17) #[false, true, true, false, true, false, false, false, false, false, false, false, false] ?_
   refine pq (i := 5) (N := some 18) #[false, true, true, false, true, true, false, false, false, false, false, false, false] ?_
   refine take_ (i := 0) (N := some 13) (v := ?_) (a' := ?_) #[true, true, true, false, true, true, false, false, false, false, false, false, false] rfl rfl (take_ofW HT_.out HW_.out (by kernel_rfl)) (fun _ _ _ h => h) (Or.inl ⟨by rfl, ?_⟩) hHeld ?_ ?_
   rotate_left
   ·intro w' s0
    go_simp
    with_reducible rfl
   rotate_left
   ·exact sa
   refine one_ (i := 3) (N := some 16) #[true, true, true, true, true, true, false, false, false, false, false, false, false] rfl rfl (one_of HT_.out (by kernel_rfl)) (by decide) (fun K hK => ?_)
   refine goes_ Try.func36 (by kernel_rfl) rfl #[.agg #[.int .i64 0, .int .i64 7, .int .i64 0, .int .i64 0], .slice A1 l1.length c1] (by rfl) rfl rfl (aq) ?_
   with_reducible refine (spec_under.calls k 0 7 0 0 _ _ l1 t618 _ ?side1 ?side2 A6.out).mono ?_
   (case side1 => exact cq (Kd.C_below HR1.out HB.out))
   (case side2 => exact HC1.out)
   rintro e w14 ⟨v619, rfl, ho0, hb⟩
   refine ⟨_, rfl, ?_⟩
   have HO620 := am (Kd.R_lower ho0 (below_size (Y26)))
   replace BK616 := am (blk_below (g := gb616) (o := .cells #[.slice A0_0 l0_0.length c0_0] 33 (0, 0)) (kq BK616.out) hb)
   replace HB := am (below_step (Y26) hb)
   (try clear hb)
   (try clear hb2)
   (try clear hk)
   (try clear hi)
   (try clear ho0)
   refine hK.out _ _ ((blk_cell BK616.out 0).trans rfl) (fun hHeld => ?_)
   clear hK K
   refine norm_ (a' := ?_) ?_ ?_
   rotate_left
   ·show Act.put _ (some 16) _ = _
    simp only [Act.put, List.setIfInBounds_toArray, List.set_cons_zero, List.set_cons_succ, i64_w, i32_w]
    rfl
   refine one_ (i := 6) (N := some 19) #[true, true, true, true, true, true, true, false, false, false, false, false, false] rfl rfl (one_of HT_.out (by kernel_rfl)) (by decide) (fun K hK => ?_)
   refine goes_ Try.func36 (by kernel_rfl) rfl #[.agg #[.int .i64 0, .int .i64 10, .int .i64 0, .int .i64 0], .slice A2 l2.length c2] (by rfl) rfl rfl (aq) ?_
   with_reducible refine (spec_under.calls k 0 10 0 0 _ _ l2 t621 _ ?side1 ?side2 A7.out).mono ?_
   (case side1 => exact cq (Kd.C_below HR2.out HB.out))
   (case side2 => exact HC2.out)
   rintro e w15 ⟨v622, rfl, ho0, hb⟩
   refine ⟨_, rfl, ?_⟩
   have HO623 := am (Kd.R_lower (Kd.R_new' ho0 (Kd.R_lt (rq HO620.out))) (below_size (Y26)))
   replace HO620 := am (Kd.R_elder' (rq HO620.out) (Kd.R_base ho0) hb)
   replace BK616 := am (blk_below (g := gb616) (o := .cells #[.slice A0_0 l0_0.length c0_0] 33 (0, 0)) (kq BK616.out) hb)
   replace HB := am (below_step (Y26) hb)
   (try clear hb)
   (try clear hb2)
   (try clear hk)
   (try clear hi)
   (try clear ho0)
   obtain ⟨Ao17, co17, eo17⟩ := Kd.R_slice HO623.out
   (first | subst eo17 | (injection eo17 with f1_ f2_ f3_; have f4_ := f1_.symm; have f5_ := f3_.symm; clear f1_ f2_ f3_; subst f4_; subst f5_))
   refine hK.out _ _ ((blk_cell BK616.out 0).trans rfl) (fun hHeld => ?_)
   clear hK K
   refine norm_ (a' := ?_) ?_ ?_
   rotate_left
   ·show Act.put _ (some 19) _ = _
    simp only [Act.put, List.setIfInBounds_toArray, List.set_cons_zero, List.set_cons_succ, i64_w, i32_w]
    rfl
   refine one_ (i := 7) (N := some 20) #[true, true, true, true, true, true, true, true, false, false, false, false, false] rfl rfl (one_of HT_.out (by kernel_rfl)) (by decide) (fun K hK => ?_)
   refine Kd.R_append_rows_step k50 (w0 := w) w.heap.size (by rfl) (.tmp 16) (.tmp 19) 28 50 (.agg #[(.int .i64 0), (.int .i64 0), (.int .i64 0), (.int .i64 0)]) 32 rfl Try.underlying28 info50 rfl (by decide) (by omega) v619 t618 t621 _ _ _ (fun k_ => some k_ ≠ (.slice Ao17 t621.length co17 : Value).ownBlock) (fun _ => False) rfl rfl ?aO ?aR (fun _ _ h => h) (fun _ h => h.elim) ?aF ?aB ?aS ?aL ?_
   (case aR => repeat (first | exact (Kd.R_reads' HO623.out).2.2 | (with_reducible refine Kd.C_alloc ?_ _) | (with_reducible refine Kd.C_drewN ?_ _) | (with_reducible refine Kd.C_drew ?_)))
   (case aB => exact (Y26))
   (case aF => exact (fun k_ hk => Kd.fresh' (Kd.R_lt (rq HO623.out)) k_ hk))
   (case aO => exact (by (with_reducible repeat (first | apply Kd.R_alloc | apply Kd.R_drewN | apply Kd.R_drew)); exact Kd.R_mono HO620.out (fun _ hk => hk.2)))
   (case aS => exact (below_size (Y26)))
   (case aL => have := LMc8.out; omega)
   intro v625 w16 ho hb hg hat
   rw [← Ny624.out] at ho
   have n0_ := am (blk_grown (g := gb616) (o := .cells #[.slice A0_0 l0_0.length c0_0] 33 (0, 0)) (kq BK616.out) hg (Kd.R_ne HO620.out BK616.out (by decide)))
   have n1_ := am (Kd.R_after (ok := (fun _ => True)) (rq HO623.out) hg hat)
   have n2_ := am (hb)
   have n3_ := am (ho)
   clear BK616
   clear HO623
   clear HB
   clear HO620
   have BK616 := n0_
   have HO623 := n1_
   have HB := n2_
   have HO626 := n3_
   clear n0_ n1_ n2_ n3_
   clear ho hb hg hat
   obtain ⟨Ao18, co18, eo18⟩ := Kd.R_slice HO626.out
   (first | subst eo18 | (injection eo18 with f1_ f2_ f3_; have f4_ := f1_.symm; have f5_ := f3_.symm; clear f1_ f2_ f3_; subst f4_; subst f5_))
   refine hK.out _ _ ((blk_cell BK616.out 0).trans rfl) (fun hHeld => ?_)
   clear hK K
   refine norm_ (a' := ?_) ?_ ?_
   rotate_left
   ·show Act.put _ (some 20) _ = _
    simp only [Act.put, List.setIfInBounds_toArray, List.set_cons_zero, List.set_cons_succ, i64_w, i32_w]
    rfl
   refine one_ (i := 8) (N := some 21) #[true, true, true, true, true, true, true, true, true, false, false, false, false] rfl rfl (one_of HT_.out (by kernel_rfl)) (by decide) (fun K hK => ?_)
   refine goes_ Try.func26 (by kernel_rfl) rfl #[.agg #[.slice A0_0 l0_0.length c0_0], .slice Ao18 y624.length co18] (by rfl) rfl rfl (aq) ?_
   with_reducible refine (spec_checkedProgram.calls k _ _ l0_0 (fun k_ => some k_ = (.slice Ao18 y624.length co18 : Value).ownBlock) (.slice Ao18 y624.length co18) y624 t627 t630 w _ ?side1 ?side2 ?side3 ?side4 A9.out).mono ?_
   (case side1 => exact Y26)
   (case side2 => exact Kd.C_kept_came k63_heap HR0_0.out (Y26) (fun k_ hs_ => (fun e_ => Kd.R_base HO626.out k_ e_.symm) hs_))
   (case side3 => exact HC0_0.out)
   (case side4 => exact Kd.R_tight rfl HO626.out)
   rintro e w19 ⟨v628, rfl, ho0, hb, hkp⟩
   refine ⟨_, rfl, ?_⟩
   have n0_ := am (blk_kept (kq BK616.out) hkp (fun hs_ => (fun e_ => (Kd.R_ne HO626.out BK616.out (by decide)) e_) hs_))
   have n1_ := am (Kd.R_mono (ok' := fun k_ => some k_ ≠ (v628 : Value).ownBlock) (Kd.R_keptB (HO623.out) hkp (fun k_ hk_ hs_ => (hk_.2) hs_)) (fun k_ hk_ => fun e_ => Or.elim (ho0.1 k_ e_.symm) (fun hs_ => hk_.2.1 hs_) (fun hn_ => Nat.not_le.2 hk_.2.2 hn_)))
   have n2_ := am (Kd.R_mono (ok' := fun k_ => some k_ ≠ (.slice Ao17 t621.length co17 : Value).ownBlock) ho0 (fun k_ hk_ => Or.elim hk_ (fun hs_ => fun e_ => (((HO623.out).1 k_ e_.symm).2) hs_) (fun hn_ => (Kd.fresh' (Kd.R_lt (rq HO623.out)) k_ hn_))))
   have n3_ := am (hb)
   clear BK616
   clear HO623
   clear HB
   clear HO626
   have BK616 := n0_
   have HO623 := n1_
   have HO629 := n2_
   have HB := n3_
   clear n0_ n1_ n2_ n3_
   (try clear hb)
   (try clear hkp)
   (try clear ho0)
   refine hK.out _ _ ((blk_cell BK616.out 0).trans rfl) (fun hHeld => ?_)
   clear hK K
   refine norm_ (a' := ?_) ?_ ?_
   rotate_left
   ·show Act.put _ (some 21) _ = _
    simp only [Act.put, List.setIfInBounds_toArray, List.set_cons_zero, List.set_cons_succ, i64_w, i32_w]
    rfl
   refine pq (i := 9) (N := some 22) #[true, true, true, true, true, true, true, true, true, true, false, false, false] ?_
   refine pq (i := 10) (N := some 23) #[true, true, true, true, true, true, true, true, true, true, true, false, false] ?_
   refine pq (i := 11) (N := some 6) #[true, true, true, true, true, true, true, true, true, true, true, true, false] ?_
   refine pq (i := 12) (N := some 7) #[true, true, true, true, true, true, true, true, true, true, true, true, true] ?_
   refine done_ (done_of HT_.out (by kernel_rfl)) ?_
   try go_wp2
   go_ret2
   exact ⟨_, Y1, by (with_reducible repeat (first | apply Kd.R_alloc | apply Kd.R_drewN | apply Kd.R_drew)); exact Kd.R_mono HO629.out (fun _ hk => trivial), Y26⟩
  ·rw [if_neg c8] at H
   exact absurd H (by simp)
 ·replace c5 := Bool.eq_false_iff.mpr c5
  subst c5
  have H1 : (some (([] : List (S50)), false)) = some (r1, r2) := by rw [if_neg (show ¬ (false = true) by decide)] at H; exact H
  clear H
  have H := H1
  clear H1
  simp only [Option.some.injEq, Prod.mk.injEq] at H
  obtain ⟨rfl, rfl⟩ := H
  go_enter Try.func22, Try.ntmps22
  go_wp2_with (first | ((with_reducible refine gate_dst (N := 3) rfl ?_); refine bE (N := 3) (cs := #[.slice A0_0 l0_0.length c0_0]) (t := 33) ?_; intro gb616 hg w20 hbox hb; have BK616 := am (hbox); have GW616 := am ((Y0 : w.heap.size ≤ gb616)); have GE616 := am ((Y0 : w.heap.size ≤ gb616)); replace HB := am (below_step (bq) hb); clear hb hbox hg; have hcz21_0 := bc0 BK616.out; have hfz21_0 := blk_frozen BK616.out 0) | ((with_reducible refine gate_callee (f := 25) rfl ?_); refine gL (some 11) Try.func25 #[.agg #[.slice A0_0 l0_0.length c0_0], .slice A1 l1.length c1, .slice A2 l2.length c2] ?_; (with_reducible refine (spec_both.calls k _ _ l0_0 _ _ l1 _ _ l2 false _ ?side1 ?side2 ?side3 ?side4 ?side5 ?side6 A4.out).mono ?_); (case side1 => exact cq (Kd.C_below HR0_0.out HB.out)); (case side2 => exact HC0_0.out); (case side3 => exact cq (Kd.C_below HR1.out HB.out)); (case side4 => exact HC1.out); (case side5 => exact cq (Kd.C_below HR2.out HB.out)); (case side6 => exact HC2.out); rintro e w22 ⟨rfl, hb⟩; refine ⟨_, rfl, ?_⟩; replace BK616 := am (blk_below (g := gb616) (o := .cells #[.slice A0_0 l0_0.length c0_0] 33 (0, 0)) (kq BK616.out) hb); replace HB := am (below_step (Y26) hb); (try clear hb); (try clear hb2); (try clear hk); (try clear hi)))
  go_ret2
  exact ⟨_, Y1, Y28, Y26⟩
def impl_WithFinally.f (k : Nat) (l0_0 : List (S63)) (l1 : List (S50)) (l2 : List (S50)) : Option ((List (S50)) × Bool) := (impl_bothValid.f k l0_0 l1 l2).bind fun t632 => (if t632 = true then ((impl_inner.f k l1).bind fun t636 => ((impl_inner.f k l2).bind fun t642 => ((slices_Concat_Line.f (([(([(⟨0, 7, 0, 0⟩ : S50)] : List (S50))), t636, (([(⟨0, 10, 0, 0⟩ : S50)] : List (S50))), t642] : List (List (S50))))).bind fun t648 => ((impl_programMade.f k l0_0 t648).bind fun bt651 => (some (bt651.1, bt651.2)))))) else (some (([] : List (S50)), false)))
def impl_WithFinally.T3 : Bool × List (List Nat × List Nat) := (true, [([], []), ([], []), ([1], [1]), ([], []), ([3], [3]), ([], []), ([5], [5]), ([], []), ([7, 4], [7]), ([2, 4, 6, 8], [2, 4, 6, 8]), ([9, 8], [9]), ([0, 10, 10], [0, 10]), ([11], [11]), ([11], [11]), ([12, 11, 0, 1, 2, 3, 4, 5, 6, 7, 8, 9, 10, 11, 12, 13], [12]), ([13, 14, 0, 1, 2, 3, 4, 5, 6, 7, 8, 9, 10, 11, 12, 13, 14], [13])])
def impl_WithFinally.B3 : List Nat := [0, 0, 2, 0, 8, 0, 32, 0, 152, 510, 1022, 2047, 4095, 4095, 16383, 32767]
theorem impl_WithFinally.tab3 : rtab .any (opsOf Try.f23 3) = impl_WithFinally.T3 := by kernel_rfl
theorem impl_WithFinally.bits3 : waitsOk impl_WithFinally.T3.2 impl_WithFinally.B3 = true := by kernel_rfl
set_option maxHeartbeats 8000000 in
set_option maxRecDepth 100000 in
theorem impl_WithFinally.calls (k : Nat) (A0_0 : Option Addr) (c0_0 : Nat) (l0_0 : List (S63)) (A1 : Option Addr) (c1 : Nat) (l1 : List (S50)) (A2 : Option Addr) (c2 : Nat) (l2 : List (S50)) (r1 : List (S50)) (r2 : Bool) (w : World) (hr0_0 : Kd.C k63 w A0_0 l0_0.length l0_0) (hc0_0 : l0_0.length ≤ c0_0) (hr1 : Kd.C k50 w A1 l1.length l1) (hc1 : l1.length ≤ c1) (hr2 : Kd.C k50 w A2 l2.length l2) (hc2 : l2.length ≤ c2) (h : impl_WithFinally.f k l0_0 l1 l2 = some (r1, r2)) :
  Calls Try.prog 23 #[.agg #[.slice A0_0 l0_0.length c0_0], .slice A1 l1.length c1, .slice A2 l2.length c2] w fun e w' => ∃ v0_ : Value, e = .returned (.tuple #[v0_, .bool r2]) ∧ Kd.R k50 50 w' w.heap.size (fun _ => True) v0_ r1 ∧ Below w.heap.size w w' := by
 have hu33 := Try.underlying33
 have hu50 := Try.underlying50
 have HR0_0 := am hr0_0
 have HC0_0 := am hc0_0
 clear hr0_0 hc0_0
 have HR1 := am hr1
 have HC1 := am hc1
 clear hr1 hc1
 have HR2 := am hr2
 have HC2 := am hc2
 clear hr2 hc2
 have HB := am (Below.refl w.heap.size w)
 have H : ((impl_bothValid.f k l0_0 l1 l2).bind fun t632 => (if t632 = true then ((impl_inner.f k l1).bind fun t636 => ((impl_inner.f k l2).bind fun t642 => ((slices_Concat_Line.f (([(([(⟨0, 7, 0, 0⟩ : S50)] : List (S50))), t636, (([(⟨0, 10, 0, 0⟩ : S50)] : List (S50))), t642] : List (List (S50))))).bind fun t648 => ((impl_programMade.f k l0_0 t648).bind fun bt651 => (some (bt651.1, bt651.2)))))) else (some (([] : List (S50)), false)))) = some (r1, r2) := h
 clear h
 replace H := Option.bind_eq_some_iff.mp H
 obtain ⟨t632, A40, H⟩ := H
 replace H : (if t632 = true then ((impl_inner.f k l1).bind fun t636 => ((impl_inner.f k l2).bind fun t642 => ((slices_Concat_Line.f (([(([(⟨0, 7, 0, 0⟩ : S50)] : List (S50))), t636, (([(⟨0, 10, 0, 0⟩ : S50)] : List (S50))), t642] : List (List (S50))))).bind fun t648 => ((impl_programMade.f k l0_0 t648).bind fun bt651 => (some (bt651.1, bt651.2)))))) else (some (([] : List (S50)), false))) = some (r1, r2) := H
 have A4 := am A40
 clear A40
 by_cases c5 : t632 = true
 ·subst c5
  have H1 : ((impl_inner.f k l1).bind fun t636 => ((impl_inner.f k l2).bind fun t642 => ((slices_Concat_Line.f (([(([(⟨0, 7, 0, 0⟩ : S50)] : List (S50))), t636, (([(⟨0, 10, 0, 0⟩ : S50)] : List (S50))), t642] : List (List (S50))))).bind fun t648 => ((impl_programMade.f k l0_0 t648).bind fun bt651 => (some (bt651.1, bt651.2)))))) = some (r1, r2) := by rw [if_pos rfl] at H; exact H
  clear H
  have H := H1
  clear H1
  obtain ⟨y633, hy633⟩ : ∃ y_ : List (S50), y_ = (([(⟨0, 7, 0, 0⟩ : S50)] : List (S50))) := ⟨_, rfl⟩
  replace H : ((impl_inner.f k l1).bind fun t636 => ((impl_inner.f k l2).bind fun t642 => ((slices_Concat_Line.f (([y633, t636, (([(⟨0, 10, 0, 0⟩ : S50)] : List (S50))), t642] : List (List (S50))))).bind fun t648 => ((impl_programMade.f k l0_0 t648).bind fun bt651 => (some (bt651.1, bt651.2)))))) = some (r1, r2) := by first | (rw [hy633]; with_reducible exact H) | (have H2_ := (Option.bind_some _ _).symm.trans H; rw [hy633]; with_reducible exact H2_) | (have H2_ := (Option.bind_some _ _).symm.trans H; with_reducible exact H2_) | with_reducible exact H | (rw [hy633]; exact H) | exact H
  have Ny633 := am hy633
  clear hy633
  replace H := Option.bind_eq_some_iff.mp H
  obtain ⟨t636, A60, H⟩ := H
  replace H : ((impl_inner.f k l2).bind fun t642 => ((slices_Concat_Line.f (([y633, t636, (([(⟨0, 10, 0, 0⟩ : S50)] : List (S50))), t642] : List (List (S50))))).bind fun t648 => ((impl_programMade.f k l0_0 t648).bind fun bt651 => (some (bt651.1, bt651.2))))) = some (r1, r2) := H
  have A6 := am A60
  clear A60
  obtain ⟨y639, hy639⟩ : ∃ y_ : List (S50), y_ = (([(⟨0, 10, 0, 0⟩ : S50)] : List (S50))) := ⟨_, rfl⟩
  replace H : ((impl_inner.f k l2).bind fun t642 => ((slices_Concat_Line.f (([y633, t636, y639, t642] : List (List (S50))))).bind fun t648 => ((impl_programMade.f k l0_0 t648).bind fun bt651 => (some (bt651.1, bt651.2))))) = some (r1, r2) := by first | (rw [hy639]; with_reducible exact H) | (have H2_ := (Option.bind_some _ _).symm.trans H; rw [hy639]; with_reducible exact H2_) | (have H2_ := (Option.bind_some _ _).symm.trans H; with_reducible exact H2_) | with_reducible exact H | (rw [hy639]; exact H) | exact H
  have Ny639 := am hy639
  clear hy639
  replace H := Option.bind_eq_some_iff.mp H
  obtain ⟨t642, A70, H⟩ := H
  replace H : ((slices_Concat_Line.f (([y633, t636, y639, t642] : List (List (S50))))).bind fun t648 => ((impl_programMade.f k l0_0 t648).bind fun bt651 => (some (bt651.1, bt651.2)))) = some (r1, r2) := H
  have A7 := am A70
  clear A70
  obtain ⟨y645, hy645⟩ : ∃ y_ : List (List (S50)), y_ = (([y633, t636, y639, t642] : List (List (S50)))) := ⟨_, rfl⟩
  replace H : ((slices_Concat_Line.f y645).bind fun t648 => ((impl_programMade.f k l0_0 t648).bind fun bt651 => (some (bt651.1, bt651.2)))) = some (r1, r2) := by first | (rw [hy645]; with_reducible exact H) | (have H2_ := (Option.bind_some _ _).symm.trans H; rw [hy645]; with_reducible exact H2_) | (have H2_ := (Option.bind_some _ _).symm.trans H; with_reducible exact H2_) | with_reducible exact H | (rw [hy645]; exact H) | exact H
  have Ny645 := am hy645
  clear hy645
  replace H := Option.bind_eq_some_iff.mp H
  obtain ⟨t648, A80, H⟩ := H
  replace H : ((impl_programMade.f k l0_0 t648).bind fun bt651 => (some (bt651.1, bt651.2))) = some (r1, r2) := H
  have A8 := am A80
  clear A80
  replace H := Option.bind_eq_some_iff.mp H
  obtain ⟨⟨t651, t654⟩, A90, H⟩ := H
  replace H : (some (t651, t654)) = some (r1, r2) := H
  have A9 := am A90
  clear A90
  simp only [Option.some.injEq, Prod.mk.injEq] at H
  obtain ⟨rfl, rfl⟩ := H
  go_enter Try.func23, Try.ntmps23
  try go_wp2_with (first | ((with_reducible refine gate_dst (N := 3) rfl ?_); refine bE (N := 3) (cs := #[.slice A0_0 l0_0.length c0_0]) (t := 33) ?_; intro gb631 hg w10 hbox hb; have BK631 := am (hbox); have GW631 := am ((Y0 : w.heap.size ≤ gb631)); have GE631 := am ((Y0 : w.heap.size ≤ gb631)); replace HB := am (below_step (bq) hb); clear hb hbox hg; have hcz11_0 := bc0 BK631.out; have hfz11_0 := blk_frozen BK631.out 0) | ((with_reducible refine gate_callee (f := 29) rfl ?_); refine gL (some 11) Try.func29 #[.agg #[.slice A0_0 l0_0.length c0_0], .slice A1 l1.length c1, .slice A2 l2.length c2] ?_; (with_reducible refine (impl_bothValid.calls k _ _ l0_0 _ _ l1 _ _ l2 true _ ?side1 ?side2 ?side3 ?side4 ?side5 ?side6 A4.out).mono ?_); (case side1 => exact cq (Kd.C_below HR0_0.out HB.out)); (case side2 => exact HC0_0.out); (case side3 => exact cq (Kd.C_below HR1.out HB.out)); (case side4 => exact HC1.out); (case side5 => exact cq (Kd.C_below HR2.out HB.out)); (case side6 => exact HC2.out); rintro e w12 ⟨rfl, hb⟩; refine ⟨_, rfl, ?_⟩; replace BK631 := am (blk_below (g := gb631) (o := .cells #[.slice A0_0 l0_0.length c0_0] 33 (0, 0)) (kq BK631.out) hb); replace HB := am (below_step (Y3) hb); (try clear hb); (try clear hb2); (try clear hk); (try clear hi)))
  replace BK631 := am (blk_drew BK631.out)
  replace HB := am (below_drew1 HB.out)
  refine start_ (n := 16) (S := fun w' => w'.cell? ⟨gb631, 0, none⟩ = some (.slice A0_0 l0_0.length c0_0)) (ds := []) #[false, false, false, false, false, false, false, false, false, false, false, false, false, false, false, false] (by kernel_rfl) rfl rfl ((blk_cell BK631.out 0).trans rfl) (fun hHeld => ?_); refine with_tabW impl_WithFinally.tab3 impl_WithFinally.bits3 (fun HT_ HW_ => ?_)
  generalize w12.drew = w13 at BK631 HB hHeld ⊢
  refine pq (i := 1) (N := some 14) #[false, true, false, false, false, false, false, false, false, false, false, false, false, false, false, false] ?_
  refine pq (i := 3) (N := some 16) #[false, true, false, true, false, false, false, false, false, false, false, false, false, false, false, false] ?_
  refine pq (i := 5) (N := some 18) #[false, true, false, true, false, true, false, false, false, false, false, false, false, false, false, false] ?_
  refine pq (i := 7) (N := some 20) #[false, true, false, true, false, true, false, true, false, false, false, false, false, false, false, false] ?_
  refine take_ (i := 0) (N := some 13) (v := ?_) (a' := ?_) #[true, true, false, true, false, true, false, true, false, false, false, false, false, false, false, false] rfl rfl (take_ofW HT_.out HW_.out (by kernel_rfl)) (fun _ _ _ h => h) (Or.inl ⟨by rfl, ?_⟩) hHeld ?_ ?_
  rotate_left
  ·intro w' s0
   go_simp
   with_reducible rfl
  rotate_left
  ·exact sa
  refine join_ (σ := Value × Value × Value × Value) 7 #[true, true, true, true, true, true, true, true, true, false, false, false, false, false, false, false] (fun s_ => [(15, s_.1), (17, s_.2.1), (19, s_.2.2.1), (21, s_.2.2.2)]) (fun s_ w' => (w'.cell? ⟨gb631, 0, none⟩ = some (.slice A0_0 l0_0.length c0_0)) ∧ (Kd.R k50 50 w' w.heap.size (fun k_ => some k_ ≠ (s_.2.1 : Value).ownBlock ∧ some k_ ≠ (s_.2.2.1 : Value).ownBlock ∧ some k_ ≠ (s_.2.2.2 : Value).ownBlock) s_.1 y633) ∧ (Kd.R k50 50 w' w.heap.size (fun k_ => some k_ ≠ (s_.1 : Value).ownBlock ∧ some k_ ≠ (s_.2.2.1 : Value).ownBlock ∧ some k_ ≠ (s_.2.2.2 : Value).ownBlock) s_.2.1 t636) ∧ (Kd.R k50 50 w' w.heap.size (fun k_ => some k_ ≠ (s_.1 : Value).ownBlock ∧ some k_ ≠ (s_.2.1 : Value).ownBlock ∧ some k_ ≠ (s_.2.2.2 : Value).ownBlock) s_.2.2.1 y639) ∧ (Kd.R k50 50 w' w.heap.size (fun k_ => some k_ ≠ (s_.1 : Value).ownBlock ∧ some k_ ≠ (s_.2.1 : Value).ownBlock ∧ some k_ ≠ (s_.2.2.1 : Value).ownBlock) s_.2.2.2 t642) ∧ (w'.heap[gb631]? = some (.cells #[.slice A0_0 l0_0.length c0_0] 33 (0, 0))) ∧ (Below w.heap.size w w')) ?_ ?_
  rotate_left
  ·intro hJ2_4_6_8
   refine join_ (σ := Value × Value × Value) 8 #[true, true, true, true, true, true, true, true, false, false, false, false, false, false, false, false] (fun s_ => [(15, s_.1), (17, s_.2.1), (19, s_.2.2)]) (fun s_ w' => (w'.cell? ⟨gb631, 0, none⟩ = some (.slice A0_0 l0_0.length c0_0)) ∧ (Kd.R k50 50 w' w.heap.size (fun k_ => some k_ ≠ (s_.2.1 : Value).ownBlock ∧ some k_ ≠ (s_.2.2 : Value).ownBlock) s_.1 y633) ∧ (Kd.R k50 50 w' w.heap.size (fun k_ => some k_ ≠ (s_.1 : Value).ownBlock ∧ some k_ ≠ (s_.2.2 : Value).ownBlock) s_.2.1 t636) ∧ (Kd.R k50 50 w' w.heap.size (fun k_ => some k_ ≠ (s_.1 : Value).ownBlock ∧ some k_ ≠ (s_.2.1 : Value).ownBlock) s_.2.2 y639) ∧ (w'.heap[gb631]? = some (.cells #[.slice A0_0 l0_0.length c0_0] 33 (0, 0))) ∧ (Below w.heap.size w w')) ?_ ?_
   rotate_left
   ·intro hJ2_4_6
    refine join_ (σ := Value × Value × Value) 8 #[true, true, true, true, true, true, false, true, true, false, false, false, false, false, false, false] (fun s_ => [(15, s_.1), (17, s_.2.1), (21, s_.2.2)]) (fun s_ w' => (w'.cell? ⟨gb631, 0, none⟩ = some (.slice A0_0 l0_0.length c0_0)) ∧ (Kd.R k50 50 w' w.heap.size (fun k_ => some k_ ≠ (s_.2.1 : Value).ownBlock ∧ some k_ ≠ (s_.2.2 : Value).ownBlock) s_.1 y633) ∧ (Kd.R k50 50 w' w.heap.size (fun k_ => some k_ ≠ (s_.1 : Value).ownBlock ∧ some k_ ≠ (s_.2.2 : Value).ownBlock) s_.2.1 t636) ∧ (Kd.R k50 50 w' w.heap.size (fun k_ => some k_ ≠ (s_.1 : Value).ownBlock ∧ some k_ ≠ (s_.2.1 : Value).ownBlock) s_.2.2 t642) ∧ (w'.heap[gb631]? = some (.cells #[.slice A0_0 l0_0.length c0_0] 33 (0, 0))) ∧ (Below w.heap.size w w')) ?_ ?_
    rotate_left
    ·intro hJ2_4_8
     refine join_ (σ := Value × Value × Value) 8 #[true, true, false, true, true, true, true, true, true, false, false, false, false, false, false, false] (fun s_ => [(17, s_.1), (19, s_.2.1), (21, s_.2.2)]) (fun s_ w' => (w'.cell? ⟨gb631, 0, none⟩ = some (.slice A0_0 l0_0.length c0_0)) ∧ (Kd.R k50 50 w' w.heap.size (fun k_ => some k_ ≠ (s_.2.1 : Value).ownBlock ∧ some k_ ≠ (s_.2.2 : Value).ownBlock) s_.1 t636) ∧ (Kd.R k50 50 w' w.heap.size (fun k_ => some k_ ≠ (s_.1 : Value).ownBlock ∧ some k_ ≠ (s_.2.2 : Value).ownBlock) s_.2.1 y639) ∧ (Kd.R k50 50 w' w.heap.size (fun k_ => some k_ ≠ (s_.1 : Value).ownBlock ∧ some k_ ≠ (s_.2.1 : Value).ownBlock) s_.2.2 t642) ∧ (w'.heap[gb631]? = some (.cells #[.slice A0_0 l0_0.length c0_0] 33 (0, 0))) ∧ (Below w.heap.size w w')) ?_ ?_
     rotate_left
     ·intro hJ4_6_8
      refine join_ (σ := Value × Value) 9 #[true, true, true, true, true, true, false, true, false, false, false, false, false, false, false, false] (fun s_ => [(15, s_.1), (17, s_.2)]) (fun s_ w' => (w'.cell? ⟨gb631, 0, none⟩ = some (.slice A0_0 l0_0.length c0_0)) ∧ (Kd.R k50 50 w' w.heap.size (fun k_ => some k_ ≠ (s_.2 : Value).ownBlock) s_.1 y633) ∧ (Kd.R k50 50 w' w.heap.size (fun k_ => some k_ ≠ (s_.1 : Value).ownBlock) s_.2 t636) ∧ (w'.heap[gb631]? = some (.cells #[.slice A0_0 l0_0.length c0_0] 33 (0, 0))) ∧ (Below w.heap.size w w')) ?_ ?_
      rotate_left
      ·intro hJ2_4
       refine join_ (σ := Value × Value) 9 #[true, true, true, true, false, true, true, true, false, false, false, false, false, false, false, false] (fun s_ => [(15, s_.1), (19, s_.2)]) (fun s_ w' => (w'.cell? ⟨gb631, 0, none⟩ = some (.slice A0_0 l0_0.length c0_0)) ∧ (Kd.R k50 50 w' w.heap.size (fun k_ => some k_ ≠ (s_.2 : Value).ownBlock) s_.1 y633) ∧ (Kd.R k50 50 w' w.heap.size (fun k_ => some k_ ≠ (s_.1 : Value).ownBlock) s_.2 y639) ∧ (w'.heap[gb631]? = some (.cells #[.slice A0_0 l0_0.length c0_0] 33 (0, 0))) ∧ (Below w.heap.size w w')) ?_ ?_
       rotate_left
       ·intro hJ2_6
        refine join_ (σ := Value × Value) 9 #[true, true, false, true, true, true, true, true, false, false, false, false, false, false, false, false] (fun s_ => [(17, s_.1), (19, s_.2)]) (fun s_ w' => (w'.cell? ⟨gb631, 0, none⟩ = some (.slice A0_0 l0_0.length c0_0)) ∧ (Kd.R k50 50 w' w.heap.size (fun k_ => some k_ ≠ (s_.2 : Value).ownBlock) s_.1 t636) ∧ (Kd.R k50 50 w' w.heap.size (fun k_ => some k_ ≠ (s_.1 : Value).ownBlock) s_.2 y639) ∧ (w'.heap[gb631]? = some (.cells #[.slice A0_0 l0_0.length c0_0] 33 (0, 0))) ∧ (Below w.heap.size w w')) ?_ ?_
        rotate_left
        ·intro hJ4_6
         refine join_ (σ := Value × Value) 9 #[true, true, false, true, true, true, false, true, true, false, false, false, false, false, false, false] (fun s_ => [(17, s_.1), (21, s_.2)]) (fun s_ w' => (w'.cell? ⟨gb631, 0, none⟩ = some (.slice A0_0 l0_0.length c0_0)) ∧ (Kd.R k50 50 w' w.heap.size (fun k_ => some k_ ≠ (s_.2 : Value).ownBlock) s_.1 t636) ∧ (Kd.R k50 50 w' w.heap.size (fun k_ => some k_ ≠ (s_.1 : Value).ownBlock) s_.2 t642) ∧ (w'.heap[gb631]? = some (.cells #[.slice A0_0 l0_0.length c0_0] 33 (0, 0))) ∧ (Below w.heap.size w w')) ?_ ?_
         rotate_left
         ·intro hJ4_8
          refine join_ (σ := Value) 10 #[true, true, true, true, false, true, false, true, false, false, false, false, false, false, false, false] (fun s_ => [(15, s_)]) (fun s_ w' => (w'.cell? ⟨gb631, 0, none⟩ = some (.slice A0_0 l0_0.length c0_0)) ∧ (Kd.R k50 50 w' w.heap.size (fun _ => True) s_ y633) ∧ (w'.heap[gb631]? = some (.cells #[.slice A0_0 l0_0.length c0_0] 33 (0, 0))) ∧ (Below w.heap.size w w')) ?_ ?_
          rotate_left
          ·intro hJ2
           refine join_ (σ := Value) 10 #[true, true, false, true, true, true, false, true, false, false, false, false, false, false, false, false] (fun s_ => [(17, s_)]) (fun s_ w' => (w'.cell? ⟨gb631, 0, none⟩ = some (.slice A0_0 l0_0.length c0_0)) ∧ (Kd.R k50 50 w' w.heap.size (fun _ => True) s_ t636) ∧ (w'.heap[gb631]? = some (.cells #[.slice A0_0 l0_0.length c0_0] 33 (0, 0))) ∧ (Below w.heap.size w w')) ?_ ?_
           rotate_left
           ·intro hJ4
            refine join_ (σ := Value) 10 #[true, true, false, true, false, true, true, true, false, false, false, false, false, false, false, false] (fun s_ => [(19, s_)]) (fun s_ w' => (w'.cell? ⟨gb631, 0, none⟩ = some (.slice A0_0 l0_0.length c0_0)) ∧ (Kd.R k50 50 w' w.heap.size (fun _ => True) s_ y639) ∧ (w'.heap[gb631]? = some (.cells #[.slice A0_0 l0_0.length c0_0] 33 (0, 0))) ∧ (Below w.heap.size w w')) ?_ ?_
            rotate_left
            ·intro hJ6
             refine three_ (i := 2) (j := 4) (k := 6) (Ni := some 15) (Nj := some 17) (Nk := some 19) #[true, true, true, true, false, true, false, true, false, false, false, false, false, false, false, false] #[true, true, false, true, true, true, false, true, false, false, false, false, false, false, false, false] #[true, true, false, true, false, true, true, true, false, false, false, false, false, false, false, false] rfl rfl rfl rfl rfl rfl (three_of HT_.out (by kernel_rfl)) (by decide) (by decide) (by decide) (fun K hK => ?_) (fun K hK => ?_) (fun K hK => ?_)
             ·skip
              refine Kd.R_lit_step k50 _ 50 ?hg (N := 15) ?hd (xs := ([(⟨0, 7, 0, 0⟩ : S50)] : List (S50))) (inner := [.int .i64 0, .int .i64 7, .int .i64 0, .int .i64 0]) (ok := fun _ => True) (okp := fun _ => True) ?hr ?hp (fun _ hk => hk) trivial (Below.refl _ _) (Nat.le_refl _) (by simp) ?_; (case hd => rfl); (case hg => rfl); (case hr => exact Y4); (case hp => exact (Reps.c4 (show Kd.M k50 _ _ _ (⟨0, 7, 0, 0⟩ : S50) [.int .i64 0, .int .i64 7, .int .i64 0, .int .i64 0] from (k50_mkM _ _ _ (⟨0, 7, 0, 0⟩ : S50) )) (Reps.none _ _)))
              intro v634 w14 ho15 hb hg_ hnew_
              clear hg_ hnew_
              (first | rw [← Ny633.out] at ho15 | (simp only [Int.reduceToNat] at ho15; rw [← Ny633.out] at ho15))
              have HO635 := am (Kd.R_lower ho15 (below_size (Y3)))
              replace BK631 := am (blk_below (g := gb631) (o := .cells #[.slice A0_0 l0_0.length c0_0] 33 (0, 0)) (kq BK631.out) hb)
              replace HB := am (below_step (Y3) hb)
              clear hb ho15
              refine hK.out _ _ ((blk_cell BK631.out 0).trans rfl) (fun hHeld => ?_)
              clear hK K
              refine norm_ (a' := ?_) ?_ ?_
              rotate_left
              ·show Act.put _ (some 15) _ = _
               simp only [Act.put, List.setIfInBounds_toArray, List.set_cons_zero, List.set_cons_succ, i64_w, i32_w]
               rfl
              exact norm_ (Y9) (hJ2 (v634) _ ⟨hHeld, (rq HO635.out), (kq BK631.out), (Y3)⟩)
             ·skip
              refine goes_ Try.func38 (by kernel_rfl) rfl #[.slice A1 l1.length c1] (by rfl) rfl rfl (aq) ?_
              with_reducible refine (impl_inner.calls k _ _ l1 t636 _ ?side1 ?side2 A6.out).mono ?_
              (case side1 => exact cq (Kd.C_below HR1.out HB.out))
              (case side2 => exact HC1.out)
              rintro e w14 ⟨v637, rfl, ho0, hb⟩
              refine ⟨_, rfl, ?_⟩
              have HO638 := am (Kd.R_lower ho0 (below_size (Y3)))
              replace BK631 := am (blk_below (g := gb631) (o := .cells #[.slice A0_0 l0_0.length c0_0] 33 (0, 0)) (kq BK631.out) hb)
              replace HB := am (below_step (Y3) hb)
              (try clear hb)
              (try clear hb2)
              (try clear hk)
              (try clear hi)
              (try clear ho0)
              refine hK.out _ _ ((blk_cell BK631.out 0).trans rfl) (fun hHeld => ?_)
              clear hK K
              refine norm_ (a' := ?_) ?_ ?_
              rotate_left
              ·show Act.put _ (some 17) _ = _
               simp only [Act.put, List.setIfInBounds_toArray, List.set_cons_zero, List.set_cons_succ, i64_w, i32_w]
               rfl
              exact norm_ (Y9) (hJ4 (v637) _ ⟨hHeld, (rq HO638.out), (kq BK631.out), (Y3)⟩)
             ·skip
              refine Kd.R_lit_step k50 _ 50 ?hg (N := 19) ?hd (xs := ([(⟨0, 10, 0, 0⟩ : S50)] : List (S50))) (inner := [.int .i64 0, .int .i64 10, .int .i64 0, .int .i64 0]) (ok := fun _ => True) (okp := fun _ => True) ?hr ?hp (fun _ hk => hk) trivial (Below.refl _ _) (Nat.le_refl _) (by simp) ?_; (case hd => rfl); (case hg => rfl); (case hr => exact Y4); (case hp => exact (Reps.c4 (show Kd.M k50 _ _ _ (⟨0, 10, 0, 0⟩ : S50) [.int .i64 0, .int .i64 10, .int .i64 0, .int .i64 0] from (k50_mkM _ _ _ (⟨0, 10, 0, 0⟩ : S50) )) (Reps.none _ _)))
              intro v640 w14 ho15 hb hg_ hnew_
              clear hg_ hnew_
              (first | rw [← Ny639.out] at ho15 | (simp only [Int.reduceToNat] at ho15; rw [← Ny639.out] at ho15))
              have HO641 := am (Kd.R_lower ho15 (below_size (Y3)))
              replace BK631 := am (blk_below (g := gb631) (o := .cells #[.slice A0_0 l0_0.length c0_0] 33 (0, 0)) (kq BK631.out) hb)
              replace HB := am (below_step (Y3) hb)
              clear hb ho15
              refine hK.out _ _ ((blk_cell BK631.out 0).trans rfl) (fun hHeld => ?_)
              clear hK K
              refine norm_ (a' := ?_) ?_ ?_
              rotate_left
              ·show Act.put _ (some 19) _ = _
               simp only [Act.put, List.setIfInBounds_toArray, List.set_cons_zero, List.set_cons_succ, i64_w, i32_w]
               rfl
              exact norm_ (Y9) (hJ6 (v640) _ ⟨hHeld, (rq HO641.out), (kq BK631.out), (Y3)⟩)
            ·skip
             rintro v640 w16 ⟨hS_, h0_, h1_, h2_⟩
             have n0_ : Aside0 (Kd.R k50 50 w16 w.heap.size (fun _ => True) v640 y639) := ⟨h0_⟩
             have n1_ : Aside0 (w16.heap[gb631]? = some (.cells #[.slice A0_0 l0_0.length c0_0] 33 (0, 0))) := ⟨h1_⟩
             have n2_ : Aside0 (Below w.heap.size w w16) := ⟨h2_⟩
             clear BK631
             clear HB
             clear h0_ h1_ h2_
             have HO641 := n0_
             have BK631 := n1_
             have HB := n2_
             clear n0_ n1_ n2_
             have hHeld : w16.cell? ⟨gb631, 0, none⟩ = some (.slice A0_0 l0_0.length c0_0) := hS_
             refine norm_ (a' := ?_) ?_ ?_
             rotate_left
             ·simp only [putAll, Act.put, List.setIfInBounds_toArray, List.set_cons_zero, List.set_cons_succ]
              rfl
             refine two_ (i := 2) (j := 4) (Ni := some 15) (Nj := some 17) #[true, true, true, true, false, true, true, true, false, false, false, false, false, false, false, false] #[true, true, false, true, true, true, true, true, false, false, false, false, false, false, false, false] rfl rfl rfl rfl (two_of HT_.out (by kernel_rfl)) (by decide) (by decide) (fun K hK => ?_) (fun K hK => ?_)
             ·skip
              refine Kd.R_lit_step k50 _ 50 ?hg (N := 15) ?hd (xs := ([(⟨0, 7, 0, 0⟩ : S50)] : List (S50))) (inner := [.int .i64 0, .int .i64 7, .int .i64 0, .int .i64 0]) (ok := fun _ => True) (okp := fun _ => True) ?hr ?hp (fun _ hk => hk) trivial (Below.refl _ _) (Nat.le_refl _) (by simp) ?_; (case hd => rfl); (case hg => rfl); (case hr => exact Y4); (case hp => exact (Reps.c4 (show Kd.M k50 _ _ _ (⟨0, 7, 0, 0⟩ : S50) [.int .i64 0, .int .i64 7, .int .i64 0, .int .i64 0] from (k50_mkM _ _ _ (⟨0, 7, 0, 0⟩ : S50) )) (Reps.none _ _)))
              intro v634 w17 ho18 hb hg_ hnew_
              clear hg_ hnew_
              (first | rw [← Ny633.out] at ho18 | (simp only [Int.reduceToNat] at ho18; rw [← Ny633.out] at ho18))
              have HO635 := am (Kd.R_lower (Kd.R_new' ho18 (Kd.R_lt (rq HO641.out))) (below_size (Y3)))
              replace HO641 := am (Kd.R_elder' (rq HO641.out) (Kd.R_base ho18) hb)
              replace BK631 := am (blk_below (g := gb631) (o := .cells #[.slice A0_0 l0_0.length c0_0] 33 (0, 0)) (kq BK631.out) hb)
              replace HB := am (below_step (Y3) hb)
              clear hb ho18
              refine hK.out _ _ ((blk_cell BK631.out 0).trans rfl) (fun hHeld => ?_)
              clear hK K
              refine norm_ (a' := ?_) ?_ ?_
              rotate_left
              ·show Act.put _ (some 15) _ = _
               simp only [Act.put, List.setIfInBounds_toArray, List.set_cons_zero, List.set_cons_succ, i64_w, i32_w]
               rfl
              exact norm_ (Y9) (hJ2_6 (v634, v640) _ ⟨hHeld, (Y54), (Y55), (kq BK631.out), (Y3)⟩)
             ·skip
              refine goes_ Try.func38 (by kernel_rfl) rfl #[.slice A1 l1.length c1] (by rfl) rfl rfl (aq) ?_
              with_reducible refine (impl_inner.calls k _ _ l1 t636 _ ?side1 ?side2 A6.out).mono ?_
              (case side1 => exact cq (Kd.C_below HR1.out HB.out))
              (case side2 => exact HC1.out)
              rintro e w17 ⟨v637, rfl, ho0, hb⟩
              refine ⟨_, rfl, ?_⟩
              have HO638 := am (Kd.R_lower (Kd.R_new' ho0 (Kd.R_lt (rq HO641.out))) (below_size (Y3)))
              replace HO641 := am (Kd.R_elder' (rq HO641.out) (Kd.R_base ho0) hb)
              replace BK631 := am (blk_below (g := gb631) (o := .cells #[.slice A0_0 l0_0.length c0_0] 33 (0, 0)) (kq BK631.out) hb)
              replace HB := am (below_step (Y3) hb)
              (try clear hb)
              (try clear hb2)
              (try clear hk)
              (try clear hi)
              (try clear ho0)
              refine hK.out _ _ ((blk_cell BK631.out 0).trans rfl) (fun hHeld => ?_)
              clear hK K
              refine norm_ (a' := ?_) ?_ ?_
              rotate_left
              ·show Act.put _ (some 17) _ = _
               simp only [Act.put, List.setIfInBounds_toArray, List.set_cons_zero, List.set_cons_succ, i64_w, i32_w]
               rfl
              exact norm_ (Y9) (hJ4_6 (v637, v640) _ ⟨hHeld, (Y46), (Y55), (kq BK631.out), (Y3)⟩)
           ·skip
            rintro v637 w15 ⟨hS_, h0_, h1_, h2_⟩
            have n0_ : Aside0 (Kd.R k50 50 w15 w.heap.size (fun _ => True) v637 t636) := ⟨h0_⟩
            have n1_ : Aside0 (w15.heap[gb631]? = some (.cells #[.slice A0_0 l0_0.length c0_0] 33 (0, 0))) := ⟨h1_⟩
            have n2_ : Aside0 (Below w.heap.size w w15) := ⟨h2_⟩
            clear BK631
            clear HB
            clear h0_ h1_ h2_
            have HO638 := n0_
            have BK631 := n1_
            have HB := n2_
            clear n0_ n1_ n2_
            have hHeld : w15.cell? ⟨gb631, 0, none⟩ = some (.slice A0_0 l0_0.length c0_0) := hS_
            refine norm_ (a' := ?_) ?_ ?_
            rotate_left
            ·simp only [putAll, Act.put, List.setIfInBounds_toArray, List.set_cons_zero, List.set_cons_succ]
             rfl
            refine three_ (i := 2) (j := 6) (k := 8) (Ni := some 15) (Nj := some 19) (Nk := some 21) #[true, true, true, true, true, true, false, true, false, false, false, false, false, false, false, false] #[true, true, false, true, true, true, true, true, false, false, false, false, false, false, false, false] #[true, true, false, true, true, true, false, true, true, false, false, false, false, false, false, false] rfl rfl rfl rfl rfl rfl (three_of HT_.out (by kernel_rfl)) (by decide) (by decide) (by decide) (fun K hK => ?_) (fun K hK => ?_) (fun K hK => ?_)
            ·skip
             refine Kd.R_lit_step k50 _ 50 ?hg (N := 15) ?hd (xs := ([(⟨0, 7, 0, 0⟩ : S50)] : List (S50))) (inner := [.int .i64 0, .int .i64 7, .int .i64 0, .int .i64 0]) (ok := fun _ => True) (okp := fun _ => True) ?hr ?hp (fun _ hk => hk) trivial (Below.refl _ _) (Nat.le_refl _) (by simp) ?_; (case hd => rfl); (case hg => rfl); (case hr => exact Y4); (case hp => exact (Reps.c4 (show Kd.M k50 _ _ _ (⟨0, 7, 0, 0⟩ : S50) [.int .i64 0, .int .i64 7, .int .i64 0, .int .i64 0] from (k50_mkM _ _ _ (⟨0, 7, 0, 0⟩ : S50) )) (Reps.none _ _)))
             intro v634 w16 ho17 hb hg_ hnew_
             clear hg_ hnew_
             (first | rw [← Ny633.out] at ho17 | (simp only [Int.reduceToNat] at ho17; rw [← Ny633.out] at ho17))
             have HO635 := am (Kd.R_lower (Kd.R_new' ho17 (Kd.R_lt (rq HO638.out))) (below_size (Y3)))
             replace HO638 := am (Kd.R_elder' (rq HO638.out) (Kd.R_base ho17) hb)
             replace BK631 := am (blk_below (g := gb631) (o := .cells #[.slice A0_0 l0_0.length c0_0] 33 (0, 0)) (kq BK631.out) hb)
             replace HB := am (below_step (Y3) hb)
             clear hb ho17
             refine hK.out _ _ ((blk_cell BK631.out 0).trans rfl) (fun hHeld => ?_)
             clear hK K
             refine norm_ (a' := ?_) ?_ ?_
             rotate_left
             ·show Act.put _ (some 15) _ = _
              simp only [Act.put, List.setIfInBounds_toArray, List.set_cons_zero, List.set_cons_succ, i64_w, i32_w]
              rfl
             exact norm_ (Y9) (hJ2_4 (v634, v637) _ ⟨hHeld, (Y54), (Y46), (kq BK631.out), (Y3)⟩)
            ·skip
             refine Kd.R_lit_step k50 _ 50 ?hg (N := 19) ?hd (xs := ([(⟨0, 10, 0, 0⟩ : S50)] : List (S50))) (inner := [.int .i64 0, .int .i64 10, .int .i64 0, .int .i64 0]) (ok := fun _ => True) (okp := fun _ => True) ?hr ?hp (fun _ hk => hk) trivial (Below.refl _ _) (Nat.le_refl _) (by simp) ?_; (case hd => rfl); (case hg => rfl); (case hr => exact Y4); (case hp => exact (Reps.c4 (show Kd.M k50 _ _ _ (⟨0, 10, 0, 0⟩ : S50) [.int .i64 0, .int .i64 10, .int .i64 0, .int .i64 0] from (k50_mkM _ _ _ (⟨0, 10, 0, 0⟩ : S50) )) (Reps.none _ _)))
             intro v640 w16 ho17 hb hg_ hnew_
             clear hg_ hnew_
             (first | rw [← Ny639.out] at ho17 | (simp only [Int.reduceToNat] at ho17; rw [← Ny639.out] at ho17))
             have HO641 := am (Kd.R_lower (Kd.R_new' ho17 (Kd.R_lt (rq HO638.out))) (below_size (Y3)))
             replace HO638 := am (Kd.R_elder' (rq HO638.out) (Kd.R_base ho17) hb)
             replace BK631 := am (blk_below (g := gb631) (o := .cells #[.slice A0_0 l0_0.length c0_0] 33 (0, 0)) (kq BK631.out) hb)
             replace HB := am (below_step (Y3) hb)
             clear hb ho17
             refine hK.out _ _ ((blk_cell BK631.out 0).trans rfl) (fun hHeld => ?_)
             clear hK K
             refine norm_ (a' := ?_) ?_ ?_
             rotate_left
             ·show Act.put _ (some 19) _ = _
              simp only [Act.put, List.setIfInBounds_toArray, List.set_cons_zero, List.set_cons_succ, i64_w, i32_w]
              rfl
             exact norm_ (Y9) (hJ4_6 (v637, v640) _ ⟨hHeld, (Y46), (Y55), (kq BK631.out), (Y3)⟩)
            ·skip
             refine goes_ Try.func38 (by kernel_rfl) rfl #[.slice A2 l2.length c2] (by rfl) rfl rfl (aq) ?_
             with_reducible refine (impl_inner.calls k _ _ l2 t642 _ ?side1 ?side2 A7.out).mono ?_
             (case side1 => exact cq (Kd.C_below HR2.out HB.out))
             (case side2 => exact HC2.out)
             rintro e w16 ⟨v643, rfl, ho0, hb⟩
             refine ⟨_, rfl, ?_⟩
             have HO644 := am (Kd.R_lower (Kd.R_new' ho0 (Kd.R_lt (rq HO638.out))) (below_size (Y3)))
             replace HO638 := am (Kd.R_elder' (rq HO638.out) (Kd.R_base ho0) hb)
             replace BK631 := am (blk_below (g := gb631) (o := .cells #[.slice A0_0 l0_0.length c0_0] 33 (0, 0)) (kq BK631.out) hb)
             replace HB := am (below_step (Y3) hb)
             (try clear hb)
             (try clear hb2)
             (try clear hk)
             (try clear hi)
             (try clear ho0)
             refine hK.out _ _ ((blk_cell BK631.out 0).trans rfl) (fun hHeld => ?_)
             clear hK K
             refine norm_ (a' := ?_) ?_ ?_
             rotate_left
             ·show Act.put _ (some 21) _ = _
              simp only [Act.put, List.setIfInBounds_toArray, List.set_cons_zero, List.set_cons_succ, i64_w, i32_w]
              rfl
             exact norm_ (Y9) (hJ4_8 (v637, v643) _ ⟨hHeld, (Y46), (by (with_reducible repeat (first | apply Kd.R_alloc | apply Kd.R_drewN | apply Kd.R_drew)); exact Kd.R_mono HO644.out (fun _ hk => hk.2)), (kq BK631.out), (Y3)⟩)
          ·skip
           rintro v634 w16 ⟨hS_, h0_, h1_, h2_⟩
           have n0_ : Aside0 (Kd.R k50 50 w16 w.heap.size (fun _ => True) v634 y633) := ⟨h0_⟩
           have n1_ : Aside0 (w16.heap[gb631]? = some (.cells #[.slice A0_0 l0_0.length c0_0] 33 (0, 0))) := ⟨h1_⟩
           have n2_ : Aside0 (Below w.heap.size w w16) := ⟨h2_⟩
           clear BK631
           clear HB
           clear h0_ h1_ h2_
           have HO635 := n0_
           have BK631 := n1_
           have HB := n2_
           clear n0_ n1_ n2_
           have hHeld : w16.cell? ⟨gb631, 0, none⟩ = some (.slice A0_0 l0_0.length c0_0) := hS_
           refine norm_ (a' := ?_) ?_ ?_
           rotate_left
           ·simp only [putAll, Act.put, List.setIfInBounds_toArray, List.set_cons_zero, List.set_cons_succ]
            rfl
           refine two_ (i := 4) (j := 6) (Ni := some 17) (Nj := some 19) #[true, true, true, true, true, true, false, true, false, false, false, false, false, false, false, false] #[true, true, true, true, false, true, true, true, false, false, false, false, false, false, false, false] rfl rfl rfl rfl (two_of HT_.out (by kernel_rfl)) (by decide) (by decide) (fun K hK => ?_) (fun K hK => ?_)
           ·skip
            refine goes_ Try.func38 (by kernel_rfl) rfl #[.slice A1 l1.length c1] (by rfl) rfl rfl (aq) ?_
            with_reducible refine (impl_inner.calls k _ _ l1 t636 _ ?side1 ?side2 A6.out).mono ?_
            (case side1 => exact cq (Kd.C_below HR1.out HB.out))
            (case side2 => exact HC1.out)
            rintro e w17 ⟨v637, rfl, ho0, hb⟩
            refine ⟨_, rfl, ?_⟩
            have HO638 := am (Kd.R_lower (Kd.R_new' ho0 (Kd.R_lt (rq HO635.out))) (below_size (Y3)))
            replace HO635 := am (Kd.R_elder' (rq HO635.out) (Kd.R_base ho0) hb)
            replace BK631 := am (blk_below (g := gb631) (o := .cells #[.slice A0_0 l0_0.length c0_0] 33 (0, 0)) (kq BK631.out) hb)
            replace HB := am (below_step (Y3) hb)
            (try clear hb)
            (try clear hb2)
            (try clear hk)
            (try clear hi)
            (try clear ho0)
            refine hK.out _ _ ((blk_cell BK631.out 0).trans rfl) (fun hHeld => ?_)
            clear hK K
            refine norm_ (a' := ?_) ?_ ?_
            rotate_left
            ·show Act.put _ (some 17) _ = _
             simp only [Act.put, List.setIfInBounds_toArray, List.set_cons_zero, List.set_cons_succ, i64_w, i32_w]
             rfl
            exact norm_ (Y9) (hJ2_4 (v634, v637) _ ⟨hHeld, (Y54), (Y46), (kq BK631.out), (Y3)⟩)
           ·skip
            refine Kd.R_lit_step k50 _ 50 ?hg (N := 19) ?hd (xs := ([(⟨0, 10, 0, 0⟩ : S50)] : List (S50))) (inner := [.int .i64 0, .int .i64 10, .int .i64 0, .int .i64 0]) (ok := fun _ => True) (okp := fun _ => True) ?hr ?hp (fun _ hk => hk) trivial (Below.refl _ _) (Nat.le_refl _) (by simp) ?_; (case hd => rfl); (case hg => rfl); (case hr => exact Y4); (case hp => exact (Reps.c4 (show Kd.M k50 _ _ _ (⟨0, 10, 0, 0⟩ : S50) [.int .i64 0, .int .i64 10, .int .i64 0, .int .i64 0] from (k50_mkM _ _ _ (⟨0, 10, 0, 0⟩ : S50) )) (Reps.none _ _)))
            intro v640 w17 ho18 hb hg_ hnew_
            clear hg_ hnew_
            (first | rw [← Ny639.out] at ho18 | (simp only [Int.reduceToNat] at ho18; rw [← Ny639.out] at ho18))
            have HO641 := am (Kd.R_lower (Kd.R_new' ho18 (Kd.R_lt (rq HO635.out))) (below_size (Y3)))
            replace HO635 := am (Kd.R_elder' (rq HO635.out) (Kd.R_base ho18) hb)
            replace BK631 := am (blk_below (g := gb631) (o := .cells #[.slice A0_0 l0_0.length c0_0] 33 (0, 0)) (kq BK631.out) hb)
            replace HB := am (below_step (Y3) hb)
            clear hb ho18
            refine hK.out _ _ ((blk_cell BK631.out 0).trans rfl) (fun hHeld => ?_)
            clear hK K
            refine norm_ (a' := ?_) ?_ ?_
            rotate_left
            ·show Act.put _ (some 19) _ = _
             simp only [Act.put, List.setIfInBounds_toArray, List.set_cons_zero, List.set_cons_succ, i64_w, i32_w]
             rfl
            exact norm_ (Y9) (hJ2_6 (v634, v640) _ ⟨hHeld, (Y54), (Y55), (kq BK631.out), (Y3)⟩)
         ·skip
          rintro ⟨v637, v643⟩ w16 ⟨hS_, h0_, h1_, h2_, h3_⟩
          have n0_ : Aside0 (Kd.R k50 50 w16 w.heap.size (fun k_ => some k_ ≠ (v643 : Value).ownBlock) v637 t636) := ⟨h0_⟩
          have n1_ : Aside0 (Kd.R k50 50 w16 w.heap.size (fun k_ => some k_ ≠ (v637 : Value).ownBlock) v643 t642) := ⟨h1_⟩
          have n2_ : Aside0 (w16.heap[gb631]? = some (.cells #[.slice A0_0 l0_0.length c0_0] 33 (0, 0))) := ⟨h2_⟩
          have n3_ : Aside0 (Below w.heap.size w w16) := ⟨h3_⟩
          clear BK631
          clear HB
          clear h0_ h1_ h2_ h3_
          have HO638 := n0_
          have HO644 := n1_
          have BK631 := n2_
          have HB := n3_
          clear n0_ n1_ n2_ n3_
          have hHeld : w16.cell? ⟨gb631, 0, none⟩ = some (.slice A0_0 l0_0.length c0_0) := hS_
          refine norm_ (a' := ?_) ?_ ?_
          rotate_left
          ·simp only [putAll, Act.put, List.setIfInBounds_toArray, List.set_cons_zero, List.set_cons_succ]
           rfl
          refine two_ (i := 2) (j := 6) (Ni := some 15) (Nj := some 19) #[true, true, true, true, true, true, false, true, true, false, false, false, false, false, false, false] #[true, true, false, true, true, true, true, true, true, false, false, false, false, false, false, false] rfl rfl rfl rfl (two_of HT_.out (by kernel_rfl)) (by decide) (by decide) (fun K hK => ?_) (fun K hK => ?_)
          ·skip
           refine Kd.R_lit_step k50 _ 50 ?hg (N := 15) ?hd (xs := ([(⟨0, 7, 0, 0⟩ : S50)] : List (S50))) (inner := [.int .i64 0, .int .i64 7, .int .i64 0, .int .i64 0]) (ok := fun _ => True) (okp := fun _ => True) ?hr ?hp (fun _ hk => hk) trivial (Below.refl _ _) (Nat.le_refl _) (by simp) ?_; (case hd => rfl); (case hg => rfl); (case hr => exact Y4); (case hp => exact (Reps.c4 (show Kd.M k50 _ _ _ (⟨0, 7, 0, 0⟩ : S50) [.int .i64 0, .int .i64 7, .int .i64 0, .int .i64 0] from (k50_mkM _ _ _ (⟨0, 7, 0, 0⟩ : S50) )) (Reps.none _ _)))
           intro v634 w17 ho18 hb hg_ hnew_
           clear hg_ hnew_
           (first | rw [← Ny633.out] at ho18 | (simp only [Int.reduceToNat] at ho18; rw [← Ny633.out] at ho18))
           have HO635 := am (Kd.R_lower (Kd.R_new' (Kd.R_new' ho18 (Kd.R_lt (rq HO638.out))) (Kd.R_lt (rq HO644.out))) (below_size (Y3)))
           replace HO638 := am (Kd.R_elder' (rq HO638.out) (Kd.R_base ho18) hb)
           replace HO644 := am (Kd.R_elder' (rq HO644.out) (Kd.R_base ho18) hb)
           replace BK631 := am (blk_below (g := gb631) (o := .cells #[.slice A0_0 l0_0.length c0_0] 33 (0, 0)) (kq BK631.out) hb)
           replace HB := am (below_step (Y3) hb)
           clear hb ho18
           refine hK.out _ _ ((blk_cell BK631.out 0).trans rfl) (fun hHeld => ?_)
           clear hK K
           refine norm_ (a' := ?_) ?_ ?_
           rotate_left
           ·show Act.put _ (some 15) _ = _
            simp only [Act.put, List.setIfInBounds_toArray, List.set_cons_zero, List.set_cons_succ, i64_w, i32_w]
            rfl
           exact norm_ (Y9) (hJ2_4_8 (v634, v637, v643) _ ⟨hHeld, (Y99), (Y65), (by (with_reducible repeat (first | apply Kd.R_alloc | apply Kd.R_drewN | apply Kd.R_drew)); exact Kd.R_mono HO644.out (fun _ hk => ⟨hk.2, hk.1⟩)), (kq BK631.out), (Y3)⟩)
          ·skip
           refine Kd.R_lit_step k50 _ 50 ?hg (N := 19) ?hd (xs := ([(⟨0, 10, 0, 0⟩ : S50)] : List (S50))) (inner := [.int .i64 0, .int .i64 10, .int .i64 0, .int .i64 0]) (ok := fun _ => True) (okp := fun _ => True) ?hr ?hp (fun _ hk => hk) trivial (Below.refl _ _) (Nat.le_refl _) (by simp) ?_; (case hd => rfl); (case hg => rfl); (case hr => exact Y4); (case hp => exact (Reps.c4 (show Kd.M k50 _ _ _ (⟨0, 10, 0, 0⟩ : S50) [.int .i64 0, .int .i64 10, .int .i64 0, .int .i64 0] from (k50_mkM _ _ _ (⟨0, 10, 0, 0⟩ : S50) )) (Reps.none _ _)))
           intro v640 w17 ho18 hb hg_ hnew_
           clear hg_ hnew_
           (first | rw [← Ny639.out] at ho18 | (simp only [Int.reduceToNat] at ho18; rw [← Ny639.out] at ho18))
           have HO641 := am (Kd.R_lower (Kd.R_new' (Kd.R_new' ho18 (Kd.R_lt (rq HO638.out))) (Kd.R_lt (rq HO644.out))) (below_size (Y3)))
           replace HO638 := am (Kd.R_elder' (rq HO638.out) (Kd.R_base ho18) hb)
           replace HO644 := am (Kd.R_elder' (rq HO644.out) (Kd.R_base ho18) hb)
           replace BK631 := am (blk_below (g := gb631) (o := .cells #[.slice A0_0 l0_0.length c0_0] 33 (0, 0)) (kq BK631.out) hb)
           replace HB := am (below_step (Y3) hb)
           clear hb ho18
           refine hK.out _ _ ((blk_cell BK631.out 0).trans rfl) (fun hHeld => ?_)
           clear hK K
           refine norm_ (a' := ?_) ?_ ?_
           rotate_left
           ·show Act.put _ (some 19) _ = _
            simp only [Act.put, List.setIfInBounds_toArray, List.set_cons_zero, List.set_cons_succ, i64_w, i32_w]
            rfl
           exact norm_ (Y9) (hJ4_6_8 (v637, v640, v643) _ ⟨hHeld, (Y65), (Y100), (rq HO644.out), (kq BK631.out), (Y3)⟩)
        ·skip
         rintro ⟨v637, v640⟩ w17 ⟨hS_, h0_, h1_, h2_, h3_⟩
         have n0_ : Aside0 (Kd.R k50 50 w17 w.heap.size (fun k_ => some k_ ≠ (v640 : Value).ownBlock) v637 t636) := ⟨h0_⟩
         have n1_ : Aside0 (Kd.R k50 50 w17 w.heap.size (fun k_ => some k_ ≠ (v637 : Value).ownBlock) v640 y639) := ⟨h1_⟩
         have n2_ : Aside0 (w17.heap[gb631]? = some (.cells #[.slice A0_0 l0_0.length c0_0] 33 (0, 0))) := ⟨h2_⟩
         have n3_ : Aside0 (Below w.heap.size w w17) := ⟨h3_⟩
         clear BK631
         clear HB
         clear h0_ h1_ h2_ h3_
         have HO638 := n0_
         have HO641 := n1_
         have BK631 := n2_
         have HB := n3_
         clear n0_ n1_ n2_ n3_
         have hHeld : w17.cell? ⟨gb631, 0, none⟩ = some (.slice A0_0 l0_0.length c0_0) := hS_
         refine norm_ (a' := ?_) ?_ ?_
         rotate_left
         ·simp only [putAll, Act.put, List.setIfInBounds_toArray, List.set_cons_zero, List.set_cons_succ]
          rfl
         refine two_ (i := 2) (j := 8) (Ni := some 15) (Nj := some 21) #[true, true, true, true, true, true, true, true, false, false, false, false, false, false, false, false] #[true, true, false, true, true, true, true, true, true, false, false, false, false, false, false, false] rfl rfl rfl rfl (two_of HT_.out (by kernel_rfl)) (by decide) (by decide) (fun K hK => ?_) (fun K hK => ?_)
         ·skip
          refine Kd.R_lit_step k50 _ 50 ?hg (N := 15) ?hd (xs := ([(⟨0, 7, 0, 0⟩ : S50)] : List (S50))) (inner := [.int .i64 0, .int .i64 7, .int .i64 0, .int .i64 0]) (ok := fun _ => True) (okp := fun _ => True) ?hr ?hp (fun _ hk => hk) trivial (Below.refl _ _) (Nat.le_refl _) (by simp) ?_; (case hd => rfl); (case hg => rfl); (case hr => exact Y4); (case hp => exact (Reps.c4 (show Kd.M k50 _ _ _ (⟨0, 7, 0, 0⟩ : S50) [.int .i64 0, .int .i64 7, .int .i64 0, .int .i64 0] from (k50_mkM _ _ _ (⟨0, 7, 0, 0⟩ : S50) )) (Reps.none _ _)))
          intro v634 w18 ho19 hb hg_ hnew_
          clear hg_ hnew_
          (first | rw [← Ny633.out] at ho19 | (simp only [Int.reduceToNat] at ho19; rw [← Ny633.out] at ho19))
          have HO635 := am (Kd.R_lower (Kd.R_new' (Kd.R_new' ho19 (Kd.R_lt (rq HO638.out))) (Kd.R_lt (rq HO641.out))) (below_size (Y3)))
          replace HO638 := am (Kd.R_elder' (rq HO638.out) (Kd.R_base ho19) hb)
          replace HO641 := am (Kd.R_elder' (rq HO641.out) (Kd.R_base ho19) hb)
          replace BK631 := am (blk_below (g := gb631) (o := .cells #[.slice A0_0 l0_0.length c0_0] 33 (0, 0)) (kq BK631.out) hb)
          replace HB := am (below_step (Y3) hb)
          clear hb ho19
          refine hK.out _ _ ((blk_cell BK631.out 0).trans rfl) (fun hHeld => ?_)
          clear hK K
          refine norm_ (a' := ?_) ?_ ?_
          rotate_left
          ·show Act.put _ (some 15) _ = _
           simp only [Act.put, List.setIfInBounds_toArray, List.set_cons_zero, List.set_cons_succ, i64_w, i32_w]
           rfl
          exact norm_ (Y9) (hJ2_4_6 (v634, v637, v640) _ ⟨hHeld, (Y99), (Y65), (by (with_reducible repeat (first | apply Kd.R_alloc | apply Kd.R_drewN | apply Kd.R_drew)); exact Kd.R_mono HO641.out (fun _ hk => ⟨hk.2, hk.1⟩)), (kq BK631.out), (Y3)⟩)
         ·skip
          refine goes_ Try.func38 (by kernel_rfl) rfl #[.slice A2 l2.length c2] (by rfl) rfl rfl (aq) ?_
          with_reducible refine (impl_inner.calls k _ _ l2 t642 _ ?side1 ?side2 A7.out).mono ?_
          (case side1 => exact cq (Kd.C_below HR2.out HB.out))
          (case side2 => exact HC2.out)
          rintro e w18 ⟨v643, rfl, ho0, hb⟩
          refine ⟨_, rfl, ?_⟩
          have HO644 := am (Kd.R_lower (Kd.R_new' (Kd.R_new' ho0 (Kd.R_lt (rq HO638.out))) (Kd.R_lt (rq HO641.out))) (below_size (Y3)))
          replace HO638 := am (Kd.R_elder' (rq HO638.out) (Kd.R_base ho0) hb)
          replace HO641 := am (Kd.R_elder' (rq HO641.out) (Kd.R_base ho0) hb)
          replace BK631 := am (blk_below (g := gb631) (o := .cells #[.slice A0_0 l0_0.length c0_0] 33 (0, 0)) (kq BK631.out) hb)
          replace HB := am (below_step (Y3) hb)
          (try clear hb)
          (try clear hb2)
          (try clear hk)
          (try clear hi)
          (try clear ho0)
          refine hK.out _ _ ((blk_cell BK631.out 0).trans rfl) (fun hHeld => ?_)
          clear hK K
          refine norm_ (a' := ?_) ?_ ?_
          rotate_left
          ·show Act.put _ (some 21) _ = _
           simp only [Act.put, List.setIfInBounds_toArray, List.set_cons_zero, List.set_cons_succ, i64_w, i32_w]
           rfl
          exact norm_ (Y9) (hJ4_6_8 (v637, v640, v643) _ ⟨hHeld, (rq HO638.out), (rq HO641.out), (Y101), (kq BK631.out), (Y3)⟩)
       ·skip
        rintro ⟨v634, v640⟩ w18 ⟨hS_, h0_, h1_, h2_, h3_⟩
        have n0_ : Aside0 (Kd.R k50 50 w18 w.heap.size (fun k_ => some k_ ≠ (v640 : Value).ownBlock) v634 y633) := ⟨h0_⟩
        have n1_ : Aside0 (Kd.R k50 50 w18 w.heap.size (fun k_ => some k_ ≠ (v634 : Value).ownBlock) v640 y639) := ⟨h1_⟩
        have n2_ : Aside0 (w18.heap[gb631]? = some (.cells #[.slice A0_0 l0_0.length c0_0] 33 (0, 0))) := ⟨h2_⟩
        have n3_ : Aside0 (Below w.heap.size w w18) := ⟨h3_⟩
        clear BK631
        clear HB
        clear h0_ h1_ h2_ h3_
        have HO635 := n0_
        have HO641 := n1_
        have BK631 := n2_
        have HB := n3_
        clear n0_ n1_ n2_ n3_
        have hHeld : w18.cell? ⟨gb631, 0, none⟩ = some (.slice A0_0 l0_0.length c0_0) := hS_
        refine norm_ (a' := ?_) ?_ ?_
        rotate_left
        ·simp only [putAll, Act.put, List.setIfInBounds_toArray, List.set_cons_zero, List.set_cons_succ]
         rfl
        refine one_ (i := 4) (N := some 17) #[true, true, true, true, true, true, true, true, false, false, false, false, false, false, false, false] rfl rfl (one_of HT_.out (by kernel_rfl)) (by decide) (fun K hK => ?_)
        refine goes_ Try.func38 (by kernel_rfl) rfl #[.slice A1 l1.length c1] (by rfl) rfl rfl (aq) ?_
        with_reducible refine (impl_inner.calls k _ _ l1 t636 _ ?side1 ?side2 A6.out).mono ?_
        (case side1 => exact cq (Kd.C_below HR1.out HB.out))
        (case side2 => exact HC1.out)
        rintro e w19 ⟨v637, rfl, ho0, hb⟩
        refine ⟨_, rfl, ?_⟩
        have HO638 := am (Kd.R_lower (Kd.R_new' (Kd.R_new' ho0 (Kd.R_lt (rq HO635.out))) (Kd.R_lt (rq HO641.out))) (below_size (Y3)))
        replace HO635 := am (Kd.R_elder' (rq HO635.out) (Kd.R_base ho0) hb)
        replace HO641 := am (Kd.R_elder' (rq HO641.out) (Kd.R_base ho0) hb)
        replace BK631 := am (blk_below (g := gb631) (o := .cells #[.slice A0_0 l0_0.length c0_0] 33 (0, 0)) (kq BK631.out) hb)
        replace HB := am (below_step (Y3) hb)
        (try clear hb)
        (try clear hb2)
        (try clear hk)
        (try clear hi)
        (try clear ho0)
        refine hK.out _ _ ((blk_cell BK631.out 0).trans rfl) (fun hHeld => ?_)
        clear hK K
        refine norm_ (a' := ?_) ?_ ?_
        rotate_left
        ·show Act.put _ (some 17) _ = _
         simp only [Act.put, List.setIfInBounds_toArray, List.set_cons_zero, List.set_cons_succ, i64_w, i32_w]
         rfl
        exact norm_ (Y9) (hJ2_4_6 (v634, v637, v640) _ ⟨hHeld, (by (with_reducible repeat (first | apply Kd.R_alloc | apply Kd.R_drewN | apply Kd.R_drew)); exact Kd.R_mono HO635.out (fun _ hk => ⟨hk.2, hk.1⟩)), (by (with_reducible repeat (first | apply Kd.R_alloc | apply Kd.R_drewN | apply Kd.R_drew)); exact Kd.R_mono HO638.out (fun _ hk => ⟨hk.1.2, hk.2⟩)), (rq HO641.out), (kq BK631.out), (Y3)⟩)
      ·skip
       rintro ⟨v634, v637⟩ w17 ⟨hS_, h0_, h1_, h2_, h3_⟩
       have n0_ : Aside0 (Kd.R k50 50 w17 w.heap.size (fun k_ => some k_ ≠ (v637 : Value).ownBlock) v634 y633) := ⟨h0_⟩
       have n1_ : Aside0 (Kd.R k50 50 w17 w.heap.size (fun k_ => some k_ ≠ (v634 : Value).ownBlock) v637 t636) := ⟨h1_⟩
       have n2_ : Aside0 (w17.heap[gb631]? = some (.cells #[.slice A0_0 l0_0.length c0_0] 33 (0, 0))) := ⟨h2_⟩
       have n3_ : Aside0 (Below w.heap.size w w17) := ⟨h3_⟩
       clear BK631
       clear HB
       clear h0_ h1_ h2_ h3_
       have HO635 := n0_
       have HO638 := n1_
       have BK631 := n2_
       have HB := n3_
       clear n0_ n1_ n2_ n3_
       have hHeld : w17.cell? ⟨gb631, 0, none⟩ = some (.slice A0_0 l0_0.length c0_0) := hS_
       refine norm_ (a' := ?_) ?_ ?_
       rotate_left
       ·simp only [putAll, Act.put, List.setIfInBounds_toArray, List.set_cons_zero, List.set_cons_succ]
        rfl
       refine two_ (i := 6) (j := 8) (Ni := some 19) (Nj := some 21) #[true, true, true, true, true, true, true, true, false, false, false, false, false, false, false, false] #[true, true, true, true, true, true, false, true, true, false, false, false, false, false, false, false] rfl rfl rfl rfl (two_of HT_.out (by kernel_rfl)) (by decide) (by decide) (fun K hK => ?_) (fun K hK => ?_)
       ·skip
        refine Kd.R_lit_step k50 _ 50 ?hg (N := 19) ?hd (xs := ([(⟨0, 10, 0, 0⟩ : S50)] : List (S50))) (inner := [.int .i64 0, .int .i64 10, .int .i64 0, .int .i64 0]) (ok := fun _ => True) (okp := fun _ => True) ?hr ?hp (fun _ hk => hk) trivial (Below.refl _ _) (Nat.le_refl _) (by simp) ?_; (case hd => rfl); (case hg => rfl); (case hr => exact Y4); (case hp => exact (Reps.c4 (show Kd.M k50 _ _ _ (⟨0, 10, 0, 0⟩ : S50) [.int .i64 0, .int .i64 10, .int .i64 0, .int .i64 0] from (k50_mkM _ _ _ (⟨0, 10, 0, 0⟩ : S50) )) (Reps.none _ _)))
        intro v640 w18 ho19 hb hg_ hnew_
        clear hg_ hnew_
        (first | rw [← Ny639.out] at ho19 | (simp only [Int.reduceToNat] at ho19; rw [← Ny639.out] at ho19))
        have HO641 := am (Kd.R_lower (Kd.R_new' (Kd.R_new' ho19 (Kd.R_lt (rq HO635.out))) (Kd.R_lt (rq HO638.out))) (below_size (Y3)))
        replace HO635 := am (Kd.R_elder' (rq HO635.out) (Kd.R_base ho19) hb)
        replace HO638 := am (Kd.R_elder' (rq HO638.out) (Kd.R_base ho19) hb)
        replace BK631 := am (blk_below (g := gb631) (o := .cells #[.slice A0_0 l0_0.length c0_0] 33 (0, 0)) (kq BK631.out) hb)
        replace HB := am (below_step (Y3) hb)
        clear hb ho19
        refine hK.out _ _ ((blk_cell BK631.out 0).trans rfl) (fun hHeld => ?_)
        clear hK K
        refine norm_ (a' := ?_) ?_ ?_
        rotate_left
        ·show Act.put _ (some 19) _ = _
         simp only [Act.put, List.setIfInBounds_toArray, List.set_cons_zero, List.set_cons_succ, i64_w, i32_w]
         rfl
        exact norm_ (Y9) (hJ2_4_6 (v634, v637, v640) _ ⟨hHeld, (rq HO635.out), (rq HO638.out), (Y100), (kq BK631.out), (Y3)⟩)
       ·skip
        refine goes_ Try.func38 (by kernel_rfl) rfl #[.slice A2 l2.length c2] (by rfl) rfl rfl (aq) ?_
        with_reducible refine (impl_inner.calls k _ _ l2 t642 _ ?side1 ?side2 A7.out).mono ?_
        (case side1 => exact cq (Kd.C_below HR2.out HB.out))
        (case side2 => exact HC2.out)
        rintro e w18 ⟨v643, rfl, ho0, hb⟩
        refine ⟨_, rfl, ?_⟩
        have HO644 := am (Kd.R_lower (Kd.R_new' (Kd.R_new' ho0 (Kd.R_lt (rq HO635.out))) (Kd.R_lt (rq HO638.out))) (below_size (Y3)))
        replace HO635 := am (Kd.R_elder' (rq HO635.out) (Kd.R_base ho0) hb)
        replace HO638 := am (Kd.R_elder' (rq HO638.out) (Kd.R_base ho0) hb)
        replace BK631 := am (blk_below (g := gb631) (o := .cells #[.slice A0_0 l0_0.length c0_0] 33 (0, 0)) (kq BK631.out) hb)
        replace HB := am (below_step (Y3) hb)
        (try clear hb)
        (try clear hb2)
        (try clear hk)
        (try clear hi)
        (try clear ho0)
        refine hK.out _ _ ((blk_cell BK631.out 0).trans rfl) (fun hHeld => ?_)
        clear hK K
        refine norm_ (a' := ?_) ?_ ?_
        rotate_left
        ·show Act.put _ (some 21) _ = _
         simp only [Act.put, List.setIfInBounds_toArray, List.set_cons_zero, List.set_cons_succ, i64_w, i32_w]
         rfl
        exact norm_ (Y9) (hJ2_4_8 (v634, v637, v643) _ ⟨hHeld, (rq HO635.out), (rq HO638.out), (Y101), (kq BK631.out), (Y3)⟩)
     ·skip
      rintro ⟨v637, v640, v643⟩ w18 ⟨hS_, h0_, h1_, h2_, h3_, h4_⟩
      have n0_ : Aside0 (Kd.R k50 50 w18 w.heap.size (fun k_ => some k_ ≠ (v640 : Value).ownBlock ∧ some k_ ≠ (v643 : Value).ownBlock) v637 t636) := ⟨h0_⟩
      have n1_ : Aside0 (Kd.R k50 50 w18 w.heap.size (fun k_ => some k_ ≠ (v637 : Value).ownBlock ∧ some k_ ≠ (v643 : Value).ownBlock) v640 y639) := ⟨h1_⟩
      have n2_ : Aside0 (Kd.R k50 50 w18 w.heap.size (fun k_ => some k_ ≠ (v637 : Value).ownBlock ∧ some k_ ≠ (v640 : Value).ownBlock) v643 t642) := ⟨h2_⟩
      have n3_ : Aside0 (w18.heap[gb631]? = some (.cells #[.slice A0_0 l0_0.length c0_0] 33 (0, 0))) := ⟨h3_⟩
      have n4_ : Aside0 (Below w.heap.size w w18) := ⟨h4_⟩
      clear BK631
      clear HB
      clear h0_ h1_ h2_ h3_ h4_
      have HO638 := n0_
      have HO641 := n1_
      have HO644 := n2_
      have BK631 := n3_
      have HB := n4_
      clear n0_ n1_ n2_ n3_ n4_
      have hHeld : w18.cell? ⟨gb631, 0, none⟩ = some (.slice A0_0 l0_0.length c0_0) := hS_
      refine norm_ (a' := ?_) ?_ ?_
      rotate_left
      ·simp only [putAll, Act.put, List.setIfInBounds_toArray, List.set_cons_zero, List.set_cons_succ]
       rfl
      refine one_ (i := 2) (N := some 15) #[true, true, true, true, true, true, true, true, true, false, false, false, false, false, false, false] rfl rfl (one_of HT_.out (by kernel_rfl)) (by decide) (fun K hK => ?_)
      refine Kd.R_lit_step k50 _ 50 ?hg (N := 15) ?hd (xs := ([(⟨0, 7, 0, 0⟩ : S50)] : List (S50))) (inner := [.int .i64 0, .int .i64 7, .int .i64 0, .int .i64 0]) (ok := fun _ => True) (okp := fun _ => True) ?hr ?hp (fun _ hk => hk) trivial (Below.refl _ _) (Nat.le_refl _) (by simp) ?_; (case hd => rfl); (case hg => rfl); (case hr => exact Y4); (case hp => exact (Reps.c4 (show Kd.M k50 _ _ _ (⟨0, 7, 0, 0⟩ : S50) [.int .i64 0, .int .i64 7, .int .i64 0, .int .i64 0] from (k50_mkM _ _ _ (⟨0, 7, 0, 0⟩ : S50) )) (Reps.none _ _)))
      intro v634 w19 ho20 hb hg_ hnew_
      clear hg_ hnew_
      (first | rw [← Ny633.out] at ho20 | (simp only [Int.reduceToNat] at ho20; rw [← Ny633.out] at ho20))
      have HO635 := am (Kd.R_lower (Kd.R_new' (Kd.R_new' (Kd.R_new' ho20 (Kd.R_lt (rq HO638.out))) (Kd.R_lt (rq HO641.out))) (Kd.R_lt (rq HO644.out))) (below_size (Y3)))
      replace HO638 := am (Kd.R_elder' (rq HO638.out) (Kd.R_base ho20) hb)
      replace HO641 := am (Kd.R_elder' (rq HO641.out) (Kd.R_base ho20) hb)
      replace HO644 := am (Kd.R_elder' (rq HO644.out) (Kd.R_base ho20) hb)
      replace BK631 := am (blk_below (g := gb631) (o := .cells #[.slice A0_0 l0_0.length c0_0] 33 (0, 0)) (kq BK631.out) hb)
      replace HB := am (below_step (Y3) hb)
      clear hb ho20
      refine hK.out _ _ ((blk_cell BK631.out 0).trans rfl) (fun hHeld => ?_)
      clear hK K
      refine norm_ (a' := ?_) ?_ ?_
      rotate_left
      ·show Act.put _ (some 15) _ = _
       simp only [Act.put, List.setIfInBounds_toArray, List.set_cons_zero, List.set_cons_succ, i64_w, i32_w]
       rfl
      exact norm_ (Y9) (hJ2_4_6_8 (v634, v637, v640, v643) _ ⟨hHeld, (by (with_reducible repeat (first | apply Kd.R_alloc | apply Kd.R_drewN | apply Kd.R_drew)); exact Kd.R_mono HO635.out (fun _ hk => ⟨hk.1.1.2, ⟨hk.1.2, hk.2⟩⟩)), (by (with_reducible repeat (first | apply Kd.R_alloc | apply Kd.R_drewN | apply Kd.R_drew)); exact Kd.R_mono HO638.out (fun _ hk => ⟨hk.2, ⟨hk.1.1, hk.1.2⟩⟩)), (by (with_reducible repeat (first | apply Kd.R_alloc | apply Kd.R_drewN | apply Kd.R_drew)); exact Kd.R_mono HO641.out (fun _ hk => ⟨hk.2, ⟨hk.1.1, hk.1.2⟩⟩)), (by (with_reducible repeat (first | apply Kd.R_alloc | apply Kd.R_drewN | apply Kd.R_drew)); exact Kd.R_mono HO644.out (fun _ hk => ⟨hk.2, ⟨hk.1.1, hk.1.2⟩⟩)), (kq BK631.out), (Y3)⟩)
    ·skip
     rintro ⟨v634, v637, v643⟩ w18 ⟨hS_, h0_, h1_, h2_, h3_, h4_⟩
     have n0_ : Aside0 (Kd.R k50 50 w18 w.heap.size (fun k_ => some k_ ≠ (v637 : Value).ownBlock ∧ some k_ ≠ (v643 : Value).ownBlock) v634 y633) := ⟨h0_⟩
     have n1_ : Aside0 (Kd.R k50 50 w18 w.heap.size (fun k_ => some k_ ≠ (v634 : Value).ownBlock ∧ some k_ ≠ (v643 : Value).ownBlock) v637 t636) := ⟨h1_⟩
     have n2_ : Aside0 (Kd.R k50 50 w18 w.heap.size (fun k_ => some k_ ≠ (v634 : Value).ownBlock ∧ some k_ ≠ (v637 : Value).ownBlock) v643 t642) := ⟨h2_⟩
     have n3_ : Aside0 (w18.heap[gb631]? = some (.cells #[.slice A0_0 l0_0.length c0_0] 33 (0, 0))) := ⟨h3_⟩
     have n4_ : Aside0 (Below w.heap.size w w18) := ⟨h4_⟩
     clear BK631
     clear HB
     clear h0_ h1_ h2_ h3_ h4_
     have HO635 := n0_
     have HO638 := n1_
     have HO644 := n2_
     have BK631 := n3_
     have HB := n4_
     clear n0_ n1_ n2_ n3_ n4_
     have hHeld : w18.cell? ⟨gb631, 0, none⟩ = some (.slice A0_0 l0_0.length c0_0) := hS_
     refine norm_ (a' := ?_) ?_ ?_
     rotate_left
     ·simp only [putAll, Act.put, List.setIfInBounds_toArray, List.set_cons_zero, List.set_cons_succ]
      rfl
     refine one_ (i := 6) (N := some 19) #[true, true, true, true, true, true, true, true, true, false, false, false, false, false, false, false] rfl rfl (one_of HT_.out (by kernel_rfl)) (by decide) (fun K hK => ?_)
     refine Kd.R_lit_step k50 _ 50 ?hg (N := 19) ?hd (xs := ([(⟨0, 10, 0, 0⟩ : S50)] : List (S50))) (inner := [.int .i64 0, .int .i64 10, .int .i64 0, .int .i64 0]) (ok := fun _ => True) (okp := fun _ => True) ?hr ?hp (fun _ hk => hk) trivial (Below.refl _ _) (Nat.le_refl _) (by simp) ?_; (case hd => rfl); (case hg => rfl); (case hr => exact Y4); (case hp => exact (Reps.c4 (show Kd.M k50 _ _ _ (⟨0, 10, 0, 0⟩ : S50) [.int .i64 0, .int .i64 10, .int .i64 0, .int .i64 0] from (k50_mkM _ _ _ (⟨0, 10, 0, 0⟩ : S50) )) (Reps.none _ _)))
     intro v640 w19 ho20 hb hg_ hnew_
     clear hg_ hnew_
     (first | rw [← Ny639.out] at ho20 | (simp only [Int.reduceToNat] at ho20; rw [← Ny639.out] at ho20))
     have HO641 := am (Kd.R_lower (Kd.R_new' (Kd.R_new' (Kd.R_new' ho20 (Kd.R_lt (rq HO635.out))) (Kd.R_lt (rq HO638.out))) (Kd.R_lt (rq HO644.out))) (below_size (Y3)))
     replace HO635 := am (Kd.R_elder' (rq HO635.out) (Kd.R_base ho20) hb)
     replace HO638 := am (Kd.R_elder' (rq HO638.out) (Kd.R_base ho20) hb)
     replace HO644 := am (Kd.R_elder' (rq HO644.out) (Kd.R_base ho20) hb)
     replace BK631 := am (blk_below (g := gb631) (o := .cells #[.slice A0_0 l0_0.length c0_0] 33 (0, 0)) (kq BK631.out) hb)
     replace HB := am (below_step (Y3) hb)
     clear hb ho20
     refine hK.out _ _ ((blk_cell BK631.out 0).trans rfl) (fun hHeld => ?_)
     clear hK K
     refine norm_ (a' := ?_) ?_ ?_
     rotate_left
     ·show Act.put _ (some 19) _ = _
      simp only [Act.put, List.setIfInBounds_toArray, List.set_cons_zero, List.set_cons_succ, i64_w, i32_w]
      rfl
     exact norm_ (Y9) (hJ2_4_6_8 (v634, v637, v640, v643) _ ⟨hHeld, (by (with_reducible repeat (first | apply Kd.R_alloc | apply Kd.R_drewN | apply Kd.R_drew)); exact Kd.R_mono HO635.out (fun _ hk => ⟨hk.1.1, ⟨hk.2, hk.1.2⟩⟩)), (by (with_reducible repeat (first | apply Kd.R_alloc | apply Kd.R_drewN | apply Kd.R_drew)); exact Kd.R_mono HO638.out (fun _ hk => ⟨hk.1.1, ⟨hk.2, hk.1.2⟩⟩)), (by (with_reducible repeat (first | apply Kd.R_alloc | apply Kd.R_drewN | apply Kd.R_drew)); exact Kd.R_mono HO641.out (fun _ hk => ⟨hk.1.1.2, ⟨hk.1.2, hk.2⟩⟩)), (by (with_reducible repeat (first | apply Kd.R_alloc | apply Kd.R_drewN | apply Kd.R_drew)); exact Kd.R_mono HO644.out (fun _ hk => ⟨hk.1.1, ⟨hk.1.2, hk.2⟩⟩)), (kq BK631.out), (Y3)⟩)
   ·skip
    rintro ⟨v634, v637, v640⟩ w19 ⟨hS_, h0_, h1_, h2_, h3_, h4_⟩
    have n0_ : Aside0 (Kd.R k50 50 w19 w.heap.size (fun k_ => some k_ ≠ (v637 : Value).ownBlock ∧ some k_ ≠ (v640 : Value).ownBlock) v634 y633) := ⟨h0_⟩
    have n1_ : Aside0 (Kd.R k50 50 w19 w.heap.size (fun k_ => some k_ ≠ (v634 : Value).ownBlock ∧ some k_ ≠ (v640 : Value).ownBlock) v637 t636) := ⟨h1_⟩
    have n2_ : Aside0 (Kd.R k50 50 w19 w.heap.size (fun k_ => some k_ ≠ (v634 : Value).ownBlock ∧ some k_ ≠ (v637 : Value).ownBlock) v640 y639) := ⟨h2_⟩
    have n3_ : Aside0 (w19.heap[gb631]? = some (.cells #[.slice A0_0 l0_0.length c0_0] 33 (0, 0))) := ⟨h3_⟩
    have n4_ : Aside0 (Below w.heap.size w w19) := ⟨h4_⟩
    clear BK631
    clear HB
    clear h0_ h1_ h2_ h3_ h4_
    have HO635 := n0_
    have HO638 := n1_
    have HO641 := n2_
    have BK631 := n3_
    have HB := n4_
    clear n0_ n1_ n2_ n3_ n4_
    have hHeld : w19.cell? ⟨gb631, 0, none⟩ = some (.slice A0_0 l0_0.length c0_0) := hS_
    refine norm_ (a' := ?_) ?_ ?_
    rotate_left
    ·simp only [putAll, Act.put, List.setIfInBounds_toArray, List.set_cons_zero, List.set_cons_succ]
     rfl
    refine one_ (i := 8) (N := some 21) #[true, true, true, true, true, true, true, true, true, false, false, false, false, false, false, false] rfl rfl (one_of HT_.out (by kernel_rfl)) (by decide) (fun K hK => ?_)
    refine goes_ Try.func38 (by kernel_rfl) rfl #[.slice A2 l2.length c2] (by rfl) rfl rfl (aq) ?_
    with_reducible refine (impl_inner.calls k _ _ l2 t642 _ ?side1 ?side2 A7.out).mono ?_
    (case side1 => exact cq (Kd.C_below HR2.out HB.out))
    (case side2 => exact HC2.out)
    rintro e w20 ⟨v643, rfl, ho0, hb⟩
    refine ⟨_, rfl, ?_⟩
    have HO644 := am (Kd.R_lower (Kd.R_new' (Kd.R_new' (Kd.R_new' ho0 (Kd.R_lt (rq HO635.out))) (Kd.R_lt (rq HO638.out))) (Kd.R_lt (rq HO641.out))) (below_size (Y3)))
    replace HO635 := am (Kd.R_elder' (rq HO635.out) (Kd.R_base ho0) hb)
    replace HO638 := am (Kd.R_elder' (rq HO638.out) (Kd.R_base ho0) hb)
    replace HO641 := am (Kd.R_elder' (rq HO641.out) (Kd.R_base ho0) hb)
    replace BK631 := am (blk_below (g := gb631) (o := .cells #[.slice A0_0 l0_0.length c0_0] 33 (0, 0)) (kq BK631.out) hb)
    replace HB := am (below_step (Y3) hb)
    (try clear hb)
    (try clear hb2)
    (try clear hk)
    (try clear hi)
    (try clear ho0)
    refine hK.out _ _ ((blk_cell BK631.out 0).trans rfl) (fun hHeld => ?_)
    clear hK K
    refine norm_ (a' := ?_) ?_ ?_
    rotate_left
    ·show Act.put _ (some 21) _ = _
     simp only [Act.put, List.setIfInBounds_toArray, List.set_cons_zero, List.set_cons_succ, i64_w, i32_w]
     rfl
    exact norm_ (Y9) (hJ2_4_6_8 (v634, v637, v640, v643) _ ⟨hHeld, (by (with_reducible repeat (first | apply Kd.R_alloc | apply Kd.R_drewN | apply Kd.R_drew)); exact Kd.R_mono HO635.out (fun _ hk => ⟨hk.1.1, ⟨hk.1.2, hk.2⟩⟩)), (by (with_reducible repeat (first | apply Kd.R_alloc | apply Kd.R_drewN | apply Kd.R_drew)); exact Kd.R_mono HO638.out (fun _ hk => ⟨hk.1.1, ⟨hk.1.2, hk.2⟩⟩)), (by (with_reducible repeat (first | apply Kd.R_alloc | apply Kd.R_drewN | apply Kd.R_drew)); exact Kd.R_mono HO641.out (fun _ hk => ⟨hk.1.1, ⟨hk.1.2, hk.2⟩⟩)), (by (with_reducible repeat (first | apply Kd.R_alloc | apply Kd.R_drewN | apply Kd.R_drew)); exact Kd.R_mono HO644.out (fun _ hk => ⟨hk.1.1.2, ⟨hk.1.2, hk.2⟩⟩)), (kq BK631.out), (Y3)⟩)
  rintro ⟨v634, v637, v640, v643⟩ w20 ⟨hS_, h0_, h1_, h2_, h3_, h4_, h5_⟩
  have n0_ : Aside0 (Kd.R k50 50 w20 w.heap.size (fun k_ => some k_ ≠ (v637 : Value).ownBlock ∧ some k_ ≠ (v640 : Value).ownBlock ∧ some k_ ≠ (v643 : Value).ownBlock) v634 y633) := ⟨h0_⟩
  have n1_ : Aside0 (Kd.R k50 50 w20 w.heap.size (fun k_ => some k_ ≠ (v634 : Value).ownBlock ∧ some k_ ≠ (v640 : Value).ownBlock ∧ some k_ ≠ (v643 : Value).ownBlock) v637 t636) := ⟨h1_⟩
  have n2_ : Aside0 (Kd.R k50 50 w20 w.heap.size (fun k_ => some k_ ≠ (v634 : Value).ownBlock ∧ some k_ ≠ (v637 : Value).ownBlock ∧ some k_ ≠ (v643 : Value).ownBlock) v640 y639) := ⟨h2_⟩
  have n3_ : Aside0 (Kd.R k50 50 w20 w.heap.size (fun k_ => some k_ ≠ (v634 : Value).ownBlock ∧ some k_ ≠ (v637 : Value).ownBlock ∧ some k_ ≠ (v640 : Value).ownBlock) v643 t642) := ⟨h3_⟩
  have n4_ : Aside0 (w20.heap[gb631]? = some (.cells #[.slice A0_0 l0_0.length c0_0] 33 (0, 0))) := ⟨h4_⟩
  have n5_ : Aside0 (Below w.heap.size w w20) := ⟨h5_⟩
  clear BK631
  clear HB
  clear h0_ h1_ h2_ h3_ h4_ h5_
  have HO635 := n0_
  have HO638 := n1_
  have HO641 := n2_
  have HO644 := n3_
  have BK631 := n4_
  have HB := n5_
  clear n0_ n1_ n2_ n3_ n4_ n5_
  have hHeld : w20.cell? ⟨gb631, 0, none⟩ = some (.slice A0_0 l0_0.length c0_0) := hS_
  obtain ⟨Ao21, co21, eo21⟩ := Kd.R_slice HO635.out
  (first | subst eo21 | (injection eo21 with f1_ f2_ f3_; have f4_ := f1_.symm; have f5_ := f3_.symm; clear f1_ f2_ f3_; subst f4_; subst f5_))
  obtain ⟨Ao22, co22, eo22⟩ := Kd.R_slice HO638.out
  (first | subst eo22 | (injection eo22 with f1_ f2_ f3_; have f4_ := f1_.symm; have f5_ := f3_.symm; clear f1_ f2_ f3_; subst f4_; subst f5_))
  obtain ⟨Ao23, co23, eo23⟩ := Kd.R_slice HO641.out
  (first | subst eo23 | (injection eo23 with f1_ f2_ f3_; have f4_ := f1_.symm; have f5_ := f3_.symm; clear f1_ f2_ f3_; subst f4_; subst f5_))
  obtain ⟨Ao24, co24, eo24⟩ := Kd.R_slice HO644.out
  (first | subst eo24 | (injection eo24 with f1_ f2_ f3_; have f4_ := f1_.symm; have f5_ := f3_.symm; clear f1_ f2_ f3_; subst f4_; subst f5_))
  refine norm_ (a' := ?_) ?_ ?_
  rotate_left
  ·simp only [putAll, Act.put, List.setIfInBounds_toArray, List.set_cons_zero, List.set_cons_succ]
   rfl
  refine one_ (i := 9) (N := some 22) #[true, true, true, true, true, true, true, true, true, true, false, false, false, false, false, false] rfl rfl (one_of HT_.out (by kernel_rfl)) (by decide) (fun K hK => ?_)
  refine Kd.N_lit_step (Kd.slice 50 k50) _ 28 ?hg (N' := 22) ?hd (xs := ([y633, t636, y639, t642] : List (List (S50)))) (inner := [.slice Ao21 y633.length co21, .slice Ao22 t636.length co22, .slice Ao23 y639.length co23, .slice Ao24 t642.length co24]) (ok := (fun k_ => k_ ≠ gb631)) (okp := (fun k_ => k_ ≠ gb631)) ?hr ?hp (fun _ hk => hk) ((show ∀ k_, w20.heap.size ≤ k_ → (fun k_ => k_ ≠ gb631) k_ from fun k_ hk => Kd.freshB (g := gb631) (o := .cells #[.slice A0_0 l0_0.length c0_0] 33 (0, 0)) (kq BK631.out) k_ hk) _ (Nat.le_refl _)) (Below.refl _ _) (Nat.le_refl _) (by simp) ?_; (case hd => rfl); (case hg => rfl); (case hr => exact Y4); (case hp => exact (Reps.one (show Kd.FK (Kd.slice 50 k50) _ _ y633 [.slice Ao21 y633.length co21] from (Kd.FK_slice_mk (Kd.R_reads' (Kd.R_mono (ok' := (fun k_ => k_ ≠ gb631)) (Kd.R_types (HO635.out) BK631.out (by decide)) (fun k_ hk => hk.2))).2.1 (Kd.R_F (Kd.R_mono (ok' := (fun k_ => k_ ≠ gb631)) (Kd.R_types (HO635.out) BK631.out (by decide)) (fun k_ hk => hk.2))))) (Reps.one (show Kd.FK (Kd.slice 50 k50) _ _ t636 [.slice Ao22 t636.length co22] from (Kd.FK_slice_mk (Kd.R_reads' (Kd.R_mono (ok' := (fun k_ => k_ ≠ gb631)) (Kd.R_types (HO638.out) BK631.out (by decide)) (fun k_ hk => hk.2))).2.1 (Kd.R_F (Kd.R_mono (ok' := (fun k_ => k_ ≠ gb631)) (Kd.R_types (HO638.out) BK631.out (by decide)) (fun k_ hk => hk.2))))) (Reps.one (show Kd.FK (Kd.slice 50 k50) _ _ y639 [.slice Ao23 y639.length co23] from (Kd.FK_slice_mk (Kd.R_reads' (Kd.R_mono (ok' := (fun k_ => k_ ≠ gb631)) (Kd.R_types (HO641.out) BK631.out (by decide)) (fun k_ hk => hk.2))).2.1 (Kd.R_F (Kd.R_mono (ok' := (fun k_ => k_ ≠ gb631)) (Kd.R_types (HO641.out) BK631.out (by decide)) (fun k_ hk => hk.2))))) (Reps.one (show Kd.FK (Kd.slice 50 k50) _ _ t642 [.slice Ao24 t642.length co24] from (Kd.FK_slice_mk (Kd.R_reads' (Kd.R_mono (ok' := (fun k_ => k_ ≠ gb631)) (Kd.R_types (HO644.out) BK631.out (by decide)) (fun k_ hk => hk.2))).2.1 (Kd.R_F (Kd.R_mono (ok' := (fun k_ => k_ ≠ gb631)) (Kd.R_types (HO644.out) BK631.out (by decide)) (fun k_ hk => hk.2))))) (Reps.none _ _))))))
  intro v646 w25 ho26 hb hg_ hnew_
  clear hg_ hnew_
  (first | rw [← Ny645.out] at ho26 | (simp only [Int.reduceToNat] at ho26; rw [← Ny645.out] at ho26))
  have n0_ := am (Kd.N_lower ho26 (below_size (Y3)))
  have n1_ := am (blk_below (g := gb631) (o := .cells #[.slice A0_0 l0_0.length c0_0] 33 (0, 0)) (kq BK631.out) hb)
  have n2_ := am (below_step (Y3) hb)
  clear BK631
  clear HB
  clear HO635
  clear HO638
  clear HO641
  clear HO644
  have HO647 := n0_
  have BK631 := n1_
  have HB := n2_
  clear n0_ n1_ n2_
  clear hb ho26
  obtain ⟨Ao27, co27, eo27⟩ := Kd.N_slice HO647.out
  (first | subst eo27 | (injection eo27 with f1_ f2_ f3_; have f4_ := f1_.symm; have f5_ := f3_.symm; clear f1_ f2_ f3_; subst f4_; subst f5_))
  refine hK.out _ _ ((blk_cell BK631.out 0).trans rfl) (fun hHeld => ?_)
  clear hK K
  refine norm_ (a' := ?_) ?_ ?_
  rotate_left
  ·show Act.put _ (some 22) _ = _
   simp only [Act.put, List.setIfInBounds_toArray, List.set_cons_zero, List.set_cons_succ, i64_w, i32_w]
   rfl
  refine one_ (i := 10) (N := some 23) #[true, true, true, true, true, true, true, true, true, true, true, false, false, false, false, false] rfl rfl (one_of HT_.out (by kernel_rfl)) (by decide) (fun K hK => ?_)
  refine goes_ Try.func31 (by kernel_rfl) rfl #[.slice Ao27 y645.length co27] (by rfl) rfl rfl (aq) ?_
  with_reducible refine (slices_Concat_Line.calls _ _ y645 t648 _ ?side1 ?side2 A8.out).mono ?_
  (case side1 => exact cq (Kd.N_reads' HO647.out).2.2)
  (case side2 => exact (Kd.N_reads' HO647.out).2.1)
  rintro e w28 ⟨v649, rfl, ho0, hb⟩
  refine ⟨_, rfl, ?_⟩
  have HO650 := am (Kd.R_lower ho0 (below_size (Y3)))
  replace HO647 := am (Kd.N_elder' (by (with_reducible repeat (first | apply Kd.N_alloc | apply Kd.N_drewN | apply Kd.N_drew)); exact HO647.out) (Kd.R_base ho0) hb)
  replace BK631 := am (blk_below (g := gb631) (o := .cells #[.slice A0_0 l0_0.length c0_0] 33 (0, 0)) (kq BK631.out) hb)
  replace HB := am (below_step (Y3) hb)
  (try clear hb)
  (try clear hb2)
  (try clear hk)
  (try clear hi)
  (try clear ho0)
  obtain ⟨Ao29, co29, eo29⟩ := Kd.R_slice HO650.out
  (first | subst eo29 | (injection eo29 with f1_ f2_ f3_; have f4_ := f1_.symm; have f5_ := f3_.symm; clear f1_ f2_ f3_; subst f4_; subst f5_))
  refine hK.out _ _ ((blk_cell BK631.out 0).trans rfl) (fun hHeld => ?_)
  clear hK K
  refine norm_ (a' := ?_) ?_ ?_
  rotate_left
  ·show Act.put _ (some 23) _ = _
   simp only [Act.put, List.setIfInBounds_toArray, List.set_cons_zero, List.set_cons_succ, i64_w, i32_w]
   rfl
  refine one_ (i := 11) (N := some 24) #[true, true, true, true, true, true, true, true, true, true, true, true, false, false, false, false] rfl rfl (one_of HT_.out (by kernel_rfl)) (by decide) (fun K hK => ?_)
  refine goes_ Try.func30 (by kernel_rfl) rfl #[.agg #[.slice A0_0 l0_0.length c0_0], .slice Ao29 t648.length co29] (by rfl) rfl rfl (aq) ?_
  with_reducible refine (impl_programMade.calls k _ _ l0_0 (fun k_ => some k_ = (.slice Ao29 t648.length co29 : Value).ownBlock) (.slice Ao29 t648.length co29) t648 t651 t654 w _ ?side1 ?side2 ?side3 ?side4 A9.out).mono ?_
  (case side1 => exact Y3)
  (case side2 => exact Kd.C_kept_came k63_heap HR0_0.out (Y3) (fun k_ hs_ => (fun e_ => Kd.R_base HO650.out k_ e_.symm) hs_))
  (case side3 => exact HC0_0.out)
  (case side4 => exact Kd.R_tight rfl HO650.out)
  rintro e w30 ⟨v652, rfl, ho0, hb, hkp⟩
  refine ⟨_, rfl, ?_⟩
  have n0_ := am (blk_kept (kq BK631.out) hkp (fun hs_ => (fun e_ => (Kd.R_ne HO650.out BK631.out (by decide)) e_) hs_))
  have n1_ := am (Kd.N_mono (ok' := fun k_ => k_ ≠ gb631 ∧ some k_ ≠ (v652 : Value).ownBlock) (Kd.N_keptB (HO647.out) hkp (fun k_ hk_ hs_ => (hk_.2) hs_)) (fun k_ hk_ => ⟨hk_.1.1, fun e_ => Or.elim (ho0.1 k_ e_.symm) (fun hs_ => hk_.2.1 hs_) (fun hn_ => Nat.not_le.2 hk_.2.2 hn_)⟩))
  have n2_ := am (Kd.R_mono (ok' := fun k_ => True) ho0 (fun k_ hk_ => trivial))
  have n3_ := am (hb)
  clear BK631
  clear HO647
  clear HB
  clear HO650
  have BK631 := n0_
  have HO647 := n1_
  have HO653 := n2_
  have HB := n3_
  clear n0_ n1_ n2_ n3_
  (try clear hb)
  (try clear hkp)
  (try clear ho0)
  refine hK.out _ _ ((blk_cell BK631.out 0).trans rfl) (fun hHeld => ?_)
  clear hK K
  refine norm_ (a' := ?_) ?_ ?_
  rotate_left
  ·show Act.put _ (some 24) _ = _
   simp only [Act.put, List.setIfInBounds_toArray, List.set_cons_zero, List.set_cons_succ, i64_w, i32_w]
   rfl
  refine pq (i := 12) (N := some 25) #[true, true, true, true, true, true, true, true, true, true, true, true, true, false, false, false] ?_
  refine pq (i := 13) (N := some 26) #[true, true, true, true, true, true, true, true, true, true, true, true, true, true, false, false] ?_
  refine pq (i := 14) (N := some 6) #[true, true, true, true, true, true, true, true, true, true, true, true, true, true, true, false] ?_
  refine pq (i := 15) (N := some 7) #[true, true, true, true, true, true, true, true, true, true, true, true, true, true, true, true] ?_
  refine done_ (done_of HT_.out (by kernel_rfl)) ?_
  try go_wp2
  go_ret2
  exact ⟨_, Y1, rq HO653.out, Y3⟩
 ·replace c5 := Bool.eq_false_iff.mpr c5
  subst c5
  have H1 : (some (([] : List (S50)), false)) = some (r1, r2) := by rw [if_neg (show ¬ (false = true) by decide)] at H; exact H
  clear H
  have H := H1
  clear H1
  simp only [Option.some.injEq, Prod.mk.injEq] at H
  obtain ⟨rfl, rfl⟩ := H
  go_enter Try.func23, Try.ntmps23
  go_wp2_with (first | ((with_reducible refine gate_dst (N := 3) rfl ?_); refine bE (N := 3) (cs := #[.slice A0_0 l0_0.length c0_0]) (t := 33) ?_; intro gb631 hg w31 hbox hb; have BK631 := am (hbox); have GW631 := am ((Y0 : w.heap.size ≤ gb631)); have GE631 := am ((Y0 : w.heap.size ≤ gb631)); replace HB := am (below_step (bq) hb); clear hb hbox hg; have hcz32_0 := bc0 BK631.out; have hfz32_0 := blk_frozen BK631.out 0) | ((with_reducible refine gate_callee (f := 29) rfl ?_); refine gL (some 11) Try.func29 #[.agg #[.slice A0_0 l0_0.length c0_0], .slice A1 l1.length c1, .slice A2 l2.length c2] ?_; (with_reducible refine (impl_bothValid.calls k _ _ l0_0 _ _ l1 _ _ l2 false _ ?side1 ?side2 ?side3 ?side4 ?side5 ?side6 A4.out).mono ?_); (case side1 => exact cq (Kd.C_below HR0_0.out HB.out)); (case side2 => exact HC0_0.out); (case side3 => exact cq (Kd.C_below HR1.out HB.out)); (case side4 => exact HC1.out); (case side5 => exact cq (Kd.C_below HR2.out HB.out)); (case side6 => exact HC2.out); rintro e w33 ⟨rfl, hb⟩; refine ⟨_, rfl, ?_⟩; replace BK631 := am (blk_below (g := gb631) (o := .cells #[.slice A0_0 l0_0.length c0_0] 33 (0, 0)) (kq BK631.out) hb); replace HB := am (below_step (Y3) hb); (try clear hb); (try clear hb2); (try clear hk); (try clear hi)))
  go_ret2
  exact ⟨_, Y1, Y28, Y3⟩
end Go.Proofs.Ytgbigghiegiejaa.P
end
