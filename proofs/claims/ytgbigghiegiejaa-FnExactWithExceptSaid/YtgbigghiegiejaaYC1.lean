/- One part of the proofs on this program: functions of the program as plain functions, that the code comes to them, and facts on them. -/
import Derived.Test.YtgbigghiegiejaaYAll1
import Derived.Test.YtgbigghiegiejaaYAll2
import Derived.Test.YtgbigghiegiejaaYAll4
import Derived.Test.YtgbigghiegiejaaYAll5
import Derived.Test.YtgbigghiegiejaaYWAuto
section
namespace Go.Proofs.Ytgbigghiegiejaa.P
open Go.RowKit Go.Proofs.YtgbigghiegiejaaW.PrintWords Go.Proofs.YtgbigghiegiejaaW.PrintLast Go.Proofs.YtgbigghiegiejaaW.PrintMore
attribute [local go_sem] max2_int min2_int max_two min_two max_three min_three max_four min_four isSome_cell_setCell
set_option linter.unusedVariables false
set_option linter.unusedSimpArgs false
def spec_WithExcept.f (k : Nat) (l0_0 : List (S63)) (l1 : List (S50)) (a2 : Int) (l3 : List (S50)) : Option ((List (S50)) × Bool) := (spec_both.f k l0_0 l1 l3).bind fun t509 => (if t509 = true then ((spec_under.f k 0 7 0 0 l1).bind fun t510 => ((spec_under.f k 0 8 a2 0 l3).bind fun t513 => (if t510.length + t513.length < 4398046511104 then ((spec_checkedProgram.f k l0_0 (t510 ++ t513)).bind fun bt519 => (some (bt519.1, bt519.2))) else (none)))) else (some (([] : List (S50)), false)))
def spec_WithExcept.T3 : Bool × List (List Nat × List Nat) := (true, [([], []), ([], []), ([], []), ([1, 2], [1, 2]), ([], []), ([4], [4]), ([], []), ([5, 6, 3], [5, 6]), ([3, 7, 7], [3, 7]), ([0, 8, 8], [0, 8]), ([9], [9]), ([9], [9]), ([10, 9, 0, 1, 2, 3, 4, 5, 6, 7, 8, 9, 10, 11], [10]), ([11, 12, 0, 1, 2, 3, 4, 5, 6, 7, 8, 9, 10, 11, 12], [11])])
def spec_WithExcept.B3 : List Nat := [0, 0, 0, 6, 0, 16, 0, 126, 254, 511, 1023, 1023, 4095, 8191]
theorem spec_WithExcept.tab3 : rtab .any (opsOf Try.f20 3) = spec_WithExcept.T3 := by kernel_rfl
theorem spec_WithExcept.bits3 : waitsOk spec_WithExcept.T3.2 spec_WithExcept.B3 = true := by kernel_rfl
set_option maxHeartbeats 8000000 in
set_option maxRecDepth 100000 in
theorem spec_WithExcept.calls (k : Nat) (A0_0 : Option Addr) (c0_0 : Nat) (l0_0 : List (S63)) (A1 : Option Addr) (c1 : Nat) (l1 : List (S50)) (a2 : Int) (A3 : Option Addr) (c3 : Nat) (l3 : List (S50)) (r1 : List (S50)) (r2 : Bool) (w : World) (hr0_0 : Kd.C k63 w A0_0 l0_0.length l0_0) (hc0_0 : l0_0.length ≤ c0_0) (hr1 : Kd.C k50 w A1 l1.length l1) (hc1 : l1.length ≤ c1) (hr3 : Kd.C k50 w A3 l3.length l3) (hc3 : l3.length ≤ c3) (h : spec_WithExcept.f k l0_0 l1 a2 l3 = some (r1, r2)) :
  Calls Try.prog 20 #[.agg #[.slice A0_0 l0_0.length c0_0], .slice A1 l1.length c1, .int .i64 a2, .slice A3 l3.length c3] w fun e w' => ∃ v0_ : Value, e = .returned (.tuple #[v0_, .bool r2]) ∧ Kd.R k50 50 w' w.heap.size (fun _ => True) v0_ r1 ∧ Below w.heap.size w w' := by
 have hu33 := Try.underlying33
 have hu50 := Try.underlying50
 have HR0_0 := am hr0_0
 have HC0_0 := am hc0_0
 clear hr0_0 hc0_0
 have HR1 := am hr1
 have HC1 := am hc1
 clear hr1 hc1
 have HR3 := am hr3
 have HC3 := am hc3
 clear hr3 hc3
 have HB := am (Below.refl w.heap.size w)
 have H : ((spec_both.f k l0_0 l1 l3).bind fun t509 => (if t509 = true then ((spec_under.f k 0 7 0 0 l1).bind fun t510 => ((spec_under.f k 0 8 a2 0 l3).bind fun t513 => (if t510.length + t513.length < 4398046511104 then ((spec_checkedProgram.f k l0_0 (t510 ++ t513)).bind fun bt519 => (some (bt519.1, bt519.2))) else (none)))) else (some (([] : List (S50)), false)))) = some (r1, r2) := h
 clear h
 replace H := Option.bind_eq_some_iff.mp H
 obtain ⟨t509, A50, H⟩ := H
 replace H : (if t509 = true then ((spec_under.f k 0 7 0 0 l1).bind fun t510 => ((spec_under.f k 0 8 a2 0 l3).bind fun t513 => (if t510.length + t513.length < 4398046511104 then ((spec_checkedProgram.f k l0_0 (t510 ++ t513)).bind fun bt519 => (some (bt519.1, bt519.2))) else (none)))) else (some (([] : List (S50)), false))) = some (r1, r2) := H
 have A5 := am A50
 clear A50
 by_cases c6 : t509 = true
 ·subst c6
  have H1 : ((spec_under.f k 0 7 0 0 l1).bind fun t510 => ((spec_under.f k 0 8 a2 0 l3).bind fun t513 => (if t510.length + t513.length < 4398046511104 then ((spec_checkedProgram.f k l0_0 (t510 ++ t513)).bind fun bt519 => (some (bt519.1, bt519.2))) else (none)))) = some (r1, r2) := by rw [if_pos rfl] at H; exact H
  clear H
  have H := H1
  clear H1
  replace H := Option.bind_eq_some_iff.mp H
  obtain ⟨t510, A70, H⟩ := H
  replace H : ((spec_under.f k 0 8 a2 0 l3).bind fun t513 => (if t510.length + t513.length < 4398046511104 then ((spec_checkedProgram.f k l0_0 (t510 ++ t513)).bind fun bt519 => (some (bt519.1, bt519.2))) else (none))) = some (r1, r2) := H
  have A7 := am A70
  clear A70
  replace H := Option.bind_eq_some_iff.mp H
  obtain ⟨t513, A80, H⟩ := H
  replace H : (if t510.length + t513.length < 4398046511104 then ((spec_checkedProgram.f k l0_0 (t510 ++ t513)).bind fun bt519 => (some (bt519.1, bt519.2))) else (none)) = some (r1, r2) := H
  have A8 := am A80
  clear A80
  by_cases c9 : t510.length + t513.length < 4398046511104
  ·rw [if_pos c9] at H
   have LMc9 := am c9
   clear c9
   obtain ⟨y516, hy516⟩ : ∃ y_ : List (S50), y_ = (t510 ++ t513) := ⟨_, rfl⟩
   replace H : ((spec_checkedProgram.f k l0_0 y516).bind fun bt519 => (some (bt519.1, bt519.2))) = some (r1, r2) := by first | (rw [hy516]; with_reducible exact H) | (have H2_ := (Option.bind_some _ _).symm.trans H; rw [hy516]; with_reducible exact H2_) | (have H2_ := (Option.bind_some _ _).symm.trans H; with_reducible exact H2_) | with_reducible exact H | (rw [hy516]; exact H) | exact H
   have Ny516 := am hy516
   clear hy516
   replace H := Option.bind_eq_some_iff.mp H
   obtain ⟨⟨t519, t522⟩, A100, H⟩ := H
   replace H : (some (t519, t522)) = some (r1, r2) := H
   have A10 := am A100
   clear A100
   simp only [Option.some.injEq, Prod.mk.injEq] at H
   obtain ⟨rfl, rfl⟩ := H
   go_enter Try.func20, Try.ntmps20
   try go_wp2_with (first | ((with_reducible refine gate_dst (N := 4) rfl ?_); refine bE (N := 4) (cs := #[.slice A0_0 l0_0.length c0_0]) (t := 33) ?_; intro gb508 hg w11 hbox hb; have BK508 := am (hbox); have GW508 := am ((Y0 : w.heap.size ≤ gb508)); have GE508 := am ((Y0 : w.heap.size ≤ gb508)); replace HB := am (below_step (bq) hb); clear hb hbox hg; have hcz12_0 := bc0 BK508.out; have hfz12_0 := blk_frozen BK508.out 0) | ((with_reducible refine gate_callee (f := 25) rfl ?_); refine gL (some 13) Try.func25 #[.agg #[.slice A0_0 l0_0.length c0_0], .slice A1 l1.length c1, .slice A3 l3.length c3] ?_; (with_reducible refine (spec_both.calls k _ _ l0_0 _ _ l1 _ _ l3 true _ ?side1 ?side2 ?side3 ?side4 ?side5 ?side6 A5.out).mono ?_); (case side1 => exact cq (Kd.C_below HR0_0.out HB.out)); (case side2 => exact HC0_0.out); (case side3 => exact cq (Kd.C_below HR1.out HB.out)); (case side4 => exact HC1.out); (case side5 => exact cq (Kd.C_below HR3.out HB.out)); (case side6 => exact HC3.out); rintro e w13 ⟨rfl, hb⟩; refine ⟨_, rfl, ?_⟩; replace BK508 := am (blk_below (g := gb508) (o := .cells #[.slice A0_0 l0_0.length c0_0] 33 (0, 0)) (kq BK508.out) hb); replace HB := am (below_step (Y25) hb); (try clear hb); (try clear hb2); (try clear hk); (try clear hi)))
   replace BK508 := am (blk_drew BK508.out)
   replace HB := am (below_drew1 HB.out)
   refine start_ (n := 14) (S := fun w' => w'.cell? ⟨gb508, 0, none⟩ = some (.slice A0_0 l0_0.length c0_0)) (ds := []) #[false, false, false, false, false, false, false, false, false, false, false, false, false, false] (by kernel_rfl) rfl rfl ((blk_cell BK508.out 0).trans rfl) (fun hHeld => ?_); refine with_tabW spec_WithExcept.tab3 spec_WithExcept.bits3 (fun HT_ HW_ => ?_)
   generalize w13.drew = w14 at BK508 HB hHeld ⊢
   refine pq (i := 1) (N := some 16) #[false, true, false, false, false, false, false, false, false, false, false, false, false, false] ?_
   refine pq (i := 2) (N := some 17) #[false, true, true, false, false, false, false, false, false, false, false, false, false, false] ?_
   refine pq (i := 4) (N := some 19) #[false, true, true, false, true, false, false, false, false, false, false, false, false, false] ?_
   refine pq (i := 5) (N := some 20) #[false, true, true, false, true, true, false, false, false, false, false, false, false, false] ?_
   refine pq (i := 6) (N := some 21) #[false, true, true, false, true, true, true, false, false, false, false, false, false, false] ?_
   refine take_ (i := 0) (N := some 15) (v := ?_) (a' := ?_) #[true, true, true, false, true, true, true, false, false, false, false, false, false, false] rfl rfl (take_ofW HT_.out HW_.out (by kernel_rfl)) (fun _ _ _ h => h) (Or.inl ⟨by rfl, ?_⟩) hHeld ?_ ?_
   rotate_left
   ·intro w' s0
    go_simp
    with_reducible rfl
   rotate_left
   ·exact sa
   refine one_ (i := 3) (N := some 18) #[true, true, true, true, true, true, true, false, false, false, false, false, false, false] rfl rfl (one_of HT_.out (by kernel_rfl)) (by decide) (fun K hK => ?_)
   refine goes_ Try.func36 (by kernel_rfl) rfl #[.agg #[.int .i64 0, .int .i64 7, .int .i64 0, .int .i64 0], .slice A1 l1.length c1] (by rfl) rfl rfl (aq) ?_
   with_reducible refine (spec_under.calls k 0 7 0 0 _ _ l1 t510 _ ?side1 ?side2 A7.out).mono ?_
   (case side1 => exact cq (Kd.C_below HR1.out HB.out))
   (case side2 => exact HC1.out)
   rintro e w15 ⟨v511, rfl, ho0, hb⟩
   refine ⟨_, rfl, ?_⟩
   have HO512 := am (Kd.R_lower ho0 (below_size (Y25)))
   replace BK508 := am (blk_below (g := gb508) (o := .cells #[.slice A0_0 l0_0.length c0_0] 33 (0, 0)) (kq BK508.out) hb)
   replace HB := am (below_step (Y25) hb)
   (try clear hb)
   (try clear hb2)
   (try clear hk)
   (try clear hi)
   (try clear ho0)
   refine hK.out _ _ ((blk_cell BK508.out 0).trans rfl) (fun hHeld => ?_)
   clear hK K
   refine norm_ (a' := ?_) ?_ ?_
   rotate_left
   ·show Act.put _ (some 18) _ = _
    simp only [Act.put, List.setIfInBounds_toArray, List.set_cons_zero, List.set_cons_succ, i64_w, i32_w]
    rfl
   refine one_ (i := 7) (N := some 22) #[true, true, true, true, true, true, true, true, false, false, false, false, false, false] rfl rfl (one_of HT_.out (by kernel_rfl)) (by decide) (fun K hK => ?_)
   refine goes_ Try.func36 (by kernel_rfl) rfl #[.agg #[.int .i64 0, .int .i64 8, .int .i64 a2, .int .i64 0], .slice A3 l3.length c3] (by rfl) rfl rfl (aq) ?_
   with_reducible refine (spec_under.calls k 0 8 a2 0 _ _ l3 t513 _ ?side1 ?side2 A8.out).mono ?_
   (case side1 => exact cq (Kd.C_below HR3.out HB.out))
   (case side2 => exact HC3.out)
   rintro e w16 ⟨v514, rfl, ho0, hb⟩
   refine ⟨_, rfl, ?_⟩
   have HO515 := am (Kd.R_lower (Kd.R_new' ho0 (Kd.R_lt (rq HO512.out))) (below_size (Y25)))
   replace HO512 := am (Kd.R_elder' (rq HO512.out) (Kd.R_base ho0) hb)
   replace BK508 := am (blk_below (g := gb508) (o := .cells #[.slice A0_0 l0_0.length c0_0] 33 (0, 0)) (kq BK508.out) hb)
   replace HB := am (below_step (Y25) hb)
   (try clear hb)
   (try clear hb2)
   (try clear hk)
   (try clear hi)
   (try clear ho0)
   obtain ⟨Ao18, co18, eo18⟩ := Kd.R_slice HO515.out
   (first | subst eo18 | (injection eo18 with f1_ f2_ f3_; have f4_ := f1_.symm; have f5_ := f3_.symm; clear f1_ f2_ f3_; subst f4_; subst f5_))
   refine hK.out _ _ ((blk_cell BK508.out 0).trans rfl) (fun hHeld => ?_)
   clear hK K
   refine norm_ (a' := ?_) ?_ ?_
   rotate_left
   ·show Act.put _ (some 22) _ = _
    simp only [Act.put, List.setIfInBounds_toArray, List.set_cons_zero, List.set_cons_succ, i64_w, i32_w]
    rfl
   refine one_ (i := 8) (N := some 23) #[true, true, true, true, true, true, true, true, true, false, false, false, false, false] rfl rfl (one_of HT_.out (by kernel_rfl)) (by decide) (fun K hK => ?_)
   refine Kd.R_append_rows_step k50 (w0 := w) w.heap.size (by rfl) (.tmp 18) (.tmp 22) 28 50 (.agg #[(.int .i64 0), (.int .i64 0), (.int .i64 0), (.int .i64 0)]) 32 rfl Try.underlying28 info50 rfl (by decide) (by omega) v511 t510 t513 _ _ _ (fun k_ => some k_ ≠ (.slice Ao18 t513.length co18 : Value).ownBlock) (fun _ => False) rfl rfl ?aO ?aR (fun _ _ h => h) (fun _ h => h.elim) ?aF ?aB ?aS ?aL ?_
   (case aR => repeat (first | exact (Kd.R_reads' HO515.out).2.2 | (with_reducible refine Kd.C_alloc ?_ _) | (with_reducible refine Kd.C_drewN ?_ _) | (with_reducible refine Kd.C_drew ?_)))
   (case aB => exact (Y25))
   (case aF => exact (fun k_ hk => Kd.fresh' (Kd.R_lt (rq HO515.out)) k_ hk))
   (case aO => exact (by (with_reducible repeat (first | apply Kd.R_alloc | apply Kd.R_drewN | apply Kd.R_drew)); exact Kd.R_mono HO512.out (fun _ hk => hk.2)))
   (case aS => exact (below_size (Y25)))
   (case aL => have := LMc9.out; omega)
   intro v517 w17 ho hb hg hat
   rw [← Ny516.out] at ho
   have n0_ := am (blk_grown (g := gb508) (o := .cells #[.slice A0_0 l0_0.length c0_0] 33 (0, 0)) (kq BK508.out) hg (Kd.R_ne HO512.out BK508.out (by decide)))
   have n1_ := am (Kd.R_after (ok := (fun _ => True)) (rq HO515.out) hg hat)
   have n2_ := am (hb)
   have n3_ := am (ho)
   clear BK508
   clear HO515
   clear HB
   clear HO512
   have BK508 := n0_
   have HO515 := n1_
   have HB := n2_
   have HO518 := n3_
   clear n0_ n1_ n2_ n3_
   clear ho hb hg hat
   obtain ⟨Ao19, co19, eo19⟩ := Kd.R_slice HO518.out
   (first | subst eo19 | (injection eo19 with f1_ f2_ f3_; have f4_ := f1_.symm; have f5_ := f3_.symm; clear f1_ f2_ f3_; subst f4_; subst f5_))
   refine hK.out _ _ ((blk_cell BK508.out 0).trans rfl) (fun hHeld => ?_)
   clear hK K
   refine norm_ (a' := ?_) ?_ ?_
   rotate_left
   ·show Act.put _ (some 23) _ = _
    simp only [Act.put, List.setIfInBounds_toArray, List.set_cons_zero, List.set_cons_succ, i64_w, i32_w]
    rfl
   refine one_ (i := 9) (N := some 24) #[true, true, true, true, true, true, true, true, true, true, false, false, false, false] rfl rfl (one_of HT_.out (by kernel_rfl)) (by decide) (fun K hK => ?_)
   refine goes_ Try.func26 (by kernel_rfl) rfl #[.agg #[.slice A0_0 l0_0.length c0_0], .slice Ao19 y516.length co19] (by rfl) rfl rfl (aq) ?_
   with_reducible refine (spec_checkedProgram.calls k _ _ l0_0 (fun k_ => some k_ = (.slice Ao19 y516.length co19 : Value).ownBlock) (.slice Ao19 y516.length co19) y516 t519 t522 w _ ?side1 ?side2 ?side3 ?side4 A10.out).mono ?_
   (case side1 => exact Y25)
   (case side2 => exact Kd.C_kept_came k63_heap HR0_0.out (Y25) (fun k_ hs_ => (fun e_ => Kd.R_base HO518.out k_ e_.symm) hs_))
   (case side3 => exact HC0_0.out)
   (case side4 => exact Kd.R_tight rfl HO518.out)
   rintro e w20 ⟨v520, rfl, ho0, hb, hkp⟩
   refine ⟨_, rfl, ?_⟩
   have n0_ := am (blk_kept (kq BK508.out) hkp (fun hs_ => (fun e_ => (Kd.R_ne HO518.out BK508.out (by decide)) e_) hs_))
   have n1_ := am (Kd.R_mono (ok' := fun k_ => some k_ ≠ (v520 : Value).ownBlock) (Kd.R_keptB (HO515.out) hkp (fun k_ hk_ hs_ => (hk_.2) hs_)) (fun k_ hk_ => fun e_ => Or.elim (ho0.1 k_ e_.symm) (fun hs_ => hk_.2.1 hs_) (fun hn_ => Nat.not_le.2 hk_.2.2 hn_)))
   have n2_ := am (Kd.R_mono (ok' := fun k_ => some k_ ≠ (.slice Ao18 t513.length co18 : Value).ownBlock) ho0 (fun k_ hk_ => Or.elim hk_ (fun hs_ => fun e_ => (((HO515.out).1 k_ e_.symm).2) hs_) (fun hn_ => (Kd.fresh' (Kd.R_lt (rq HO515.out)) k_ hn_))))
   have n3_ := am (hb)
   clear BK508
   clear HO515
   clear HB
   clear HO518
   have BK508 := n0_
   have HO515 := n1_
   have HO521 := n2_
   have HB := n3_
   clear n0_ n1_ n2_ n3_
   (try clear hb)
   (try clear hkp)
   (try clear ho0)
   refine hK.out _ _ ((blk_cell BK508.out 0).trans rfl) (fun hHeld => ?_)
   clear hK K
   refine norm_ (a' := ?_) ?_ ?_
   rotate_left
   ·show Act.put _ (some 24) _ = _
    simp only [Act.put, List.setIfInBounds_toArray, List.set_cons_zero, List.set_cons_succ, i64_w, i32_w]
    rfl
   refine pq (i := 10) (N := some 25) #[true, true, true, true, true, true, true, true, true, true, true, false, false, false] ?_
   refine pq (i := 11) (N := some 26) #[true, true, true, true, true, true, true, true, true, true, true, true, false, false] ?_
   refine pq (i := 12) (N := some 8) #[true, true, true, true, true, true, true, true, true, true, true, true, true, false] ?_
   refine pq (i := 13) (N := some 9) #[true, true, true, true, true, true, true, true, true, true, true, true, true, true] ?_
   refine done_ (done_of HT_.out (by kernel_rfl)) ?_
   try go_wp2
   go_ret2
   exact ⟨_, Y1, by (with_reducible repeat (first | apply Kd.R_alloc | apply Kd.R_drewN | apply Kd.R_drew)); exact Kd.R_mono HO521.out (fun _ hk => trivial), Y25⟩
  ·rw [if_neg c9] at H
   exact absurd H (by simp)
 ·replace c6 := Bool.eq_false_iff.mpr c6
  subst c6
  have H1 : (some (([] : List (S50)), false)) = some (r1, r2) := by rw [if_neg (show ¬ (false = true) by decide)] at H; exact H
  clear H
  have H := H1
  clear H1
  simp only [Option.some.injEq, Prod.mk.injEq] at H
  obtain ⟨rfl, rfl⟩ := H
  go_enter Try.func20, Try.ntmps20
  go_wp2_with (first | ((with_reducible refine gate_dst (N := 4) rfl ?_); refine bE (N := 4) (cs := #[.slice A0_0 l0_0.length c0_0]) (t := 33) ?_; intro gb508 hg w21 hbox hb; have BK508 := am (hbox); have GW508 := am ((Y0 : w.heap.size ≤ gb508)); have GE508 := am ((Y0 : w.heap.size ≤ gb508)); replace HB := am (below_step (bq) hb); clear hb hbox hg; have hcz22_0 := bc0 BK508.out; have hfz22_0 := blk_frozen BK508.out 0) | ((with_reducible refine gate_callee (f := 25) rfl ?_); refine gL (some 13) Try.func25 #[.agg #[.slice A0_0 l0_0.length c0_0], .slice A1 l1.length c1, .slice A3 l3.length c3] ?_; (with_reducible refine (spec_both.calls k _ _ l0_0 _ _ l1 _ _ l3 false _ ?side1 ?side2 ?side3 ?side4 ?side5 ?side6 A5.out).mono ?_); (case side1 => exact cq (Kd.C_below HR0_0.out HB.out)); (case side2 => exact HC0_0.out); (case side3 => exact cq (Kd.C_below HR1.out HB.out)); (case side4 => exact HC1.out); (case side5 => exact cq (Kd.C_below HR3.out HB.out)); (case side6 => exact HC3.out); rintro e w23 ⟨rfl, hb⟩; refine ⟨_, rfl, ?_⟩; replace BK508 := am (blk_below (g := gb508) (o := .cells #[.slice A0_0 l0_0.length c0_0] 33 (0, 0)) (kq BK508.out) hb); replace HB := am (below_step (Y25) hb); (try clear hb); (try clear hb2); (try clear hk); (try clear hi)))
  go_ret2
  exact ⟨_, Y1, Y28, Y25⟩
def impl_WithExcept.f (k : Nat) (l0_0 : List (S63)) (l1 : List (S50)) (a2 : Int) (l3 : List (S50)) : Option ((List (S50)) × Bool) := (impl_bothValid.f k l0_0 l1 l3).bind fun t524 => (if t524 = true then ((impl_inner.f k l1).bind fun t528 => ((impl_inner.f k l3).bind fun t534 => ((slices_Concat_Line.f (([(([(⟨0, 7, 0, 0⟩ : S50)] : List (S50))), t528, (([(⟨0, 8, a2, 0⟩ : S50)] : List (S50))), t534] : List (List (S50))))).bind fun t540 => ((impl_programMade.f k l0_0 t540).bind fun bt543 => (some (bt543.1, bt543.2)))))) else (some (([] : List (S50)), false)))
def impl_WithExcept.T3 : Bool × List (List Nat × List Nat) := (true, [([], []), ([], []), ([1], [1]), ([], []), ([3], [3]), ([], []), ([5], [5]), ([6], [6]), ([], []), ([8, 4], [8]), ([2, 4, 7, 9], [2, 4, 7, 9]), ([10, 9], [10]), ([0, 11, 11], [0, 11]), ([12], [12]), ([12], [12]), ([13, 12, 0, 1, 2, 3, 4, 5, 6, 7, 8, 9, 10, 11, 12, 13, 14], [13]), ([14, 15, 0, 1, 2, 3, 4, 5, 6, 7, 8, 9, 10, 11, 12, 13, 14, 15], [14])])
def impl_WithExcept.B3 : List Nat := [0, 0, 2, 0, 8, 0, 32, 96, 0, 280, 1022, 2046, 4095, 8191, 8191, 32767, 65535]
theorem impl_WithExcept.tab3 : rtab .any (opsOf Try.f21 3) = impl_WithExcept.T3 := by kernel_rfl
theorem impl_WithExcept.bits3 : waitsOk impl_WithExcept.T3.2 impl_WithExcept.B3 = true := by kernel_rfl
set_option maxHeartbeats 8000000 in
set_option maxRecDepth 100000 in
theorem impl_WithExcept.calls (k : Nat) (A0_0 : Option Addr) (c0_0 : Nat) (l0_0 : List (S63)) (A1 : Option Addr) (c1 : Nat) (l1 : List (S50)) (a2 : Int) (A3 : Option Addr) (c3 : Nat) (l3 : List (S50)) (r1 : List (S50)) (r2 : Bool) (w : World) (hr0_0 : Kd.C k63 w A0_0 l0_0.length l0_0) (hc0_0 : l0_0.length ≤ c0_0) (hr1 : Kd.C k50 w A1 l1.length l1) (hc1 : l1.length ≤ c1) (hr3 : Kd.C k50 w A3 l3.length l3) (hc3 : l3.length ≤ c3) (h : impl_WithExcept.f k l0_0 l1 a2 l3 = some (r1, r2)) :
  Calls Try.prog 21 #[.agg #[.slice A0_0 l0_0.length c0_0], .slice A1 l1.length c1, .int .i64 a2, .slice A3 l3.length c3] w fun e w' => ∃ v0_ : Value, e = .returned (.tuple #[v0_, .bool r2]) ∧ Kd.R k50 50 w' w.heap.size (fun _ => True) v0_ r1 ∧ Below w.heap.size w w' := by
 have hu33 := Try.underlying33
 have hu50 := Try.underlying50
 have HR0_0 := am hr0_0
 have HC0_0 := am hc0_0
 clear hr0_0 hc0_0
 have HR1 := am hr1
 have HC1 := am hc1
 clear hr1 hc1
 have HR3 := am hr3
 have HC3 := am hc3
 clear hr3 hc3
 have HB := am (Below.refl w.heap.size w)
 have H : ((impl_bothValid.f k l0_0 l1 l3).bind fun t524 => (if t524 = true then ((impl_inner.f k l1).bind fun t528 => ((impl_inner.f k l3).bind fun t534 => ((slices_Concat_Line.f (([(([(⟨0, 7, 0, 0⟩ : S50)] : List (S50))), t528, (([(⟨0, 8, a2, 0⟩ : S50)] : List (S50))), t534] : List (List (S50))))).bind fun t540 => ((impl_programMade.f k l0_0 t540).bind fun bt543 => (some (bt543.1, bt543.2)))))) else (some (([] : List (S50)), false)))) = some (r1, r2) := h
 clear h
 replace H := Option.bind_eq_some_iff.mp H
 obtain ⟨t524, A50, H⟩ := H
 replace H : (if t524 = true then ((impl_inner.f k l1).bind fun t528 => ((impl_inner.f k l3).bind fun t534 => ((slices_Concat_Line.f (([(([(⟨0, 7, 0, 0⟩ : S50)] : List (S50))), t528, (([(⟨0, 8, a2, 0⟩ : S50)] : List (S50))), t534] : List (List (S50))))).bind fun t540 => ((impl_programMade.f k l0_0 t540).bind fun bt543 => (some (bt543.1, bt543.2)))))) else (some (([] : List (S50)), false))) = some (r1, r2) := H
 have A5 := am A50
 clear A50
 by_cases c6 : t524 = true
 ·subst c6
  have H1 : ((impl_inner.f k l1).bind fun t528 => ((impl_inner.f k l3).bind fun t534 => ((slices_Concat_Line.f (([(([(⟨0, 7, 0, 0⟩ : S50)] : List (S50))), t528, (([(⟨0, 8, a2, 0⟩ : S50)] : List (S50))), t534] : List (List (S50))))).bind fun t540 => ((impl_programMade.f k l0_0 t540).bind fun bt543 => (some (bt543.1, bt543.2)))))) = some (r1, r2) := by rw [if_pos rfl] at H; exact H
  clear H
  have H := H1
  clear H1
  obtain ⟨y525, hy525⟩ : ∃ y_ : List (S50), y_ = (([(⟨0, 7, 0, 0⟩ : S50)] : List (S50))) := ⟨_, rfl⟩
  replace H : ((impl_inner.f k l1).bind fun t528 => ((impl_inner.f k l3).bind fun t534 => ((slices_Concat_Line.f (([y525, t528, (([(⟨0, 8, a2, 0⟩ : S50)] : List (S50))), t534] : List (List (S50))))).bind fun t540 => ((impl_programMade.f k l0_0 t540).bind fun bt543 => (some (bt543.1, bt543.2)))))) = some (r1, r2) := by first | (rw [hy525]; with_reducible exact H) | (have H2_ := (Option.bind_some _ _).symm.trans H; rw [hy525]; with_reducible exact H2_) | (have H2_ := (Option.bind_some _ _).symm.trans H; with_reducible exact H2_) | with_reducible exact H | (rw [hy525]; exact H) | exact H
  have Ny525 := am hy525
  clear hy525
  replace H := Option.bind_eq_some_iff.mp H
  obtain ⟨t528, A70, H⟩ := H
  replace H : ((impl_inner.f k l3).bind fun t534 => ((slices_Concat_Line.f (([y525, t528, (([(⟨0, 8, a2, 0⟩ : S50)] : List (S50))), t534] : List (List (S50))))).bind fun t540 => ((impl_programMade.f k l0_0 t540).bind fun bt543 => (some (bt543.1, bt543.2))))) = some (r1, r2) := H
  have A7 := am A70
  clear A70
  obtain ⟨y531, hy531⟩ : ∃ y_ : List (S50), y_ = (([(⟨0, 8, a2, 0⟩ : S50)] : List (S50))) := ⟨_, rfl⟩
  replace H : ((impl_inner.f k l3).bind fun t534 => ((slices_Concat_Line.f (([y525, t528, y531, t534] : List (List (S50))))).bind fun t540 => ((impl_programMade.f k l0_0 t540).bind fun bt543 => (some (bt543.1, bt543.2))))) = some (r1, r2) := by first | (rw [hy531]; with_reducible exact H) | (have H2_ := (Option.bind_some _ _).symm.trans H; rw [hy531]; with_reducible exact H2_) | (have H2_ := (Option.bind_some _ _).symm.trans H; with_reducible exact H2_) | with_reducible exact H | (rw [hy531]; exact H) | exact H
  have Ny531 := am hy531
  clear hy531
  replace H := Option.bind_eq_some_iff.mp H
  obtain ⟨t534, A80, H⟩ := H
  replace H : ((slices_Concat_Line.f (([y525, t528, y531, t534] : List (List (S50))))).bind fun t540 => ((impl_programMade.f k l0_0 t540).bind fun bt543 => (some (bt543.1, bt543.2)))) = some (r1, r2) := H
  have A8 := am A80
  clear A80
  obtain ⟨y537, hy537⟩ : ∃ y_ : List (List (S50)), y_ = (([y525, t528, y531, t534] : List (List (S50)))) := ⟨_, rfl⟩
  replace H : ((slices_Concat_Line.f y537).bind fun t540 => ((impl_programMade.f k l0_0 t540).bind fun bt543 => (some (bt543.1, bt543.2)))) = some (r1, r2) := by first | (rw [hy537]; with_reducible exact H) | (have H2_ := (Option.bind_some _ _).symm.trans H; rw [hy537]; with_reducible exact H2_) | (have H2_ := (Option.bind_some _ _).symm.trans H; with_reducible exact H2_) | with_reducible exact H | (rw [hy537]; exact H) | exact H
  have Ny537 := am hy537
  clear hy537
  replace H := Option.bind_eq_some_iff.mp H
  obtain ⟨t540, A90, H⟩ := H
  replace H : ((impl_programMade.f k l0_0 t540).bind fun bt543 => (some (bt543.1, bt543.2))) = some (r1, r2) := H
  have A9 := am A90
  clear A90
  replace H := Option.bind_eq_some_iff.mp H
  obtain ⟨⟨t543, t546⟩, A100, H⟩ := H
  replace H : (some (t543, t546)) = some (r1, r2) := H
  have A10 := am A100
  clear A100
  simp only [Option.some.injEq, Prod.mk.injEq] at H
  obtain ⟨rfl, rfl⟩ := H
  go_enter Try.func21, Try.ntmps21
  try go_wp2_with (first | ((with_reducible refine gate_dst (N := 4) rfl ?_); refine bE (N := 4) (cs := #[.slice A0_0 l0_0.length c0_0]) (t := 33) ?_; intro gb523 hg w11 hbox hb; have BK523 := am (hbox); have GW523 := am ((Y0 : w.heap.size ≤ gb523)); have GE523 := am ((Y0 : w.heap.size ≤ gb523)); replace HB := am (below_step (bq) hb); clear hb hbox hg; have hcz12_0 := bc0 BK523.out; have hfz12_0 := blk_frozen BK523.out 0) | ((with_reducible refine gate_callee (f := 29) rfl ?_); refine gL (some 13) Try.func29 #[.agg #[.slice A0_0 l0_0.length c0_0], .slice A1 l1.length c1, .slice A3 l3.length c3] ?_; (with_reducible refine (impl_bothValid.calls k _ _ l0_0 _ _ l1 _ _ l3 true _ ?side1 ?side2 ?side3 ?side4 ?side5 ?side6 A5.out).mono ?_); (case side1 => exact cq (Kd.C_below HR0_0.out HB.out)); (case side2 => exact HC0_0.out); (case side3 => exact cq (Kd.C_below HR1.out HB.out)); (case side4 => exact HC1.out); (case side5 => exact cq (Kd.C_below HR3.out HB.out)); (case side6 => exact HC3.out); rintro e w13 ⟨rfl, hb⟩; refine ⟨_, rfl, ?_⟩; replace BK523 := am (blk_below (g := gb523) (o := .cells #[.slice A0_0 l0_0.length c0_0] 33 (0, 0)) (kq BK523.out) hb); replace HB := am (below_step (Y2) hb); (try clear hb); (try clear hb2); (try clear hk); (try clear hi)))
  replace BK523 := am (blk_drew BK523.out)
  replace HB := am (below_drew1 HB.out)
  refine start_ (n := 17) (S := fun w' => w'.cell? ⟨gb523, 0, none⟩ = some (.slice A0_0 l0_0.length c0_0)) (ds := []) #[false, false, false, false, false, false, false, false, false, false, false, false, false, false, false, false, false] (by kernel_rfl) rfl rfl ((blk_cell BK523.out 0).trans rfl) (fun hHeld => ?_); refine with_tabW impl_WithExcept.tab3 impl_WithExcept.bits3 (fun HT_ HW_ => ?_)
  generalize w13.drew = w14 at BK523 HB hHeld ⊢
  refine pq (i := 1) (N := some 16) #[false, true, false, false, false, false, false, false, false, false, false, false, false, false, false, false, false] ?_
  refine pq (i := 3) (N := some 18) #[false, true, false, true, false, false, false, false, false, false, false, false, false, false, false, false, false] ?_
  refine pq (i := 5) (N := some 20) #[false, true, false, true, false, true, false, false, false, false, false, false, false, false, false, false, false] ?_
  refine pq (i := 6) (N := some 21) #[false, true, false, true, false, true, true, false, false, false, false, false, false, false, false, false, false] ?_
  refine pq (i := 8) (N := some 23) #[false, true, false, true, false, true, true, false, true, false, false, false, false, false, false, false, false] ?_
  refine take_ (i := 0) (N := some 15) (v := ?_) (a' := ?_) #[true, true, false, true, false, true, true, false, true, false, false, false, false, false, false, false, false] rfl rfl (take_ofW HT_.out HW_.out (by kernel_rfl)) (fun _ _ _ h => h) (Or.inl ⟨by rfl, ?_⟩) hHeld ?_ ?_
  rotate_left
  ·intro w' s0
   go_simp
   with_reducible rfl
  rotate_left
  ·exact sa
  refine join_ (σ := Value × Value × Value × Value) 7 #[true, true, true, true, true, true, true, true, true, true, false, false, false, false, false, false, false] (fun s_ => [(17, s_.1), (19, s_.2.1), (22, s_.2.2.1), (24, s_.2.2.2)]) (fun s_ w' => (w'.cell? ⟨gb523, 0, none⟩ = some (.slice A0_0 l0_0.length c0_0)) ∧ (Kd.R k50 50 w' w.heap.size (fun k_ => some k_ ≠ (s_.2.1 : Value).ownBlock ∧ some k_ ≠ (s_.2.2.1 : Value).ownBlock ∧ some k_ ≠ (s_.2.2.2 : Value).ownBlock) s_.1 y525) ∧ (Kd.R k50 50 w' w.heap.size (fun k_ => some k_ ≠ (s_.1 : Value).ownBlock ∧ some k_ ≠ (s_.2.2.1 : Value).ownBlock ∧ some k_ ≠ (s_.2.2.2 : Value).ownBlock) s_.2.1 t528) ∧ (Kd.R k50 50 w' w.heap.size (fun k_ => some k_ ≠ (s_.1 : Value).ownBlock ∧ some k_ ≠ (s_.2.1 : Value).ownBlock ∧ some k_ ≠ (s_.2.2.2 : Value).ownBlock) s_.2.2.1 y531) ∧ (Kd.R k50 50 w' w.heap.size (fun k_ => some k_ ≠ (s_.1 : Value).ownBlock ∧ some k_ ≠ (s_.2.1 : Value).ownBlock ∧ some k_ ≠ (s_.2.2.1 : Value).ownBlock) s_.2.2.2 t534) ∧ (w'.heap[gb523]? = some (.cells #[.slice A0_0 l0_0.length c0_0] 33 (0, 0))) ∧ (Below w.heap.size w w')) ?_ ?_
  rotate_left
  ·intro hJ2_4_7_9
   refine join_ (σ := Value × Value × Value) 8 #[true, true, true, true, true, true, true, true, true, false, false, false, false, false, false, false, false] (fun s_ => [(17, s_.1), (19, s_.2.1), (22, s_.2.2)]) (fun s_ w' => (w'.cell? ⟨gb523, 0, none⟩ = some (.slice A0_0 l0_0.length c0_0)) ∧ (Kd.R k50 50 w' w.heap.size (fun k_ => some k_ ≠ (s_.2.1 : Value).ownBlock ∧ some k_ ≠ (s_.2.2 : Value).ownBlock) s_.1 y525) ∧ (Kd.R k50 50 w' w.heap.size (fun k_ => some k_ ≠ (s_.1 : Value).ownBlock ∧ some k_ ≠ (s_.2.2 : Value).ownBlock) s_.2.1 t528) ∧ (Kd.R k50 50 w' w.heap.size (fun k_ => some k_ ≠ (s_.1 : Value).ownBlock ∧ some k_ ≠ (s_.2.1 : Value).ownBlock) s_.2.2 y531) ∧ (w'.heap[gb523]? = some (.cells #[.slice A0_0 l0_0.length c0_0] 33 (0, 0))) ∧ (Below w.heap.size w w')) ?_ ?_
   rotate_left
   ·intro hJ2_4_7
    refine join_ (σ := Value × Value × Value) 8 #[true, true, true, true, true, true, true, false, true, true, false, false, false, false, false, false, false] (fun s_ => [(17, s_.1), (19, s_.2.1), (24, s_.2.2)]) (fun s_ w' => (w'.cell? ⟨gb523, 0, none⟩ = some (.slice A0_0 l0_0.length c0_0)) ∧ (Kd.R k50 50 w' w.heap.size (fun k_ => some k_ ≠ (s_.2.1 : Value).ownBlock ∧ some k_ ≠ (s_.2.2 : Value).ownBlock) s_.1 y525) ∧ (Kd.R k50 50 w' w.heap.size (fun k_ => some k_ ≠ (s_.1 : Value).ownBlock ∧ some k_ ≠ (s_.2.2 : Value).ownBlock) s_.2.1 t528) ∧ (Kd.R k50 50 w' w.heap.size (fun k_ => some k_ ≠ (s_.1 : Value).ownBlock ∧ some k_ ≠ (s_.2.1 : Value).ownBlock) s_.2.2 t534) ∧ (w'.heap[gb523]? = some (.cells #[.slice A0_0 l0_0.length c0_0] 33 (0, 0))) ∧ (Below w.heap.size w w')) ?_ ?_
    rotate_left
    ·intro hJ2_4_9
     refine join_ (σ := Value × Value × Value) 8 #[true, true, false, true, true, true, true, true, true, true, false, false, false, false, false, false, false] (fun s_ => [(19, s_.1), (22, s_.2.1), (24, s_.2.2)]) (fun s_ w' => (w'.cell? ⟨gb523, 0, none⟩ = some (.slice A0_0 l0_0.length c0_0)) ∧ (Kd.R k50 50 w' w.heap.size (fun k_ => some k_ ≠ (s_.2.1 : Value).ownBlock ∧ some k_ ≠ (s_.2.2 : Value).ownBlock) s_.1 t528) ∧ (Kd.R k50 50 w' w.heap.size (fun k_ => some k_ ≠ (s_.1 : Value).ownBlock ∧ some k_ ≠ (s_.2.2 : Value).ownBlock) s_.2.1 y531) ∧ (Kd.R k50 50 w' w.heap.size (fun k_ => some k_ ≠ (s_.1 : Value).ownBlock ∧ some k_ ≠ (s_.2.1 : Value).ownBlock) s_.2.2 t534) ∧ (w'.heap[gb523]? = some (.cells #[.slice A0_0 l0_0.length c0_0] 33 (0, 0))) ∧ (Below w.heap.size w w')) ?_ ?_
     rotate_left
     ·intro hJ4_7_9
      refine join_ (σ := Value × Value) 9 #[true, true, true, true, true, true, true, false, true, false, false, false, false, false, false, false, false] (fun s_ => [(17, s_.1), (19, s_.2)]) (fun s_ w' => (w'.cell? ⟨gb523, 0, none⟩ = some (.slice A0_0 l0_0.length c0_0)) ∧ (Kd.R k50 50 w' w.heap.size (fun k_ => some k_ ≠ (s_.2 : Value).ownBlock) s_.1 y525) ∧ (Kd.R k50 50 w' w.heap.size (fun k_ => some k_ ≠ (s_.1 : Value).ownBlock) s_.2 t528) ∧ (w'.heap[gb523]? = some (.cells #[.slice A0_0 l0_0.length c0_0] 33 (0, 0))) ∧ (Below w.heap.size w w')) ?_ ?_
      rotate_left
      ·intro hJ2_4
       refine join_ (σ := Value × Value) 9 #[true, true, true, true, false, true, true, true, true, false, false, false, false, false, false, false, false] (fun s_ => [(17, s_.1), (22, s_.2)]) (fun s_ w' => (w'.cell? ⟨gb523, 0, none⟩ = some (.slice A0_0 l0_0.length c0_0)) ∧ (Kd.R k50 50 w' w.heap.size (fun k_ => some k_ ≠ (s_.2 : Value).ownBlock) s_.1 y525) ∧ (Kd.R k50 50 w' w.heap.size (fun k_ => some k_ ≠ (s_.1 : Value).ownBlock) s_.2 y531) ∧ (w'.heap[gb523]? = some (.cells #[.slice A0_0 l0_0.length c0_0] 33 (0, 0))) ∧ (Below w.heap.size w w')) ?_ ?_
       rotate_left
       ·intro hJ2_7
        refine join_ (σ := Value × Value) 9 #[true, true, false, true, true, true, true, true, true, false, false, false, false, false, false, false, false] (fun s_ => [(19, s_.1), (22, s_.2)]) (fun s_ w' => (w'.cell? ⟨gb523, 0, none⟩ = some (.slice A0_0 l0_0.length c0_0)) ∧ (Kd.R k50 50 w' w.heap.size (fun k_ => some k_ ≠ (s_.2 : Value).ownBlock) s_.1 t528) ∧ (Kd.R k50 50 w' w.heap.size (fun k_ => some k_ ≠ (s_.1 : Value).ownBlock) s_.2 y531) ∧ (w'.heap[gb523]? = some (.cells #[.slice A0_0 l0_0.length c0_0] 33 (0, 0))) ∧ (Below w.heap.size w w')) ?_ ?_
        rotate_left
        ·intro hJ4_7
         refine join_ (σ := Value × Value) 9 #[true, true, false, true, true, true, true, false, true, true, false, false, false, false, false, false, false] (fun s_ => [(19, s_.1), (24, s_.2)]) (fun s_ w' => (w'.cell? ⟨gb523, 0, none⟩ = some (.slice A0_0 l0_0.length c0_0)) ∧ (Kd.R k50 50 w' w.heap.size (fun k_ => some k_ ≠ (s_.2 : Value).ownBlock) s_.1 t528) ∧ (Kd.R k50 50 w' w.heap.size (fun k_ => some k_ ≠ (s_.1 : Value).ownBlock) s_.2 t534) ∧ (w'.heap[gb523]? = some (.cells #[.slice A0_0 l0_0.length c0_0] 33 (0, 0))) ∧ (Below w.heap.size w w')) ?_ ?_
         rotate_left
         ·intro hJ4_9
          refine join_ (σ := Value) 10 #[true, true, true, true, false, true, true, false, true, false, false, false, false, false, false, false, false] (fun s_ => [(17, s_)]) (fun s_ w' => (w'.cell? ⟨gb523, 0, none⟩ = some (.slice A0_0 l0_0.length c0_0)) ∧ (Kd.R k50 50 w' w.heap.size (fun _ => True) s_ y525) ∧ (w'.heap[gb523]? = some (.cells #[.slice A0_0 l0_0.length c0_0] 33 (0, 0))) ∧ (Below w.heap.size w w')) ?_ ?_
          rotate_left
          ·intro hJ2
           refine join_ (σ := Value) 10 #[true, true, false, true, true, true, true, false, true, false, false, false, false, false, false, false, false] (fun s_ => [(19, s_)]) (fun s_ w' => (w'.cell? ⟨gb523, 0, none⟩ = some (.slice A0_0 l0_0.length c0_0)) ∧ (Kd.R k50 50 w' w.heap.size (fun _ => True) s_ t528) ∧ (w'.heap[gb523]? = some (.cells #[.slice A0_0 l0_0.length c0_0] 33 (0, 0))) ∧ (Below w.heap.size w w')) ?_ ?_
           rotate_left
           ·intro hJ4
            refine join_ (σ := Value) 10 #[true, true, false, true, false, true, true, true, true, false, false, false, false, false, false, false, false] (fun s_ => [(22, s_)]) (fun s_ w' => (w'.cell? ⟨gb523, 0, none⟩ = some (.slice A0_0 l0_0.length c0_0)) ∧ (Kd.R k50 50 w' w.heap.size (fun _ => True) s_ y531) ∧ (w'.heap[gb523]? = some (.cells #[.slice A0_0 l0_0.length c0_0] 33 (0, 0))) ∧ (Below w.heap.size w w')) ?_ ?_
            rotate_left
            ·intro hJ7
             refine three_ (i := 2) (j := 4) (k := 7) (Ni := some 17) (Nj := some 19) (Nk := some 22) #[true, true, true, true, false, true, true, false, true, false, false, false, false, false, false, false, false] #[true, true, false, true, true, true, true, false, true, false, false, false, false, false, false, false, false] #[true, true, false, true, false, true, true, true, true, false, false, false, false, false, false, false, false] rfl rfl rfl rfl rfl rfl (three_of HT_.out (by kernel_rfl)) (by decide) (by decide) (by decide) (fun K hK => ?_) (fun K hK => ?_) (fun K hK => ?_)
             ·skip
              refine Kd.R_lit_step k50 _ 50 ?hg (N := 17) ?hd (xs := ([(⟨0, 7, 0, 0⟩ : S50)] : List (S50))) (inner := [.int .i64 0, .int .i64 7, .int .i64 0, .int .i64 0]) (ok := fun _ => True) (okp := fun _ => True) ?hr ?hp (fun _ hk => hk) trivial (Below.refl _ _) (Nat.le_refl _) (by simp) ?_; (case hd => rfl); (case hg => rfl); (case hr => exact Y4); (case hp => exact (Reps.c4 (show Kd.M k50 _ _ _ (⟨0, 7, 0, 0⟩ : S50) [.int .i64 0, .int .i64 7, .int .i64 0, .int .i64 0] from (k50_mkM _ _ _ (⟨0, 7, 0, 0⟩ : S50) )) (Reps.none _ _)))
              intro v526 w15 ho16 hb hg_ hnew_
              clear hg_ hnew_
              (first | rw [← Ny525.out] at ho16 | (simp only [Int.reduceToNat] at ho16; rw [← Ny525.out] at ho16))
              have HO527 := am (Kd.R_lower ho16 (below_size (Y2)))
              replace BK523 := am (blk_below (g := gb523) (o := .cells #[.slice A0_0 l0_0.length c0_0] 33 (0, 0)) (kq BK523.out) hb)
              replace HB := am (below_step (Y2) hb)
              clear hb ho16
              refine hK.out _ _ ((blk_cell BK523.out 0).trans rfl) (fun hHeld => ?_)
              clear hK K
              refine norm_ (a' := ?_) ?_ ?_
              rotate_left
              ·show Act.put _ (some 17) _ = _
               simp only [Act.put, List.setIfInBounds_toArray, List.set_cons_zero, List.set_cons_succ, i64_w, i32_w]
               rfl
              exact norm_ (Y9) (hJ2 (v526) _ ⟨hHeld, (rq HO527.out), (kq BK523.out), (Y2)⟩)
             ·skip
              refine goes_ Try.func38 (by kernel_rfl) rfl #[.slice A1 l1.length c1] (by rfl) rfl rfl (aq) ?_
              with_reducible refine (impl_inner.calls k _ _ l1 t528 _ ?side1 ?side2 A7.out).mono ?_
              (case side1 => exact cq (Kd.C_below HR1.out HB.out))
              (case side2 => exact HC1.out)
              rintro e w15 ⟨v529, rfl, ho0, hb⟩
              refine ⟨_, rfl, ?_⟩
              have HO530 := am (Kd.R_lower ho0 (below_size (Y2)))
              replace BK523 := am (blk_below (g := gb523) (o := .cells #[.slice A0_0 l0_0.length c0_0] 33 (0, 0)) (kq BK523.out) hb)
              replace HB := am (below_step (Y2) hb)
              (try clear hb)
              (try clear hb2)
              (try clear hk)
              (try clear hi)
              (try clear ho0)
              refine hK.out _ _ ((blk_cell BK523.out 0).trans rfl) (fun hHeld => ?_)
              clear hK K
              refine norm_ (a' := ?_) ?_ ?_
              rotate_left
              ·show Act.put _ (some 19) _ = _
               simp only [Act.put, List.setIfInBounds_toArray, List.set_cons_zero, List.set_cons_succ, i64_w, i32_w]
               rfl
              exact norm_ (Y9) (hJ4 (v529) _ ⟨hHeld, (rq HO530.out), (kq BK523.out), (Y2)⟩)
             ·skip
              refine Kd.R_lit_step k50 _ 50 ?hg (N := 22) ?hd (xs := ([(⟨0, 8, a2, 0⟩ : S50)] : List (S50))) (inner := [.int .i64 0, .int .i64 8, .int .i64 a2, .int .i64 0]) (ok := fun _ => True) (okp := fun _ => True) ?hr ?hp (fun _ hk => hk) trivial (Below.refl _ _) (Nat.le_refl _) (by simp) ?_; (case hd => rfl); (case hg => rfl); (case hr => exact Y4); (case hp => exact (Reps.c4 (show Kd.M k50 _ _ _ (⟨0, 8, a2, 0⟩ : S50) [.int .i64 0, .int .i64 8, .int .i64 a2, .int .i64 0] from (k50_mkM _ _ _ (⟨0, 8, a2, 0⟩ : S50) )) (Reps.none _ _)))
              intro v532 w15 ho16 hb hg_ hnew_
              clear hg_ hnew_
              (first | rw [← Ny531.out] at ho16 | (simp only [Int.reduceToNat] at ho16; rw [← Ny531.out] at ho16))
              have HO533 := am (Kd.R_lower ho16 (below_size (Y2)))
              replace BK523 := am (blk_below (g := gb523) (o := .cells #[.slice A0_0 l0_0.length c0_0] 33 (0, 0)) (kq BK523.out) hb)
              replace HB := am (below_step (Y2) hb)
              clear hb ho16
              refine hK.out _ _ ((blk_cell BK523.out 0).trans rfl) (fun hHeld => ?_)
              clear hK K
              refine norm_ (a' := ?_) ?_ ?_
              rotate_left
              ·show Act.put _ (some 22) _ = _
               simp only [Act.put, List.setIfInBounds_toArray, List.set_cons_zero, List.set_cons_succ, i64_w, i32_w]
               rfl
              exact norm_ (Y9) (hJ7 (v532) _ ⟨hHeld, (rq HO533.out), (kq BK523.out), (Y2)⟩)
            ·skip
             rintro v532 w17 ⟨hS_, h0_, h1_, h2_⟩
             have n0_ : Aside0 (Kd.R k50 50 w17 w.heap.size (fun _ => True) v532 y531) := ⟨h0_⟩
             have n1_ : Aside0 (w17.heap[gb523]? = some (.cells #[.slice A0_0 l0_0.length c0_0] 33 (0, 0))) := ⟨h1_⟩
             have n2_ : Aside0 (Below w.heap.size w w17) := ⟨h2_⟩
             clear BK523
             clear HB
             clear h0_ h1_ h2_
             have HO533 := n0_
             have BK523 := n1_
             have HB := n2_
             clear n0_ n1_ n2_
             have hHeld : w17.cell? ⟨gb523, 0, none⟩ = some (.slice A0_0 l0_0.length c0_0) := hS_
             refine norm_ (a' := ?_) ?_ ?_
             rotate_left
             ·simp only [putAll, Act.put, List.setIfInBounds_toArray, List.set_cons_zero, List.set_cons_succ]
              rfl
             refine two_ (i := 2) (j := 4) (Ni := some 17) (Nj := some 19) #[true, true, true, true, false, true, true, true, true, false, false, false, false, false, false, false, false] #[true, true, false, true, true, true, true, true, true, false, false, false, false, false, false, false, false] rfl rfl rfl rfl (two_of HT_.out (by kernel_rfl)) (by decide) (by decide) (fun K hK => ?_) (fun K hK => ?_)
             ·skip
              refine Kd.R_lit_step k50 _ 50 ?hg (N := 17) ?hd (xs := ([(⟨0, 7, 0, 0⟩ : S50)] : List (S50))) (inner := [.int .i64 0, .int .i64 7, .int .i64 0, .int .i64 0]) (ok := fun _ => True) (okp := fun _ => True) ?hr ?hp (fun _ hk => hk) trivial (Below.refl _ _) (Nat.le_refl _) (by simp) ?_; (case hd => rfl); (case hg => rfl); (case hr => exact Y4); (case hp => exact (Reps.c4 (show Kd.M k50 _ _ _ (⟨0, 7, 0, 0⟩ : S50) [.int .i64 0, .int .i64 7, .int .i64 0, .int .i64 0] from (k50_mkM _ _ _ (⟨0, 7, 0, 0⟩ : S50) )) (Reps.none _ _)))
              intro v526 w18 ho19 hb hg_ hnew_
              clear hg_ hnew_
              (first | rw [← Ny525.out] at ho19 | (simp only [Int.reduceToNat] at ho19; rw [← Ny525.out] at ho19))
              have HO527 := am (Kd.R_lower (Kd.R_new' ho19 (Kd.R_lt (rq HO533.out))) (below_size (Y2)))
              replace HO533 := am (Kd.R_elder' (rq HO533.out) (Kd.R_base ho19) hb)
              replace BK523 := am (blk_below (g := gb523) (o := .cells #[.slice A0_0 l0_0.length c0_0] 33 (0, 0)) (kq BK523.out) hb)
              replace HB := am (below_step (Y2) hb)
              clear hb ho19
              refine hK.out _ _ ((blk_cell BK523.out 0).trans rfl) (fun hHeld => ?_)
              clear hK K
              refine norm_ (a' := ?_) ?_ ?_
              rotate_left
              ·show Act.put _ (some 17) _ = _
               simp only [Act.put, List.setIfInBounds_toArray, List.set_cons_zero, List.set_cons_succ, i64_w, i32_w]
               rfl
              exact norm_ (Y9) (hJ2_7 (v526, v532) _ ⟨hHeld, (Y52), (Y53), (kq BK523.out), (Y2)⟩)
             ·skip
              refine goes_ Try.func38 (by kernel_rfl) rfl #[.slice A1 l1.length c1] (by rfl) rfl rfl (aq) ?_
              with_reducible refine (impl_inner.calls k _ _ l1 t528 _ ?side1 ?side2 A7.out).mono ?_
              (case side1 => exact cq (Kd.C_below HR1.out HB.out))
              (case side2 => exact HC1.out)
              rintro e w18 ⟨v529, rfl, ho0, hb⟩
              refine ⟨_, rfl, ?_⟩
              have HO530 := am (Kd.R_lower (Kd.R_new' ho0 (Kd.R_lt (rq HO533.out))) (below_size (Y2)))
              replace HO533 := am (Kd.R_elder' (rq HO533.out) (Kd.R_base ho0) hb)
              replace BK523 := am (blk_below (g := gb523) (o := .cells #[.slice A0_0 l0_0.length c0_0] 33 (0, 0)) (kq BK523.out) hb)
              replace HB := am (below_step (Y2) hb)
              (try clear hb)
              (try clear hb2)
              (try clear hk)
              (try clear hi)
              (try clear ho0)
              refine hK.out _ _ ((blk_cell BK523.out 0).trans rfl) (fun hHeld => ?_)
              clear hK K
              refine norm_ (a' := ?_) ?_ ?_
              rotate_left
              ·show Act.put _ (some 19) _ = _
               simp only [Act.put, List.setIfInBounds_toArray, List.set_cons_zero, List.set_cons_succ, i64_w, i32_w]
               rfl
              exact norm_ (Y9) (hJ4_7 (v529, v532) _ ⟨hHeld, (Y45), (Y53), (kq BK523.out), (Y2)⟩)
           ·skip
            rintro v529 w16 ⟨hS_, h0_, h1_, h2_⟩
            have n0_ : Aside0 (Kd.R k50 50 w16 w.heap.size (fun _ => True) v529 t528) := ⟨h0_⟩
            have n1_ : Aside0 (w16.heap[gb523]? = some (.cells #[.slice A0_0 l0_0.length c0_0] 33 (0, 0))) := ⟨h1_⟩
            have n2_ : Aside0 (Below w.heap.size w w16) := ⟨h2_⟩
            clear BK523
            clear HB
            clear h0_ h1_ h2_
            have HO530 := n0_
            have BK523 := n1_
            have HB := n2_
            clear n0_ n1_ n2_
            have hHeld : w16.cell? ⟨gb523, 0, none⟩ = some (.slice A0_0 l0_0.length c0_0) := hS_
            refine norm_ (a' := ?_) ?_ ?_
            rotate_left
            ·simp only [putAll, Act.put, List.setIfInBounds_toArray, List.set_cons_zero, List.set_cons_succ]
             rfl
            refine three_ (i := 2) (j := 7) (k := 9) (Ni := some 17) (Nj := some 22) (Nk := some 24) #[true, true, true, true, true, true, true, false, true, false, false, false, false, false, false, false, false] #[true, true, false, true, true, true, true, true, true, false, false, false, false, false, false, false, false] #[true, true, false, true, true, true, true, false, true, true, false, false, false, false, false, false, false] rfl rfl rfl rfl rfl rfl (three_of HT_.out (by kernel_rfl)) (by decide) (by decide) (by decide) (fun K hK => ?_) (fun K hK => ?_) (fun K hK => ?_)
            ·skip
             refine Kd.R_lit_step k50 _ 50 ?hg (N := 17) ?hd (xs := ([(⟨0, 7, 0, 0⟩ : S50)] : List (S50))) (inner := [.int .i64 0, .int .i64 7, .int .i64 0, .int .i64 0]) (ok := fun _ => True) (okp := fun _ => True) ?hr ?hp (fun _ hk => hk) trivial (Below.refl _ _) (Nat.le_refl _) (by simp) ?_; (case hd => rfl); (case hg => rfl); (case hr => exact Y4); (case hp => exact (Reps.c4 (show Kd.M k50 _ _ _ (⟨0, 7, 0, 0⟩ : S50) [.int .i64 0, .int .i64 7, .int .i64 0, .int .i64 0] from (k50_mkM _ _ _ (⟨0, 7, 0, 0⟩ : S50) )) (Reps.none _ _)))
             intro v526 w17 ho18 hb hg_ hnew_
             clear hg_ hnew_
             (first | rw [← Ny525.out] at ho18 | (simp only [Int.reduceToNat] at ho18; rw [← Ny525.out] at ho18))
             have HO527 := am (Kd.R_lower (Kd.R_new' ho18 (Kd.R_lt (rq HO530.out))) (below_size (Y2)))
             replace HO530 := am (Kd.R_elder' (rq HO530.out) (Kd.R_base ho18) hb)
             replace BK523 := am (blk_below (g := gb523) (o := .cells #[.slice A0_0 l0_0.length c0_0] 33 (0, 0)) (kq BK523.out) hb)
             replace HB := am (below_step (Y2) hb)
             clear hb ho18
             refine hK.out _ _ ((blk_cell BK523.out 0).trans rfl) (fun hHeld => ?_)
             clear hK K
             refine norm_ (a' := ?_) ?_ ?_
             rotate_left
             ·show Act.put _ (some 17) _ = _
              simp only [Act.put, List.setIfInBounds_toArray, List.set_cons_zero, List.set_cons_succ, i64_w, i32_w]
              rfl
             exact norm_ (Y9) (hJ2_4 (v526, v529) _ ⟨hHeld, (Y52), (Y45), (kq BK523.out), (Y2)⟩)
            ·skip
             refine Kd.R_lit_step k50 _ 50 ?hg (N := 22) ?hd (xs := ([(⟨0, 8, a2, 0⟩ : S50)] : List (S50))) (inner := [.int .i64 0, .int .i64 8, .int .i64 a2, .int .i64 0]) (ok := fun _ => True) (okp := fun _ => True) ?hr ?hp (fun _ hk => hk) trivial (Below.refl _ _) (Nat.le_refl _) (by simp) ?_; (case hd => rfl); (case hg => rfl); (case hr => exact Y4); (case hp => exact (Reps.c4 (show Kd.M k50 _ _ _ (⟨0, 8, a2, 0⟩ : S50) [.int .i64 0, .int .i64 8, .int .i64 a2, .int .i64 0] from (k50_mkM _ _ _ (⟨0, 8, a2, 0⟩ : S50) )) (Reps.none _ _)))
             intro v532 w17 ho18 hb hg_ hnew_
             clear hg_ hnew_
             (first | rw [← Ny531.out] at ho18 | (simp only [Int.reduceToNat] at ho18; rw [← Ny531.out] at ho18))
             have HO533 := am (Kd.R_lower (Kd.R_new' ho18 (Kd.R_lt (rq HO530.out))) (below_size (Y2)))
             replace HO530 := am (Kd.R_elder' (rq HO530.out) (Kd.R_base ho18) hb)
             replace BK523 := am (blk_below (g := gb523) (o := .cells #[.slice A0_0 l0_0.length c0_0] 33 (0, 0)) (kq BK523.out) hb)
             replace HB := am (below_step (Y2) hb)
             clear hb ho18
             refine hK.out _ _ ((blk_cell BK523.out 0).trans rfl) (fun hHeld => ?_)
             clear hK K
             refine norm_ (a' := ?_) ?_ ?_
             rotate_left
             ·show Act.put _ (some 22) _ = _
              simp only [Act.put, List.setIfInBounds_toArray, List.set_cons_zero, List.set_cons_succ, i64_w, i32_w]
              rfl
             exact norm_ (Y9) (hJ4_7 (v529, v532) _ ⟨hHeld, (Y45), (Y53), (kq BK523.out), (Y2)⟩)
            ·skip
             refine goes_ Try.func38 (by kernel_rfl) rfl #[.slice A3 l3.length c3] (by rfl) rfl rfl (aq) ?_
             with_reducible refine (impl_inner.calls k _ _ l3 t534 _ ?side1 ?side2 A8.out).mono ?_
             (case side1 => exact cq (Kd.C_below HR3.out HB.out))
             (case side2 => exact HC3.out)
             rintro e w17 ⟨v535, rfl, ho0, hb⟩
             refine ⟨_, rfl, ?_⟩
             have HO536 := am (Kd.R_lower (Kd.R_new' ho0 (Kd.R_lt (rq HO530.out))) (below_size (Y2)))
             replace HO530 := am (Kd.R_elder' (rq HO530.out) (Kd.R_base ho0) hb)
             replace BK523 := am (blk_below (g := gb523) (o := .cells #[.slice A0_0 l0_0.length c0_0] 33 (0, 0)) (kq BK523.out) hb)
             replace HB := am (below_step (Y2) hb)
             (try clear hb)
             (try clear hb2)
             (try clear hk)
             (try clear hi)
             (try clear ho0)
             refine hK.out _ _ ((blk_cell BK523.out 0).trans rfl) (fun hHeld => ?_)
             clear hK K
             refine norm_ (a' := ?_) ?_ ?_
             rotate_left
             ·show Act.put _ (some 24) _ = _
              simp only [Act.put, List.setIfInBounds_toArray, List.set_cons_zero, List.set_cons_succ, i64_w, i32_w]
              rfl
             exact norm_ (Y9) (hJ4_9 (v529, v535) _ ⟨hHeld, (Y45), (by (with_reducible repeat (first | apply Kd.R_alloc | apply Kd.R_drewN | apply Kd.R_drew)); exact Kd.R_mono HO536.out (fun _ hk => hk.2)), (kq BK523.out), (Y2)⟩)
          ·skip
           rintro v526 w17 ⟨hS_, h0_, h1_, h2_⟩
           have n0_ : Aside0 (Kd.R k50 50 w17 w.heap.size (fun _ => True) v526 y525) := ⟨h0_⟩
           have n1_ : Aside0 (w17.heap[gb523]? = some (.cells #[.slice A0_0 l0_0.length c0_0] 33 (0, 0))) := ⟨h1_⟩
           have n2_ : Aside0 (Below w.heap.size w w17) := ⟨h2_⟩
           clear BK523
           clear HB
           clear h0_ h1_ h2_
           have HO527 := n0_
           have BK523 := n1_
           have HB := n2_
           clear n0_ n1_ n2_
           have hHeld : w17.cell? ⟨gb523, 0, none⟩ = some (.slice A0_0 l0_0.length c0_0) := hS_
           refine norm_ (a' := ?_) ?_ ?_
           rotate_left
           ·simp only [putAll, Act.put, List.setIfInBounds_toArray, List.set_cons_zero, List.set_cons_succ]
            rfl
           refine two_ (i := 4) (j := 7) (Ni := some 19) (Nj := some 22) #[true, true, true, true, true, true, true, false, true, false, false, false, false, false, false, false, false] #[true, true, true, true, false, true, true, true, true, false, false, false, false, false, false, false, false] rfl rfl rfl rfl (two_of HT_.out (by kernel_rfl)) (by decide) (by decide) (fun K hK => ?_) (fun K hK => ?_)
           ·skip
            refine goes_ Try.func38 (by kernel_rfl) rfl #[.slice A1 l1.length c1] (by rfl) rfl rfl (aq) ?_
            with_reducible refine (impl_inner.calls k _ _ l1 t528 _ ?side1 ?side2 A7.out).mono ?_
            (case side1 => exact cq (Kd.C_below HR1.out HB.out))
            (case side2 => exact HC1.out)
            rintro e w18 ⟨v529, rfl, ho0, hb⟩
            refine ⟨_, rfl, ?_⟩
            have HO530 := am (Kd.R_lower (Kd.R_new' ho0 (Kd.R_lt (rq HO527.out))) (below_size (Y2)))
            replace HO527 := am (Kd.R_elder' (rq HO527.out) (Kd.R_base ho0) hb)
            replace BK523 := am (blk_below (g := gb523) (o := .cells #[.slice A0_0 l0_0.length c0_0] 33 (0, 0)) (kq BK523.out) hb)
            replace HB := am (below_step (Y2) hb)
            (try clear hb)
            (try clear hb2)
            (try clear hk)
            (try clear hi)
            (try clear ho0)
            refine hK.out _ _ ((blk_cell BK523.out 0).trans rfl) (fun hHeld => ?_)
            clear hK K
            refine norm_ (a' := ?_) ?_ ?_
            rotate_left
            ·show Act.put _ (some 19) _ = _
             simp only [Act.put, List.setIfInBounds_toArray, List.set_cons_zero, List.set_cons_succ, i64_w, i32_w]
             rfl
            exact norm_ (Y9) (hJ2_4 (v526, v529) _ ⟨hHeld, (Y52), (Y45), (kq BK523.out), (Y2)⟩)
           ·skip
            refine Kd.R_lit_step k50 _ 50 ?hg (N := 22) ?hd (xs := ([(⟨0, 8, a2, 0⟩ : S50)] : List (S50))) (inner := [.int .i64 0, .int .i64 8, .int .i64 a2, .int .i64 0]) (ok := fun _ => True) (okp := fun _ => True) ?hr ?hp (fun _ hk => hk) trivial (Below.refl _ _) (Nat.le_refl _) (by simp) ?_; (case hd => rfl); (case hg => rfl); (case hr => exact Y4); (case hp => exact (Reps.c4 (show Kd.M k50 _ _ _ (⟨0, 8, a2, 0⟩ : S50) [.int .i64 0, .int .i64 8, .int .i64 a2, .int .i64 0] from (k50_mkM _ _ _ (⟨0, 8, a2, 0⟩ : S50) )) (Reps.none _ _)))
            intro v532 w18 ho19 hb hg_ hnew_
            clear hg_ hnew_
            (first | rw [← Ny531.out] at ho19 | (simp only [Int.reduceToNat] at ho19; rw [← Ny531.out] at ho19))
            have HO533 := am (Kd.R_lower (Kd.R_new' ho19 (Kd.R_lt (rq HO527.out))) (below_size (Y2)))
            replace HO527 := am (Kd.R_elder' (rq HO527.out) (Kd.R_base ho19) hb)
            replace BK523 := am (blk_below (g := gb523) (o := .cells #[.slice A0_0 l0_0.length c0_0] 33 (0, 0)) (kq BK523.out) hb)
            replace HB := am (below_step (Y2) hb)
            clear hb ho19
            refine hK.out _ _ ((blk_cell BK523.out 0).trans rfl) (fun hHeld => ?_)
            clear hK K
            refine norm_ (a' := ?_) ?_ ?_
            rotate_left
            ·show Act.put _ (some 22) _ = _
             simp only [Act.put, List.setIfInBounds_toArray, List.set_cons_zero, List.set_cons_succ, i64_w, i32_w]
             rfl
            exact norm_ (Y9) (hJ2_7 (v526, v532) _ ⟨hHeld, (Y52), (Y53), (kq BK523.out), (Y2)⟩)
         ·skip
          rintro ⟨v529, v535⟩ w17 ⟨hS_, h0_, h1_, h2_, h3_⟩
          have n0_ : Aside0 (Kd.R k50 50 w17 w.heap.size (fun k_ => some k_ ≠ (v535 : Value).ownBlock) v529 t528) := ⟨h0_⟩
          have n1_ : Aside0 (Kd.R k50 50 w17 w.heap.size (fun k_ => some k_ ≠ (v529 : Value).ownBlock) v535 t534) := ⟨h1_⟩
          have n2_ : Aside0 (w17.heap[gb523]? = some (.cells #[.slice A0_0 l0_0.length c0_0] 33 (0, 0))) := ⟨h2_⟩
          have n3_ : Aside0 (Below w.heap.size w w17) := ⟨h3_⟩
          clear BK523
          clear HB
          clear h0_ h1_ h2_ h3_
          have HO530 := n0_
          have HO536 := n1_
          have BK523 := n2_
          have HB := n3_
          clear n0_ n1_ n2_ n3_
          have hHeld : w17.cell? ⟨gb523, 0, none⟩ = some (.slice A0_0 l0_0.length c0_0) := hS_
          refine norm_ (a' := ?_) ?_ ?_
          rotate_left
          ·simp only [putAll, Act.put, List.setIfInBounds_toArray, List.set_cons_zero, List.set_cons_succ]
           rfl
          refine two_ (i := 2) (j := 7) (Ni := some 17) (Nj := some 22) #[true, true, true, true, true, true, true, false, true, true, false, false, false, false, false, false, false] #[true, true, false, true, true, true, true, true, true, true, false, false, false, false, false, false, false] rfl rfl rfl rfl (two_of HT_.out (by kernel_rfl)) (by decide) (by decide) (fun K hK => ?_) (fun K hK => ?_)
          ·skip
           refine Kd.R_lit_step k50 _ 50 ?hg (N := 17) ?hd (xs := ([(⟨0, 7, 0, 0⟩ : S50)] : List (S50))) (inner := [.int .i64 0, .int .i64 7, .int .i64 0, .int .i64 0]) (ok := fun _ => True) (okp := fun _ => True) ?hr ?hp (fun _ hk => hk) trivial (Below.refl _ _) (Nat.le_refl _) (by simp) ?_; (case hd => rfl); (case hg => rfl); (case hr => exact Y4); (case hp => exact (Reps.c4 (show Kd.M k50 _ _ _ (⟨0, 7, 0, 0⟩ : S50) [.int .i64 0, .int .i64 7, .int .i64 0, .int .i64 0] from (k50_mkM _ _ _ (⟨0, 7, 0, 0⟩ : S50) )) (Reps.none _ _)))
           intro v526 w18 ho19 hb hg_ hnew_
           clear hg_ hnew_
           (first | rw [← Ny525.out] at ho19 | (simp only [Int.reduceToNat] at ho19; rw [← Ny525.out] at ho19))
           have HO527 := am (Kd.R_lower (Kd.R_new' (Kd.R_new' ho19 (Kd.R_lt (rq HO530.out))) (Kd.R_lt (rq HO536.out))) (below_size (Y2)))
           replace HO530 := am (Kd.R_elder' (rq HO530.out) (Kd.R_base ho19) hb)
           replace HO536 := am (Kd.R_elder' (rq HO536.out) (Kd.R_base ho19) hb)
           replace BK523 := am (blk_below (g := gb523) (o := .cells #[.slice A0_0 l0_0.length c0_0] 33 (0, 0)) (kq BK523.out) hb)
           replace HB := am (below_step (Y2) hb)
           clear hb ho19
           refine hK.out _ _ ((blk_cell BK523.out 0).trans rfl) (fun hHeld => ?_)
           clear hK K
           refine norm_ (a' := ?_) ?_ ?_
           rotate_left
           ·show Act.put _ (some 17) _ = _
            simp only [Act.put, List.setIfInBounds_toArray, List.set_cons_zero, List.set_cons_succ, i64_w, i32_w]
            rfl
           exact norm_ (Y9) (hJ2_4_9 (v526, v529, v535) _ ⟨hHeld, (Y92), (Y64), (by (with_reducible repeat (first | apply Kd.R_alloc | apply Kd.R_drewN | apply Kd.R_drew)); exact Kd.R_mono HO536.out (fun _ hk => ⟨hk.2, hk.1⟩)), (kq BK523.out), (Y2)⟩)
          ·skip
           refine Kd.R_lit_step k50 _ 50 ?hg (N := 22) ?hd (xs := ([(⟨0, 8, a2, 0⟩ : S50)] : List (S50))) (inner := [.int .i64 0, .int .i64 8, .int .i64 a2, .int .i64 0]) (ok := fun _ => True) (okp := fun _ => True) ?hr ?hp (fun _ hk => hk) trivial (Below.refl _ _) (Nat.le_refl _) (by simp) ?_; (case hd => rfl); (case hg => rfl); (case hr => exact Y4); (case hp => exact (Reps.c4 (show Kd.M k50 _ _ _ (⟨0, 8, a2, 0⟩ : S50) [.int .i64 0, .int .i64 8, .int .i64 a2, .int .i64 0] from (k50_mkM _ _ _ (⟨0, 8, a2, 0⟩ : S50) )) (Reps.none _ _)))
           intro v532 w18 ho19 hb hg_ hnew_
           clear hg_ hnew_
           (first | rw [← Ny531.out] at ho19 | (simp only [Int.reduceToNat] at ho19; rw [← Ny531.out] at ho19))
           have HO533 := am (Kd.R_lower (Kd.R_new' (Kd.R_new' ho19 (Kd.R_lt (rq HO530.out))) (Kd.R_lt (rq HO536.out))) (below_size (Y2)))
           replace HO530 := am (Kd.R_elder' (rq HO530.out) (Kd.R_base ho19) hb)
           replace HO536 := am (Kd.R_elder' (rq HO536.out) (Kd.R_base ho19) hb)
           replace BK523 := am (blk_below (g := gb523) (o := .cells #[.slice A0_0 l0_0.length c0_0] 33 (0, 0)) (kq BK523.out) hb)
           replace HB := am (below_step (Y2) hb)
           clear hb ho19
           refine hK.out _ _ ((blk_cell BK523.out 0).trans rfl) (fun hHeld => ?_)
           clear hK K
           refine norm_ (a' := ?_) ?_ ?_
           rotate_left
           ·show Act.put _ (some 22) _ = _
            simp only [Act.put, List.setIfInBounds_toArray, List.set_cons_zero, List.set_cons_succ, i64_w, i32_w]
            rfl
           exact norm_ (Y9) (hJ4_7_9 (v529, v532, v535) _ ⟨hHeld, (Y64), (Y93), (rq HO536.out), (kq BK523.out), (Y2)⟩)
        ·skip
         rintro ⟨v529, v532⟩ w18 ⟨hS_, h0_, h1_, h2_, h3_⟩
         have n0_ : Aside0 (Kd.R k50 50 w18 w.heap.size (fun k_ => some k_ ≠ (v532 : Value).ownBlock) v529 t528) := ⟨h0_⟩
         have n1_ : Aside0 (Kd.R k50 50 w18 w.heap.size (fun k_ => some k_ ≠ (v529 : Value).ownBlock) v532 y531) := ⟨h1_⟩
         have n2_ : Aside0 (w18.heap[gb523]? = some (.cells #[.slice A0_0 l0_0.length c0_0] 33 (0, 0))) := ⟨h2_⟩
         have n3_ : Aside0 (Below w.heap.size w w18) := ⟨h3_⟩
         clear BK523
         clear HB
         clear h0_ h1_ h2_ h3_
         have HO530 := n0_
         have HO533 := n1_
         have BK523 := n2_
         have HB := n3_
         clear n0_ n1_ n2_ n3_
         have hHeld : w18.cell? ⟨gb523, 0, none⟩ = some (.slice A0_0 l0_0.length c0_0) := hS_
         refine norm_ (a' := ?_) ?_ ?_
         rotate_left
         ·simp only [putAll, Act.put, List.setIfInBounds_toArray, List.set_cons_zero, List.set_cons_succ]
          rfl
         refine two_ (i := 2) (j := 9) (Ni := some 17) (Nj := some 24) #[true, true, true, true, true, true, true, true, true, false, false, false, false, false, false, false, false] #[true, true, false, true, true, true, true, true, true, true, false, false, false, false, false, false, false] rfl rfl rfl rfl (two_of HT_.out (by kernel_rfl)) (by decide) (by decide) (fun K hK => ?_) (fun K hK => ?_)
         ·skip
          refine Kd.R_lit_step k50 _ 50 ?hg (N := 17) ?hd (xs := ([(⟨0, 7, 0, 0⟩ : S50)] : List (S50))) (inner := [.int .i64 0, .int .i64 7, .int .i64 0, .int .i64 0]) (ok := fun _ => True) (okp := fun _ => True) ?hr ?hp (fun _ hk => hk) trivial (Below.refl _ _) (Nat.le_refl _) (by simp) ?_; (case hd => rfl); (case hg => rfl); (case hr => exact Y4); (case hp => exact (Reps.c4 (show Kd.M k50 _ _ _ (⟨0, 7, 0, 0⟩ : S50) [.int .i64 0, .int .i64 7, .int .i64 0, .int .i64 0] from (k50_mkM _ _ _ (⟨0, 7, 0, 0⟩ : S50) )) (Reps.none _ _)))
          intro v526 w19 ho20 hb hg_ hnew_
          clear hg_ hnew_
          (first | rw [← Ny525.out] at ho20 | (simp only [Int.reduceToNat] at ho20; rw [← Ny525.out] at ho20))
          have HO527 := am (Kd.R_lower (Kd.R_new' (Kd.R_new' ho20 (Kd.R_lt (rq HO530.out))) (Kd.R_lt (rq HO533.out))) (below_size (Y2)))
          replace HO530 := am (Kd.R_elder' (rq HO530.out) (Kd.R_base ho20) hb)
          replace HO533 := am (Kd.R_elder' (rq HO533.out) (Kd.R_base ho20) hb)
          replace BK523 := am (blk_below (g := gb523) (o := .cells #[.slice A0_0 l0_0.length c0_0] 33 (0, 0)) (kq BK523.out) hb)
          replace HB := am (below_step (Y2) hb)
          clear hb ho20
          refine hK.out _ _ ((blk_cell BK523.out 0).trans rfl) (fun hHeld => ?_)
          clear hK K
          refine norm_ (a' := ?_) ?_ ?_
          rotate_left
          ·show Act.put _ (some 17) _ = _
           simp only [Act.put, List.setIfInBounds_toArray, List.set_cons_zero, List.set_cons_succ, i64_w, i32_w]
           rfl
          exact norm_ (Y9) (hJ2_4_7 (v526, v529, v532) _ ⟨hHeld, (Y92), (Y64), (by (with_reducible repeat (first | apply Kd.R_alloc | apply Kd.R_drewN | apply Kd.R_drew)); exact Kd.R_mono HO533.out (fun _ hk => ⟨hk.2, hk.1⟩)), (kq BK523.out), (Y2)⟩)
         ·skip
          refine goes_ Try.func38 (by kernel_rfl) rfl #[.slice A3 l3.length c3] (by rfl) rfl rfl (aq) ?_
          with_reducible refine (impl_inner.calls k _ _ l3 t534 _ ?side1 ?side2 A8.out).mono ?_
          (case side1 => exact cq (Kd.C_below HR3.out HB.out))
          (case side2 => exact HC3.out)
          rintro e w19 ⟨v535, rfl, ho0, hb⟩
          refine ⟨_, rfl, ?_⟩
          have HO536 := am (Kd.R_lower (Kd.R_new' (Kd.R_new' ho0 (Kd.R_lt (rq HO530.out))) (Kd.R_lt (rq HO533.out))) (below_size (Y2)))
          replace HO530 := am (Kd.R_elder' (rq HO530.out) (Kd.R_base ho0) hb)
          replace HO533 := am (Kd.R_elder' (rq HO533.out) (Kd.R_base ho0) hb)
          replace BK523 := am (blk_below (g := gb523) (o := .cells #[.slice A0_0 l0_0.length c0_0] 33 (0, 0)) (kq BK523.out) hb)
          replace HB := am (below_step (Y2) hb)
          (try clear hb)
          (try clear hb2)
          (try clear hk)
          (try clear hi)
          (try clear ho0)
          refine hK.out _ _ ((blk_cell BK523.out 0).trans rfl) (fun hHeld => ?_)
          clear hK K
          refine norm_ (a' := ?_) ?_ ?_
          rotate_left
          ·show Act.put _ (some 24) _ = _
           simp only [Act.put, List.setIfInBounds_toArray, List.set_cons_zero, List.set_cons_succ, i64_w, i32_w]
           rfl
          exact norm_ (Y9) (hJ4_7_9 (v529, v532, v535) _ ⟨hHeld, (rq HO530.out), (rq HO533.out), (Y94), (kq BK523.out), (Y2)⟩)
       ·skip
        rintro ⟨v526, v532⟩ w19 ⟨hS_, h0_, h1_, h2_, h3_⟩
        have n0_ : Aside0 (Kd.R k50 50 w19 w.heap.size (fun k_ => some k_ ≠ (v532 : Value).ownBlock) v526 y525) := ⟨h0_⟩
        have n1_ : Aside0 (Kd.R k50 50 w19 w.heap.size (fun k_ => some k_ ≠ (v526 : Value).ownBlock) v532 y531) := ⟨h1_⟩
        have n2_ : Aside0 (w19.heap[gb523]? = some (.cells #[.slice A0_0 l0_0.length c0_0] 33 (0, 0))) := ⟨h2_⟩
        have n3_ : Aside0 (Below w.heap.size w w19) := ⟨h3_⟩
        clear BK523
        clear HB
        clear h0_ h1_ h2_ h3_
        have HO527 := n0_
        have HO533 := n1_
        have BK523 := n2_
        have HB := n3_
        clear n0_ n1_ n2_ n3_
        have hHeld : w19.cell? ⟨gb523, 0, none⟩ = some (.slice A0_0 l0_0.length c0_0) := hS_
        refine norm_ (a' := ?_) ?_ ?_
        rotate_left
        ·simp only [putAll, Act.put, List.setIfInBounds_toArray, List.set_cons_zero, List.set_cons_succ]
         rfl
        refine one_ (i := 4) (N := some 19) #[true, true, true, true, true, true, true, true, true, false, false, false, false, false, false, false, false] rfl rfl (one_of HT_.out (by kernel_rfl)) (by decide) (fun K hK => ?_)
        refine goes_ Try.func38 (by kernel_rfl) rfl #[.slice A1 l1.length c1] (by rfl) rfl rfl (aq) ?_
        with_reducible refine (impl_inner.calls k _ _ l1 t528 _ ?side1 ?side2 A7.out).mono ?_
        (case side1 => exact cq (Kd.C_below HR1.out HB.out))
        (case side2 => exact HC1.out)
        rintro e w20 ⟨v529, rfl, ho0, hb⟩
        refine ⟨_, rfl, ?_⟩
        have HO530 := am (Kd.R_lower (Kd.R_new' (Kd.R_new' ho0 (Kd.R_lt (rq HO527.out))) (Kd.R_lt (rq HO533.out))) (below_size (Y2)))
        replace HO527 := am (Kd.R_elder' (rq HO527.out) (Kd.R_base ho0) hb)
        replace HO533 := am (Kd.R_elder' (rq HO533.out) (Kd.R_base ho0) hb)
        replace BK523 := am (blk_below (g := gb523) (o := .cells #[.slice A0_0 l0_0.length c0_0] 33 (0, 0)) (kq BK523.out) hb)
        replace HB := am (below_step (Y2) hb)
        (try clear hb)
        (try clear hb2)
        (try clear hk)
        (try clear hi)
        (try clear ho0)
        refine hK.out _ _ ((blk_cell BK523.out 0).trans rfl) (fun hHeld => ?_)
        clear hK K
        refine norm_ (a' := ?_) ?_ ?_
        rotate_left
        ·show Act.put _ (some 19) _ = _
         simp only [Act.put, List.setIfInBounds_toArray, List.set_cons_zero, List.set_cons_succ, i64_w, i32_w]
         rfl
        exact norm_ (Y9) (hJ2_4_7 (v526, v529, v532) _ ⟨hHeld, (by (with_reducible repeat (first | apply Kd.R_alloc | apply Kd.R_drewN | apply Kd.R_drew)); exact Kd.R_mono HO527.out (fun _ hk => ⟨hk.2, hk.1⟩)), (by (with_reducible repeat (first | apply Kd.R_alloc | apply Kd.R_drewN | apply Kd.R_drew)); exact Kd.R_mono HO530.out (fun _ hk => ⟨hk.1.2, hk.2⟩)), (rq HO533.out), (kq BK523.out), (Y2)⟩)
      ·skip
       rintro ⟨v526, v529⟩ w18 ⟨hS_, h0_, h1_, h2_, h3_⟩
       have n0_ : Aside0 (Kd.R k50 50 w18 w.heap.size (fun k_ => some k_ ≠ (v529 : Value).ownBlock) v526 y525) := ⟨h0_⟩
       have n1_ : Aside0 (Kd.R k50 50 w18 w.heap.size (fun k_ => some k_ ≠ (v526 : Value).ownBlock) v529 t528) := ⟨h1_⟩
       have n2_ : Aside0 (w18.heap[gb523]? = some (.cells #[.slice A0_0 l0_0.length c0_0] 33 (0, 0))) := ⟨h2_⟩
       have n3_ : Aside0 (Below w.heap.size w w18) := ⟨h3_⟩
       clear BK523
       clear HB
       clear h0_ h1_ h2_ h3_
       have HO527 := n0_
       have HO530 := n1_
       have BK523 := n2_
       have HB := n3_
       clear n0_ n1_ n2_ n3_
       have hHeld : w18.cell? ⟨gb523, 0, none⟩ = some (.slice A0_0 l0_0.length c0_0) := hS_
       refine norm_ (a' := ?_) ?_ ?_
       rotate_left
       ·simp only [putAll, Act.put, List.setIfInBounds_toArray, List.set_cons_zero, List.set_cons_succ]
        rfl
       refine two_ (i := 7) (j := 9) (Ni := some 22) (Nj := some 24) #[true, true, true, true, true, true, true, true, true, false, false, false, false, false, false, false, false] #[true, true, true, true, true, true, true, false, true, true, false, false, false, false, false, false, false] rfl rfl rfl rfl (two_of HT_.out (by kernel_rfl)) (by decide) (by decide) (fun K hK => ?_) (fun K hK => ?_)
       ·skip
        refine Kd.R_lit_step k50 _ 50 ?hg (N := 22) ?hd (xs := ([(⟨0, 8, a2, 0⟩ : S50)] : List (S50))) (inner := [.int .i64 0, .int .i64 8, .int .i64 a2, .int .i64 0]) (ok := fun _ => True) (okp := fun _ => True) ?hr ?hp (fun _ hk => hk) trivial (Below.refl _ _) (Nat.le_refl _) (by simp) ?_; (case hd => rfl); (case hg => rfl); (case hr => exact Y4); (case hp => exact (Reps.c4 (show Kd.M k50 _ _ _ (⟨0, 8, a2, 0⟩ : S50) [.int .i64 0, .int .i64 8, .int .i64 a2, .int .i64 0] from (k50_mkM _ _ _ (⟨0, 8, a2, 0⟩ : S50) )) (Reps.none _ _)))
        intro v532 w19 ho20 hb hg_ hnew_
        clear hg_ hnew_
        (first | rw [← Ny531.out] at ho20 | (simp only [Int.reduceToNat] at ho20; rw [← Ny531.out] at ho20))
        have HO533 := am (Kd.R_lower (Kd.R_new' (Kd.R_new' ho20 (Kd.R_lt (rq HO527.out))) (Kd.R_lt (rq HO530.out))) (below_size (Y2)))
        replace HO527 := am (Kd.R_elder' (rq HO527.out) (Kd.R_base ho20) hb)
        replace HO530 := am (Kd.R_elder' (rq HO530.out) (Kd.R_base ho20) hb)
        replace BK523 := am (blk_below (g := gb523) (o := .cells #[.slice A0_0 l0_0.length c0_0] 33 (0, 0)) (kq BK523.out) hb)
        replace HB := am (below_step (Y2) hb)
        clear hb ho20
        refine hK.out _ _ ((blk_cell BK523.out 0).trans rfl) (fun hHeld => ?_)
        clear hK K
        refine norm_ (a' := ?_) ?_ ?_
        rotate_left
        ·show Act.put _ (some 22) _ = _
         simp only [Act.put, List.setIfInBounds_toArray, List.set_cons_zero, List.set_cons_succ, i64_w, i32_w]
         rfl
        exact norm_ (Y9) (hJ2_4_7 (v526, v529, v532) _ ⟨hHeld, (rq HO527.out), (rq HO530.out), (Y93), (kq BK523.out), (Y2)⟩)
       ·skip
        refine goes_ Try.func38 (by kernel_rfl) rfl #[.slice A3 l3.length c3] (by rfl) rfl rfl (aq) ?_
        with_reducible refine (impl_inner.calls k _ _ l3 t534 _ ?side1 ?side2 A8.out).mono ?_
        (case side1 => exact cq (Kd.C_below HR3.out HB.out))
        (case side2 => exact HC3.out)
        rintro e w19 ⟨v535, rfl, ho0, hb⟩
        refine ⟨_, rfl, ?_⟩
        have HO536 := am (Kd.R_lower (Kd.R_new' (Kd.R_new' ho0 (Kd.R_lt (rq HO527.out))) (Kd.R_lt (rq HO530.out))) (below_size (Y2)))
        replace HO527 := am (Kd.R_elder' (rq HO527.out) (Kd.R_base ho0) hb)
        replace HO530 := am (Kd.R_elder' (rq HO530.out) (Kd.R_base ho0) hb)
        replace BK523 := am (blk_below (g := gb523) (o := .cells #[.slice A0_0 l0_0.length c0_0] 33 (0, 0)) (kq BK523.out) hb)
        replace HB := am (below_step (Y2) hb)
        (try clear hb)
        (try clear hb2)
        (try clear hk)
        (try clear hi)
        (try clear ho0)
        refine hK.out _ _ ((blk_cell BK523.out 0).trans rfl) (fun hHeld => ?_)
        clear hK K
        refine norm_ (a' := ?_) ?_ ?_
        rotate_left
        ·show Act.put _ (some 24) _ = _
         simp only [Act.put, List.setIfInBounds_toArray, List.set_cons_zero, List.set_cons_succ, i64_w, i32_w]
         rfl
        exact norm_ (Y9) (hJ2_4_9 (v526, v529, v535) _ ⟨hHeld, (rq HO527.out), (rq HO530.out), (Y94), (kq BK523.out), (Y2)⟩)
     ·skip
      rintro ⟨v529, v532, v535⟩ w19 ⟨hS_, h0_, h1_, h2_, h3_, h4_⟩
      have n0_ : Aside0 (Kd.R k50 50 w19 w.heap.size (fun k_ => some k_ ≠ (v532 : Value).ownBlock ∧ some k_ ≠ (v535 : Value).ownBlock) v529 t528) := ⟨h0_⟩
      have n1_ : Aside0 (Kd.R k50 50 w19 w.heap.size (fun k_ => some k_ ≠ (v529 : Value).ownBlock ∧ some k_ ≠ (v535 : Value).ownBlock) v532 y531) := ⟨h1_⟩
      have n2_ : Aside0 (Kd.R k50 50 w19 w.heap.size (fun k_ => some k_ ≠ (v529 : Value).ownBlock ∧ some k_ ≠ (v532 : Value).ownBlock) v535 t534) := ⟨h2_⟩
      have n3_ : Aside0 (w19.heap[gb523]? = some (.cells #[.slice A0_0 l0_0.length c0_0] 33 (0, 0))) := ⟨h3_⟩
      have n4_ : Aside0 (Below w.heap.size w w19) := ⟨h4_⟩
      clear BK523
      clear HB
      clear h0_ h1_ h2_ h3_ h4_
      have HO530 := n0_
      have HO533 := n1_
      have HO536 := n2_
      have BK523 := n3_
      have HB := n4_
      clear n0_ n1_ n2_ n3_ n4_
      have hHeld : w19.cell? ⟨gb523, 0, none⟩ = some (.slice A0_0 l0_0.length c0_0) := hS_
      refine norm_ (a' := ?_) ?_ ?_
      rotate_left
      ·simp only [putAll, Act.put, List.setIfInBounds_toArray, List.set_cons_zero, List.set_cons_succ]
       rfl
      refine one_ (i := 2) (N := some 17) #[true, true, true, true, true, true, true, true, true, true, false, false, false, false, false, false, false] rfl rfl (one_of HT_.out (by kernel_rfl)) (by decide) (fun K hK => ?_)
      refine Kd.R_lit_step k50 _ 50 ?hg (N := 17) ?hd (xs := ([(⟨0, 7, 0, 0⟩ : S50)] : List (S50))) (inner := [.int .i64 0, .int .i64 7, .int .i64 0, .int .i64 0]) (ok := fun _ => True) (okp := fun _ => True) ?hr ?hp (fun _ hk => hk) trivial (Below.refl _ _) (Nat.le_refl _) (by simp) ?_; (case hd => rfl); (case hg => rfl); (case hr => exact Y4); (case hp => exact (Reps.c4 (show Kd.M k50 _ _ _ (⟨0, 7, 0, 0⟩ : S50) [.int .i64 0, .int .i64 7, .int .i64 0, .int .i64 0] from (k50_mkM _ _ _ (⟨0, 7, 0, 0⟩ : S50) )) (Reps.none _ _)))
      intro v526 w20 ho21 hb hg_ hnew_
      clear hg_ hnew_
      (first | rw [← Ny525.out] at ho21 | (simp only [Int.reduceToNat] at ho21; rw [← Ny525.out] at ho21))
      have HO527 := am (Kd.R_lower (Kd.R_new' (Kd.R_new' (Kd.R_new' ho21 (Kd.R_lt (rq HO530.out))) (Kd.R_lt (rq HO533.out))) (Kd.R_lt (rq HO536.out))) (below_size (Y2)))
      replace HO530 := am (Kd.R_elder' (rq HO530.out) (Kd.R_base ho21) hb)
      replace HO533 := am (Kd.R_elder' (rq HO533.out) (Kd.R_base ho21) hb)
      replace HO536 := am (Kd.R_elder' (rq HO536.out) (Kd.R_base ho21) hb)
      replace BK523 := am (blk_below (g := gb523) (o := .cells #[.slice A0_0 l0_0.length c0_0] 33 (0, 0)) (kq BK523.out) hb)
      replace HB := am (below_step (Y2) hb)
      clear hb ho21
      refine hK.out _ _ ((blk_cell BK523.out 0).trans rfl) (fun hHeld => ?_)
      clear hK K
      refine norm_ (a' := ?_) ?_ ?_
      rotate_left
      ·show Act.put _ (some 17) _ = _
       simp only [Act.put, List.setIfInBounds_toArray, List.set_cons_zero, List.set_cons_succ, i64_w, i32_w]
       rfl
      exact norm_ (Y9) (hJ2_4_7_9 (v526, v529, v532, v535) _ ⟨hHeld, (by (with_reducible repeat (first | apply Kd.R_alloc | apply Kd.R_drewN | apply Kd.R_drew)); exact Kd.R_mono HO527.out (fun _ hk => ⟨hk.1.1.2, ⟨hk.1.2, hk.2⟩⟩)), (by (with_reducible repeat (first | apply Kd.R_alloc | apply Kd.R_drewN | apply Kd.R_drew)); exact Kd.R_mono HO530.out (fun _ hk => ⟨hk.2, ⟨hk.1.1, hk.1.2⟩⟩)), (by (with_reducible repeat (first | apply Kd.R_alloc | apply Kd.R_drewN | apply Kd.R_drew)); exact Kd.R_mono HO533.out (fun _ hk => ⟨hk.2, ⟨hk.1.1, hk.1.2⟩⟩)), (by (with_reducible repeat (first | apply Kd.R_alloc | apply Kd.R_drewN | apply Kd.R_drew)); exact Kd.R_mono HO536.out (fun _ hk => ⟨hk.2, ⟨hk.1.1, hk.1.2⟩⟩)), (kq BK523.out), (Y2)⟩)
    ·skip
     rintro ⟨v526, v529, v535⟩ w19 ⟨hS_, h0_, h1_, h2_, h3_, h4_⟩
     have n0_ : Aside0 (Kd.R k50 50 w19 w.heap.size (fun k_ => some k_ ≠ (v529 : Value).ownBlock ∧ some k_ ≠ (v535 : Value).ownBlock) v526 y525) := ⟨h0_⟩
     have n1_ : Aside0 (Kd.R k50 50 w19 w.heap.size (fun k_ => some k_ ≠ (v526 : Value).ownBlock ∧ some k_ ≠ (v535 : Value).ownBlock) v529 t528) := ⟨h1_⟩
     have n2_ : Aside0 (Kd.R k50 50 w19 w.heap.size (fun k_ => some k_ ≠ (v526 : Value).ownBlock ∧ some k_ ≠ (v529 : Value).ownBlock) v535 t534) := ⟨h2_⟩
     have n3_ : Aside0 (w19.heap[gb523]? = some (.cells #[.slice A0_0 l0_0.length c0_0] 33 (0, 0))) := ⟨h3_⟩
     have n4_ : Aside0 (Below w.heap.size w w19) := ⟨h4_⟩
     clear BK523
     clear HB
     clear h0_ h1_ h2_ h3_ h4_
     have HO527 := n0_
     have HO530 := n1_
     have HO536 := n2_
     have BK523 := n3_
     have HB := n4_
     clear n0_ n1_ n2_ n3_ n4_
     have hHeld : w19.cell? ⟨gb523, 0, none⟩ = some (.slice A0_0 l0_0.length c0_0) := hS_
     refine norm_ (a' := ?_) ?_ ?_
     rotate_left
     ·simp only [putAll, Act.put, List.setIfInBounds_toArray, List.set_cons_zero, List.set_cons_succ]
      rfl
     refine one_ (i := 7) (N := some 22) #[true, true, true, true, true, true, true, true, true, true, false, false, false, false, false, false, false] rfl rfl (one_of HT_.out (by kernel_rfl)) (by decide) (fun K hK => ?_)
     refine Kd.R_lit_step k50 _ 50 ?hg (N := 22) ?hd (xs := ([(⟨0, 8, a2, 0⟩ : S50)] : List (S50))) (inner := [.int .i64 0, .int .i64 8, .int .i64 a2, .int .i64 0]) (ok := fun _ => True) (okp := fun _ => True) ?hr ?hp (fun _ hk => hk) trivial (Below.refl _ _) (Nat.le_refl _) (by simp) ?_; (case hd => rfl); (case hg => rfl); (case hr => exact Y4); (case hp => exact (Reps.c4 (show Kd.M k50 _ _ _ (⟨0, 8, a2, 0⟩ : S50) [.int .i64 0, .int .i64 8, .int .i64 a2, .int .i64 0] from (k50_mkM _ _ _ (⟨0, 8, a2, 0⟩ : S50) )) (Reps.none _ _)))
     intro v532 w20 ho21 hb hg_ hnew_
     clear hg_ hnew_
     (first | rw [← Ny531.out] at ho21 | (simp only [Int.reduceToNat] at ho21; rw [← Ny531.out] at ho21))
     have HO533 := am (Kd.R_lower (Kd.R_new' (Kd.R_new' (Kd.R_new' ho21 (Kd.R_lt (rq HO527.out))) (Kd.R_lt (rq HO530.out))) (Kd.R_lt (rq HO536.out))) (below_size (Y2)))
     replace HO527 := am (Kd.R_elder' (rq HO527.out) (Kd.R_base ho21) hb)
     replace HO530 := am (Kd.R_elder' (rq HO530.out) (Kd.R_base ho21) hb)
     replace HO536 := am (Kd.R_elder' (rq HO536.out) (Kd.R_base ho21) hb)
     replace BK523 := am (blk_below (g := gb523) (o := .cells #[.slice A0_0 l0_0.length c0_0] 33 (0, 0)) (kq BK523.out) hb)
     replace HB := am (below_step (Y2) hb)
     clear hb ho21
     refine hK.out _ _ ((blk_cell BK523.out 0).trans rfl) (fun hHeld => ?_)
     clear hK K
     refine norm_ (a' := ?_) ?_ ?_
     rotate_left
     ·show Act.put _ (some 22) _ = _
      simp only [Act.put, List.setIfInBounds_toArray, List.set_cons_zero, List.set_cons_succ, i64_w, i32_w]
      rfl
     exact norm_ (Y9) (hJ2_4_7_9 (v526, v529, v532, v535) _ ⟨hHeld, (by (with_reducible repeat (first | apply Kd.R_alloc | apply Kd.R_drewN | apply Kd.R_drew)); exact Kd.R_mono HO527.out (fun _ hk => ⟨hk.1.1, ⟨hk.2, hk.1.2⟩⟩)), (by (with_reducible repeat (first | apply Kd.R_alloc | apply Kd.R_drewN | apply Kd.R_drew)); exact Kd.R_mono HO530.out (fun _ hk => ⟨hk.1.1, ⟨hk.2, hk.1.2⟩⟩)), (by (with_reducible repeat (first | apply Kd.R_alloc | apply Kd.R_drewN | apply Kd.R_drew)); exact Kd.R_mono HO533.out (fun _ hk => ⟨hk.1.1.2, ⟨hk.1.2, hk.2⟩⟩)), (by (with_reducible repeat (first | apply Kd.R_alloc | apply Kd.R_drewN | apply Kd.R_drew)); exact Kd.R_mono HO536.out (fun _ hk => ⟨hk.1.1, ⟨hk.1.2, hk.2⟩⟩)), (kq BK523.out), (Y2)⟩)
   ·skip
    rintro ⟨v526, v529, v532⟩ w20 ⟨hS_, h0_, h1_, h2_, h3_, h4_⟩
    have n0_ : Aside0 (Kd.R k50 50 w20 w.heap.size (fun k_ => some k_ ≠ (v529 : Value).ownBlock ∧ some k_ ≠ (v532 : Value).ownBlock) v526 y525) := ⟨h0_⟩
    have n1_ : Aside0 (Kd.R k50 50 w20 w.heap.size (fun k_ => some k_ ≠ (v526 : Value).ownBlock ∧ some k_ ≠ (v532 : Value).ownBlock) v529 t528) := ⟨h1_⟩
    have n2_ : Aside0 (Kd.R k50 50 w20 w.heap.size (fun k_ => some k_ ≠ (v526 : Value).ownBlock ∧ some k_ ≠ (v529 : Value).ownBlock) v532 y531) := ⟨h2_⟩
    have n3_ : Aside0 (w20.heap[gb523]? = some (.cells #[.slice A0_0 l0_0.length c0_0] 33 (0, 0))) := ⟨h3_⟩
    have n4_ : Aside0 (Below w.heap.size w w20) := ⟨h4_⟩
    clear BK523
    clear HB
    clear h0_ h1_ h2_ h3_ h4_
    have HO527 := n0_
    have HO530 := n1_
    have HO533 := n2_
    have BK523 := n3_
    have HB := n4_
    clear n0_ n1_ n2_ n3_ n4_
    have hHeld : w20.cell? ⟨gb523, 0, none⟩ = some (.slice A0_0 l0_0.length c0_0) := hS_
    refine norm_ (a' := ?_) ?_ ?_
    rotate_left
    ·simp only [putAll, Act.put, List.setIfInBounds_toArray, List.set_cons_zero, List.set_cons_succ]
     rfl
    refine one_ (i := 9) (N := some 24) #[true, true, true, true, true, true, true, true, true, true, false, false, false, false, false, false, false] rfl rfl (one_of HT_.out (by kernel_rfl)) (by decide) (fun K hK => ?_)
    refine goes_ Try.func38 (by kernel_rfl) rfl #[.slice A3 l3.length c3] (by rfl) rfl rfl (aq) ?_
    with_reducible refine (impl_inner.calls k _ _ l3 t534 _ ?side1 ?side2 A8.out).mono ?_
    (case side1 => exact cq (Kd.C_below HR3.out HB.out))
    (case side2 => exact HC3.out)
    rintro e w21 ⟨v535, rfl, ho0, hb⟩
    refine ⟨_, rfl, ?_⟩
    have HO536 := am (Kd.R_lower (Kd.R_new' (Kd.R_new' (Kd.R_new' ho0 (Kd.R_lt (rq HO527.out))) (Kd.R_lt (rq HO530.out))) (Kd.R_lt (rq HO533.out))) (below_size (Y2)))
    replace HO527 := am (Kd.R_elder' (rq HO527.out) (Kd.R_base ho0) hb)
    replace HO530 := am (Kd.R_elder' (rq HO530.out) (Kd.R_base ho0) hb)
    replace HO533 := am (Kd.R_elder' (rq HO533.out) (Kd.R_base ho0) hb)
    replace BK523 := am (blk_below (g := gb523) (o := .cells #[.slice A0_0 l0_0.length c0_0] 33 (0, 0)) (kq BK523.out) hb)
    replace HB := am (below_step (Y2) hb)
    (try clear hb)
    (try clear hb2)
    (try clear hk)
    (try clear hi)
    (try clear ho0)
    refine hK.out _ _ ((blk_cell BK523.out 0).trans rfl) (fun hHeld => ?_)
    clear hK K
    refine norm_ (a' := ?_) ?_ ?_
    rotate_left
    ·show Act.put _ (some 24) _ = _
     simp only [Act.put, List.setIfInBounds_toArray, List.set_cons_zero, List.set_cons_succ, i64_w, i32_w]
     rfl
    exact norm_ (Y9) (hJ2_4_7_9 (v526, v529, v532, v535) _ ⟨hHeld, (by (with_reducible repeat (first | apply Kd.R_alloc | apply Kd.R_drewN | apply Kd.R_drew)); exact Kd.R_mono HO527.out (fun _ hk => ⟨hk.1.1, ⟨hk.1.2, hk.2⟩⟩)), (by (with_reducible repeat (first | apply Kd.R_alloc | apply Kd.R_drewN | apply Kd.R_drew)); exact Kd.R_mono HO530.out (fun _ hk => ⟨hk.1.1, ⟨hk.1.2, hk.2⟩⟩)), (by (with_reducible repeat (first | apply Kd.R_alloc | apply Kd.R_drewN | apply Kd.R_drew)); exact Kd.R_mono HO533.out (fun _ hk => ⟨hk.1.1, ⟨hk.1.2, hk.2⟩⟩)), (by (with_reducible repeat (first | apply Kd.R_alloc | apply Kd.R_drewN | apply Kd.R_drew)); exact Kd.R_mono HO536.out (fun _ hk => ⟨hk.1.1.2, ⟨hk.1.2, hk.2⟩⟩)), (kq BK523.out), (Y2)⟩)
  rintro ⟨v526, v529, v532, v535⟩ w21 ⟨hS_, h0_, h1_, h2_, h3_, h4_, h5_⟩
  have n0_ : Aside0 (Kd.R k50 50 w21 w.heap.size (fun k_ => some k_ ≠ (v529 : Value).ownBlock ∧ some k_ ≠ (v532 : Value).ownBlock ∧ some k_ ≠ (v535 : Value).ownBlock) v526 y525) := ⟨h0_⟩
  have n1_ : Aside0 (Kd.R k50 50 w21 w.heap.size (fun k_ => some k_ ≠ (v526 : Value).ownBlock ∧ some k_ ≠ (v532 : Value).ownBlock ∧ some k_ ≠ (v535 : Value).ownBlock) v529 t528) := ⟨h1_⟩
  have n2_ : Aside0 (Kd.R k50 50 w21 w.heap.size (fun k_ => some k_ ≠ (v526 : Value).ownBlock ∧ some k_ ≠ (v529 : Value).ownBlock ∧ some k_ ≠ (v535 : Value).ownBlock) v532 y531) := ⟨h2_⟩
  have n3_ : Aside0 (Kd.R k50 50 w21 w.heap.size (fun k_ => some k_ ≠ (v526 : Value).ownBlock ∧ some k_ ≠ (v529 : Value).ownBlock ∧ some k_ ≠ (v532 : Value).ownBlock) v535 t534) := ⟨h3_⟩
  have n4_ : Aside0 (w21.heap[gb523]? = some (.cells #[.slice A0_0 l0_0.length c0_0] 33 (0, 0))) := ⟨h4_⟩
  have n5_ : Aside0 (Below w.heap.size w w21) := ⟨h5_⟩
  clear BK523
  clear HB
  clear h0_ h1_ h2_ h3_ h4_ h5_
  have HO527 := n0_
  have HO530 := n1_
  have HO533 := n2_
  have HO536 := n3_
  have BK523 := n4_
  have HB := n5_
  clear n0_ n1_ n2_ n3_ n4_ n5_
  have hHeld : w21.cell? ⟨gb523, 0, none⟩ = some (.slice A0_0 l0_0.length c0_0) := hS_
  obtain ⟨Ao22, co22, eo22⟩ := Kd.R_slice HO527.out
  (first | subst eo22 | (injection eo22 with f1_ f2_ f3_; have f4_ := f1_.symm; have f5_ := f3_.symm; clear f1_ f2_ f3_; subst f4_; subst f5_))
  obtain ⟨Ao23, co23, eo23⟩ := Kd.R_slice HO530.out
  (first | subst eo23 | (injection eo23 with f1_ f2_ f3_; have f4_ := f1_.symm; have f5_ := f3_.symm; clear f1_ f2_ f3_; subst f4_; subst f5_))
  obtain ⟨Ao24, co24, eo24⟩ := Kd.R_slice HO533.out
  (first | subst eo24 | (injection eo24 with f1_ f2_ f3_; have f4_ := f1_.symm; have f5_ := f3_.symm; clear f1_ f2_ f3_; subst f4_; subst f5_))
  obtain ⟨Ao25, co25, eo25⟩ := Kd.R_slice HO536.out
  (first | subst eo25 | (injection eo25 with f1_ f2_ f3_; have f4_ := f1_.symm; have f5_ := f3_.symm; clear f1_ f2_ f3_; subst f4_; subst f5_))
  refine norm_ (a' := ?_) ?_ ?_
  rotate_left
  ·simp only [putAll, Act.put, List.setIfInBounds_toArray, List.set_cons_zero, List.set_cons_succ]
   rfl
  refine one_ (i := 10) (N := some 25) #[true, true, true, true, true, true, true, true, true, true, true, false, false, false, false, false, false] rfl rfl (one_of HT_.out (by kernel_rfl)) (by decide) (fun K hK => ?_)
  refine Kd.N_lit_step (Kd.slice 50 k50) _ 28 ?hg (N' := 25) ?hd (xs := ([y525, t528, y531, t534] : List (List (S50)))) (inner := [.slice Ao22 y525.length co22, .slice Ao23 t528.length co23, .slice Ao24 y531.length co24, .slice Ao25 t534.length co25]) (ok := (fun k_ => k_ ≠ gb523)) (okp := (fun k_ => k_ ≠ gb523)) ?hr ?hp (fun _ hk => hk) ((show ∀ k_, w21.heap.size ≤ k_ → (fun k_ => k_ ≠ gb523) k_ from fun k_ hk => Kd.freshB (g := gb523) (o := .cells #[.slice A0_0 l0_0.length c0_0] 33 (0, 0)) (kq BK523.out) k_ hk) _ (Nat.le_refl _)) (Below.refl _ _) (Nat.le_refl _) (by simp) ?_; (case hd => rfl); (case hg => rfl); (case hr => exact Y4); (case hp => exact (Reps.one (show Kd.FK (Kd.slice 50 k50) _ _ y525 [.slice Ao22 y525.length co22] from (Kd.FK_slice_mk (Kd.R_reads' (Kd.R_mono (ok' := (fun k_ => k_ ≠ gb523)) (Kd.R_types (HO527.out) BK523.out (by decide)) (fun k_ hk => hk.2))).2.1 (Kd.R_F (Kd.R_mono (ok' := (fun k_ => k_ ≠ gb523)) (Kd.R_types (HO527.out) BK523.out (by decide)) (fun k_ hk => hk.2))))) (Reps.one (show Kd.FK (Kd.slice 50 k50) _ _ t528 [.slice Ao23 t528.length co23] from (Kd.FK_slice_mk (Kd.R_reads' (Kd.R_mono (ok' := (fun k_ => k_ ≠ gb523)) (Kd.R_types (HO530.out) BK523.out (by decide)) (fun k_ hk => hk.2))).2.1 (Kd.R_F (Kd.R_mono (ok' := (fun k_ => k_ ≠ gb523)) (Kd.R_types (HO530.out) BK523.out (by decide)) (fun k_ hk => hk.2))))) (Reps.one (show Kd.FK (Kd.slice 50 k50) _ _ y531 [.slice Ao24 y531.length co24] from (Kd.FK_slice_mk (Kd.R_reads' (Kd.R_mono (ok' := (fun k_ => k_ ≠ gb523)) (Kd.R_types (HO533.out) BK523.out (by decide)) (fun k_ hk => hk.2))).2.1 (Kd.R_F (Kd.R_mono (ok' := (fun k_ => k_ ≠ gb523)) (Kd.R_types (HO533.out) BK523.out (by decide)) (fun k_ hk => hk.2))))) (Reps.one (show Kd.FK (Kd.slice 50 k50) _ _ t534 [.slice Ao25 t534.length co25] from (Kd.FK_slice_mk (Kd.R_reads' (Kd.R_mono (ok' := (fun k_ => k_ ≠ gb523)) (Kd.R_types (HO536.out) BK523.out (by decide)) (fun k_ hk => hk.2))).2.1 (Kd.R_F (Kd.R_mono (ok' := (fun k_ => k_ ≠ gb523)) (Kd.R_types (HO536.out) BK523.out (by decide)) (fun k_ hk => hk.2))))) (Reps.none _ _))))))
  intro v538 w26 ho27 hb hg_ hnew_
  clear hg_ hnew_
  (first | rw [← Ny537.out] at ho27 | (simp only [Int.reduceToNat] at ho27; rw [← Ny537.out] at ho27))
  have n0_ := am (Kd.N_lower ho27 (below_size (Y2)))
  have n1_ := am (blk_below (g := gb523) (o := .cells #[.slice A0_0 l0_0.length c0_0] 33 (0, 0)) (kq BK523.out) hb)
  have n2_ := am (below_step (Y2) hb)
  clear BK523
  clear HB
  clear HO527
  clear HO530
  clear HO533
  clear HO536
  have HO539 := n0_
  have BK523 := n1_
  have HB := n2_
  clear n0_ n1_ n2_
  clear hb ho27
  obtain ⟨Ao28, co28, eo28⟩ := Kd.N_slice HO539.out
  (first | subst eo28 | (injection eo28 with f1_ f2_ f3_; have f4_ := f1_.symm; have f5_ := f3_.symm; clear f1_ f2_ f3_; subst f4_; subst f5_))
  refine hK.out _ _ ((blk_cell BK523.out 0).trans rfl) (fun hHeld => ?_)
  clear hK K
  refine norm_ (a' := ?_) ?_ ?_
  rotate_left
  ·show Act.put _ (some 25) _ = _
   simp only [Act.put, List.setIfInBounds_toArray, List.set_cons_zero, List.set_cons_succ, i64_w, i32_w]
   rfl
  refine one_ (i := 11) (N := some 26) #[true, true, true, true, true, true, true, true, true, true, true, true, false, false, false, false, false] rfl rfl (one_of HT_.out (by kernel_rfl)) (by decide) (fun K hK => ?_)
  refine goes_ Try.func31 (by kernel_rfl) rfl #[.slice Ao28 y537.length co28] (by rfl) rfl rfl (aq) ?_
  with_reducible refine (slices_Concat_Line.calls _ _ y537 t540 _ ?side1 ?side2 A9.out).mono ?_
  (case side1 => exact cq (Kd.N_reads' HO539.out).2.2)
  (case side2 => exact (Kd.N_reads' HO539.out).2.1)
  rintro e w29 ⟨v541, rfl, ho0, hb⟩
  refine ⟨_, rfl, ?_⟩
  have HO542 := am (Kd.R_lower ho0 (below_size (Y2)))
  replace HO539 := am (Kd.N_elder' (by (with_reducible repeat (first | apply Kd.N_alloc | apply Kd.N_drewN | apply Kd.N_drew)); exact HO539.out) (Kd.R_base ho0) hb)
  replace BK523 := am (blk_below (g := gb523) (o := .cells #[.slice A0_0 l0_0.length c0_0] 33 (0, 0)) (kq BK523.out) hb)
  replace HB := am (below_step (Y2) hb)
  (try clear hb)
  (try clear hb2)
  (try clear hk)
  (try clear hi)
  (try clear ho0)
  obtain ⟨Ao30, co30, eo30⟩ := Kd.R_slice HO542.out
  (first | subst eo30 | (injection eo30 with f1_ f2_ f3_; have f4_ := f1_.symm; have f5_ := f3_.symm; clear f1_ f2_ f3_; subst f4_; subst f5_))
  refine hK.out _ _ ((blk_cell BK523.out 0).trans rfl) (fun hHeld => ?_)
  clear hK K
  refine norm_ (a' := ?_) ?_ ?_
  rotate_left
  ·show Act.put _ (some 26) _ = _
   simp only [Act.put, List.setIfInBounds_toArray, List.set_cons_zero, List.set_cons_succ, i64_w, i32_w]
   rfl
  refine one_ (i := 12) (N := some 27) #[true, true, true, true, true, true, true, true, true, true, true, true, true, false, false, false, false] rfl rfl (one_of HT_.out (by kernel_rfl)) (by decide) (fun K hK => ?_)
  refine goes_ Try.func30 (by kernel_rfl) rfl #[.agg #[.slice A0_0 l0_0.length c0_0], .slice Ao30 t540.length co30] (by rfl) rfl rfl (aq) ?_
  with_reducible refine (impl_programMade.calls k _ _ l0_0 (fun k_ => some k_ = (.slice Ao30 t540.length co30 : Value).ownBlock) (.slice Ao30 t540.length co30) t540 t543 t546 w _ ?side1 ?side2 ?side3 ?side4 A10.out).mono ?_
  (case side1 => exact Y2)
  (case side2 => exact Kd.C_kept_came k63_heap HR0_0.out (Y2) (fun k_ hs_ => (fun e_ => Kd.R_base HO542.out k_ e_.symm) hs_))
  (case side3 => exact HC0_0.out)
  (case side4 => exact Kd.R_tight rfl HO542.out)
  rintro e w31 ⟨v544, rfl, ho0, hb, hkp⟩
  refine ⟨_, rfl, ?_⟩
  have n0_ := am (blk_kept (kq BK523.out) hkp (fun hs_ => (fun e_ => (Kd.R_ne HO542.out BK523.out (by decide)) e_) hs_))
  have n1_ := am (Kd.N_mono (ok' := fun k_ => k_ ≠ gb523 ∧ some k_ ≠ (v544 : Value).ownBlock) (Kd.N_keptB (HO539.out) hkp (fun k_ hk_ hs_ => (hk_.2) hs_)) (fun k_ hk_ => ⟨hk_.1.1, fun e_ => Or.elim (ho0.1 k_ e_.symm) (fun hs_ => hk_.2.1 hs_) (fun hn_ => Nat.not_le.2 hk_.2.2 hn_)⟩))
  have n2_ := am (Kd.R_mono (ok' := fun k_ => True) ho0 (fun k_ hk_ => trivial))
  have n3_ := am (hb)
  clear BK523
  clear HO539
  clear HB
  clear HO542
  have BK523 := n0_
  have HO539 := n1_
  have HO545 := n2_
  have HB := n3_
  clear n0_ n1_ n2_ n3_
  (try clear hb)
  (try clear hkp)
  (try clear ho0)
  refine hK.out _ _ ((blk_cell BK523.out 0).trans rfl) (fun hHeld => ?_)
  clear hK K
  refine norm_ (a' := ?_) ?_ ?_
  rotate_left
  ·show Act.put _ (some 27) _ = _
   simp only [Act.put, List.setIfInBounds_toArray, List.set_cons_zero, List.set_cons_succ, i64_w, i32_w]
   rfl
  refine pq (i := 13) (N := some 28) #[true, true, true, true, true, true, true, true, true, true, true, true, true, true, false, false, false] ?_
  refine pq (i := 14) (N := some 29) #[true, true, true, true, true, true, true, true, true, true, true, true, true, true, true, false, false] ?_
  refine pq (i := 15) (N := some 8) #[true, true, true, true, true, true, true, true, true, true, true, true, true, true, true, true, false] ?_
  refine pq (i := 16) (N := some 9) #[true, true, true, true, true, true, true, true, true, true, true, true, true, true, true, true, true] ?_
  refine done_ (done_of HT_.out (by kernel_rfl)) ?_
  try go_wp2
  go_ret2
  exact ⟨_, Y1, rq HO545.out, Y2⟩
 ·replace c6 := Bool.eq_false_iff.mpr c6
  subst c6
  have H1 : (some (([] : List (S50)), false)) = some (r1, r2) := by rw [if_neg (show ¬ (false = true) by decide)] at H; exact H
  clear H
  have H := H1
  clear H1
  simp only [Option.some.injEq, Prod.mk.injEq] at H
  obtain ⟨rfl, rfl⟩ := H
  go_enter Try.func21, Try.ntmps21
  go_wp2_with (first | ((with_reducible refine gate_dst (N := 4) rfl ?_); refine bE (N := 4) (cs := #[.slice A0_0 l0_0.length c0_0]) (t := 33) ?_; intro gb523 hg w32 hbox hb; have BK523 := am (hbox); have GW523 := am ((Y0 : w.heap.size ≤ gb523)); have GE523 := am ((Y0 : w.heap.size ≤ gb523)); replace HB := am (below_step (bq) hb); clear hb hbox hg; have hcz33_0 := bc0 BK523.out; have hfz33_0 := blk_frozen BK523.out 0) | ((with_reducible refine gate_callee (f := 29) rfl ?_); refine gL (some 13) Try.func29 #[.agg #[.slice A0_0 l0_0.length c0_0], .slice A1 l1.length c1, .slice A3 l3.length c3] ?_; (with_reducible refine (impl_bothValid.calls k _ _ l0_0 _ _ l1 _ _ l3 false _ ?side1 ?side2 ?side3 ?side4 ?side5 ?side6 A5.out).mono ?_); (case side1 => exact cq (Kd.C_below HR0_0.out HB.out)); (case side2 => exact HC0_0.out); (case side3 => exact cq (Kd.C_below HR1.out HB.out)); (case side4 => exact HC1.out); (case side5 => exact cq (Kd.C_below HR3.out HB.out)); (case side6 => exact HC3.out); rintro e w34 ⟨rfl, hb⟩; refine ⟨_, rfl, ?_⟩; replace BK523 := am (blk_below (g := gb523) (o := .cells #[.slice A0_0 l0_0.length c0_0] 33 (0, 0)) (kq BK523.out) hb); replace HB := am (below_step (Y2) hb); (try clear hb); (try clear hb2); (try clear hk); (try clear hi)))
  go_ret2
  exact ⟨_, Y1, Y28, Y2⟩
end Go.Proofs.Ytgbigghiegiejaa.P
end
