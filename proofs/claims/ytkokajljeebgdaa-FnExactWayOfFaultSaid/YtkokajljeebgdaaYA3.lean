/- One part of the proofs on this program: functions of the program as plain functions, that the code comes to them, and facts on them. -/
import Derived.Test.YtkokajljeebgdaaYA2
import Derived.Test.YtkokajljeebgdaaYAB1
import Derived.Test.YtkokajljeebgdaaYAB2
import Derived.Test.YtkokajljeebgdaaYACDE1
import Derived.Test.YtkokajljeebgdaaYAE1
import Derived.Test.YtkokajljeebgdaaYAll1
import Derived.Test.YtkokajljeebgdaaYAll2
import Derived.Test.YtkokajljeebgdaaYWAuto
section
namespace Go.Proofs.Ytkokajljeebgdaa.P
open Go.RowKit Go.Proofs.YtkokajljeebgdaaW.PrintWords Go.Proofs.YtkokajljeebgdaaW.PrintLast Go.Proofs.YtkokajljeebgdaaW.PrintMore
attribute [local go_sem] max2_int min2_int max_two min_two max_three min_three max_four min_four isSome_cell_setCell
set_option linter.unusedVariables false
set_option linter.unusedSimpArgs false
mutual
def impl_way.l0 : Nat → List (S52) → Int → List Int → List Int → Int → Int → Option (List Int)
 | 0, _, _, _, _, _, _ => none
 | k + 1, x0, x2, x7, x15, x16, x17 => if x17 < x16 then (if 0 ≤ x17 then (if x17 < (x15.length : Int) then (if (rd x15 x17) = x2 then ((slices_Clip_int_int.f x7).bind fun t396 => (some t396)) else (if 0 ≤ (rd x15 x17) then (if (rd x15 x17) < (x0.length : Int) then (if ((rd_T52 x0 (rd x15 x17)).f1) = 11 then (if x7.length < 17592186044416 then (impl_way.l0 k x0 x2 (x7 ++ [rd x15 x17]) x15 x16 (wrap64 (x17 + 1))) else (none)) else (if ((rd_T52 x0 (rd x15 x17)).f1) = 7 then (impl_way.j1 k x0 x2 x7 (rd x15 x17) x15 x16 x17 (((rd_T52 x0 (rd x15 x17)).f1) == 7)) else (if ((rd_T52 x0 (rd x15 x17)).f1) = 8 then (impl_way.j1 k x0 x2 x7 (rd x15 x17) x15 x16 x17 (((rd_T52 x0 (rd x15 x17)).f1) == 8)) else (impl_way.j1 k x0 x2 x7 (rd x15 x17) x15 x16 x17 (((rd_T52 x0 (rd x15 x17)).f1) == 9))))) else (none)) else (none))) else (none)) else (none)) else ((slices_Clip_int_int.f x7).bind fun t392 => (some t392))
def impl_way.j1 : Nat → List (S52) → Int → List Int → Int → List Int → Int → Int → Bool → Option (List Int)
 | 0, _, _, _, _, _, _, _, _ => none
 | k + 1, x0, x2, x7, x9, x15, x16, x17, x35 => if x35 = true then ((impl_tryOf.f k x0 x9).bind fun t403 => (if 0 ≤ (wrap64 ((t403.length : Int) - 1)) then (if (wrap64 ((t403.length : Int) - 1)) < (t403.length : Int) then (if 0 ≤ (rd t403 (wrap64 ((t403.length : Int) - 1))) then (if (rd t403 (wrap64 ((t403.length : Int) - 1))) < (x0.length : Int) then (if ((rd_T52 x0 (rd t403 (wrap64 ((t403.length : Int) - 1)))).f1) = 10 then (if x7.length < 17592186044416 then (impl_way.l0 k x0 x2 (x7 ++ [rd t403 (wrap64 ((t403.length : Int) - 1))]) x15 x16 (wrap64 (x17 + 1))) else (none)) else (impl_way.l0 k x0 x2 x7 x15 x16 (wrap64 (x17 + 1)))) else (none)) else (none)) else (none)) else (none))) else (impl_way.l0 k x0 x2 x7 x15 x16 (wrap64 (x17 + 1)))
end
def impl_way.f (k : Nat) (l0 : List (S52)) (a1 : Int) (a2 : Int) : Option (List Int) := (impl_enclosing.f k l0 a1).bind fun t389 => (impl_way.l0 k l0 a2 (([] : List Int)) t389 (t389.length : Int) 0)
set_option maxHeartbeats 8000000 in
set_option maxRecDepth 100000 in
theorem impl_way.calls (k : Nat) (A0 : Option Addr) (c0 : Nat) (l0 : List (S52)) (a1 : Int) (a2 : Int) (r : List Int) (w : World) (hr0 : Kd.C k52 w A0 l0.length l0) (hc0 : l0.length ≤ c0) (h : impl_way.f k l0 a1 a2 = some r) :
  Calls Try.prog 51 #[.slice A0 l0.length c0, .int .i64 a1, .int .i64 a2] w fun e w' => ∃ v0_ : Value, e = .returned (v0_) ∧ Kd.R (Kd.int .i64) 3 w' w.heap.size (fun _ => True) v0_ r ∧ Below w.heap.size w w' := by
 have HR0 := am hr0
 have HC0 := am hc0
 clear hr0 hc0
 have HB := am (Below.refl w.heap.size w)
 have H : ((impl_enclosing.f k l0 a1).bind fun t389 => (impl_way.l0 k l0 a2 (([] : List Int)) t389 (t389.length : Int) 0)) = some r := h
 clear h
 obtain ⟨y386, hy386⟩ : ∃ y_ : List Int, y_ = (([] : List Int)) := ⟨_, rfl⟩
 replace H : ((impl_enclosing.f k l0 a1).bind fun t389 => (impl_way.l0 k l0 a2 y386 t389 (t389.length : Int) 0)) = some r := by first | (rw [hy386]; with_reducible exact H) | (have H2_ := (Option.bind_some _ _).symm.trans H; rw [hy386]; with_reducible exact H2_) | (have H2_ := (Option.bind_some _ _).symm.trans H; with_reducible exact H2_) | with_reducible exact H | (rw [hy386]; exact H) | exact H
 have Ny386 := am hy386
 clear hy386
 replace H := Option.bind_eq_some_iff.mp H
 obtain ⟨t389, A40, H⟩ := H
 replace H : (impl_way.l0 k l0 a2 y386 t389 (t389.length : Int) 0) = some r := H
 have A4 := am A40
 clear A40
 have H' := am H
 clear H
 go_enter Try.func51, Try.ntmps51
 go_wp2_with (first | ((with_reducible refine gate_dst (N := 12) rfl ?_); refine Kd.R_lit (Kd.int .i64) _ 3 ?hg (N := 12) ?hd (xs := ([] : List Int)) (inner := []) (ok := fun _ => True) (okp := fun _ => True) ?hr ?hp (fun _ hk => hk) trivial (Below.refl _ _) (Nat.le_refl _) (by simp) ?_; (case hd => rfl); (case hg => rfl); (case hr => exact q2); (case hp => exact (Reps.none _ _)); intro v387 w5 ho6 hb hg_ hnew_; clear hg_ hnew_; (first | rw [← Ny386.out] at ho6 | (simp only [Int.reduceToNat] at ho6; rw [← Ny386.out] at ho6)); have HO388 := am (Kd.R_lower ho6 (below_size (bq))); replace HB := am (below_step (bq) hb); clear hb ho6) | ((with_reducible refine gate_callee (f := 62) rfl ?_); refine goesL_ (some 15) rfl rfl Try.func62 (by kernel_rfl) rfl #[.slice A0 l0.length c0, .int .i64 a1] rfl (aq) ?_; (with_reducible refine (impl_enclosing.calls k _ _ l0 a1 t389 _ ?side1 ?side2 A4.out).mono ?_); (case side1 => exact cq (Kd.C_below HR0.out HB.out)); (case side2 => exact HC0.out); rintro e w7 ⟨v390, rfl, ho0, hb⟩; refine ⟨_, rfl, ?_⟩; have HO391 := am (Kd.R_lower (Kd.R_new' ho0 (Kd.R_lt (rq HO388.out))) (below_size (bq))); replace HO388 := am (Kd.R_elder' (rq HO388.out) (Kd.R_base ho0) hb); replace HB := am (below_step (bq) hb); (try clear hb); (try clear hb2); (try clear hk); (try clear hi); (try clear ho0); obtain ⟨Ao8, co8, eo8⟩ := Kd.R_slice HO391.out; subst eo8))
 go_loopg [7, 17] k (fun kq v7 v17 w' => ∃ (x7_1 : List Int) (x17_1 : Int), v17 = .int .i64 x17_1 ∧ Aside0 (impl_way.l0 kq l0 a2 x7_1 t389 (t389.length : Int) x17_1 = some r) ∧ Aside0 (kq ≤ k) ∧ Aside0 (Kd.R (Kd.int .i64) 3 w' w.heap.size (fun k_ => some k_ ≠ ((.slice Ao8 t389.length co8) : Value).ownBlock) v7 x7_1) ∧ Aside0 (Kd.R (Kd.int .i64) 3 w' w.heap.size (fun k_ => some k_ ≠ (v7 : Value).ownBlock) (.slice Ao8 t389.length co8) t389) ∧ Aside0 (Below w.heap.size w w'))
 case atStart => exact ⟨(y386), (0), (sq), H', ⟨Nat.le_refl _⟩, ⟨by (with_reducible repeat (first | apply Kd.R_alloc | apply Kd.R_drewN | apply Kd.R_drew)); exact Kd.R_mono HO388.out (fun _ hk => hk.2)⟩, ⟨by (with_reducible repeat (first | apply Kd.R_alloc | apply Kd.R_drewN | apply Kd.R_drew)); exact Kd.R_mono HO391.out (fun _ hk => hk.2)⟩, ⟨bq⟩⟩
 case round =>
  clear H'
  try clear p2
  try clear c5
  try clear c6
  obtain ⟨x7_1, x17_1, rfl, HA, HK1, HO_7, HO_15, HB⟩ := hrel
  cases gk with
  | zero => exact absurd HA.out (by simp [impl_way.l0])
  | succ k1 =>
   have H := HA.out
   clear HA
   simp only [impl_way.l0] at H
   by_cases c9 : x17_1 < (t389.length : Int)
   ·rw [if_pos c9] at H
    have c9b0 : decide (x17_1 < (t389.length : Int)) = true := decide_eq_true c9
    clear c9
    by_cases c10 : 0 ≤ x17_1
    ·rw [if_pos c10] at H
     have c10b0 : decide (0 ≤ x17_1) = true := decide_eq_true c10
     clear c10
     by_cases c11 : x17_1 < (t389.length : Int)
     ·rw [if_pos c11] at H
      have c11b0 : decide (x17_1 < (t389.length : Int)) = true := decide_eq_true c11
      clear c11
      by_cases c12 : (rd t389 x17_1) = a2
      ·rw [if_pos c12] at H
       have c12b0 : ((rd t389 x17_1) == a2) = true := beq_iff_eq.mpr c12
       have c12b1 : ((rd t389 x17_1) != a2) = false := bne_eq_false_iff_eq.mpr c12
       clear c12
       replace H := Option.bind_eq_some_iff.mp H
       obtain ⟨t396, A130, H⟩ := H
       replace H : (some t396) = some r := H
       have A13 := am A130
       clear A130
       obtain rfl := Option.some.inj H
       have p395 : 0 ≤ (x17_1 : Int) := of_decide_eq_true (uq)
       have q395 : x17_1 < (t389.length : Int) := of_decide_eq_true (uq)
       obtain ⟨ad395, e395, hx395_0⟩ := Kd.at_int (Kd.R_reads' HO_15.out).2.2 x17_1 p395 q395
       cases e395
       replace p395 := eq_true p395
       replace q395 := eq_true q395
       obtain ⟨Ao14, co14, eo14⟩ := Kd.R_slice HO_7.out
       subst eo14
       go_wp2_with (first | ((with_reducible refine gate_callee (f := 82) rfl ?_); refine goesL_ (some 60) rfl rfl Try.func82 (by kernel_rfl) rfl #[.slice Ao14 x7_1.length co14] rfl (aq) ?_; (with_reducible refine (slices_Clip_int_int.calls (fun k_ => some k_ = (.slice Ao14 x7_1.length co14 : Value).ownBlock) (.slice Ao14 x7_1.length co14) x7_1 t396 w _ ?side1 ?side2 A13.out).mono ?_); (case side1 => exact q79); (case side2 => exact Kd.R_tight rfl HO_7.out); rintro e w15 ⟨v397, rfl, ho0, hb, hkp⟩; refine ⟨_, rfl, ?_⟩; have n0_ := am (Kd.R_mono (ok' := fun k_ => some k_ ≠ (v397 : Value).ownBlock) (Kd.R_keptB (HO_15.out) hkp (fun k_ hk_ hs_ => (hk_) hs_)) (fun k_ hk_ => fun e_ => Or.elim (ho0.1 k_ e_.symm) (fun hs_ => hk_.2.1 hs_) (fun hn_ => Nat.not_le.2 hk_.2.2 hn_))); have n1_ := am (Kd.R_mono (ok' := fun k_ => some k_ ≠ (.slice (some ad395) t389.length co8 : Value).ownBlock) ho0 (fun k_ hk_ => Or.elim hk_ (fun hs_ => fun e_ => (((HO_15.out).1 k_ e_.symm)) hs_) (fun hn_ => (Kd.fresh' (Kd.R_lt (rq HO_15.out)) k_ hn_)))); have n2_ := am (hb); clear HO_15 HB HO_7; have HO_15 := n0_; have HO398 := n1_; have HB := n2_; clear n0_ n1_ n2_; (try clear hb); (try clear hkp); (try clear ho0)))
       go_ret
       exact ⟨_, q0, by (with_reducible repeat (first | apply Kd.R_alloc | apply Kd.R_drewN | apply Kd.R_drew)); exact Kd.R_mono HO398.out (fun _ hk => trivial), bq⟩
      ·rw [if_neg c12] at H
       have c12b0 : ((rd t389 x17_1) == a2) = false := beq_eq_false_iff_ne.mpr c12
       have c12b1 : ((rd t389 x17_1) != a2) = true := bne_iff_ne.mpr c12
       by_cases c16 : 0 ≤ (rd t389 x17_1)
       ·rw [if_pos c16] at H
        have c16b0 : decide (0 ≤ (rd t389 x17_1)) = true := decide_eq_true c16
        clear c16
        by_cases c17 : (rd t389 x17_1) < (l0.length : Int)
        ·rw [if_pos c17] at H
         have c17b0 : decide ((rd t389 x17_1) < (l0.length : Int)) = true := decide_eq_true c17
         clear c17
         by_cases c18 : ((rd_T52 l0 (rd t389 x17_1)).f1) = 11
         ·rw [if_pos c18] at H
          have c18b0 : (((rd_T52 l0 (rd t389 x17_1)).f1) == 11) = true := beq_iff_eq.mpr c18
          have c18b1 : (((rd_T52 l0 (rd t389 x17_1)).f1) != 11) = false := bne_eq_false_iff_eq.mpr c18
          clear c18
          by_cases c19 : x7_1.length < 17592186044416
          ·rw [if_pos c19] at H
           have LMc19 := am c19
           clear c19
           obtain ⟨y400, hy400⟩ : ∃ y_ : List Int, y_ = (x7_1 ++ [rd t389 x17_1]) := ⟨_, rfl⟩
           replace H : (impl_way.l0 k1 l0 a2 y400 t389 (t389.length : Int) (wrap64 (x17_1 + 1))) = some r := by first | (rw [hy400]; with_reducible exact H) | (have H2_ := (Option.bind_some _ _).symm.trans H; rw [hy400]; with_reducible exact H2_) | (have H2_ := (Option.bind_some _ _).symm.trans H; with_reducible exact H2_) | with_reducible exact H | (rw [hy400]; exact H) | exact H
           have Ny400 := am hy400
           clear hy400
           have H' := am H
           clear H
           have p395 : 0 ≤ (x17_1 : Int) := of_decide_eq_true (uq)
           have q395 : x17_1 < (t389.length : Int) := of_decide_eq_true (uq)
           obtain ⟨ad395, e395, hx395_0⟩ := Kd.at_int (Kd.R_reads' HO_15.out).2.2 x17_1 p395 q395
           cases e395
           replace p395 := eq_true p395
           replace q395 := eq_true q395
           have p399 : 0 ≤ ((rd t389 x17_1) : Int) := of_decide_eq_true (uq)
           have q399 : (rd t389 x17_1) < (l0.length : Int) := of_decide_eq_true (uq)
           obtain ⟨ad399, e399, hx399_0, hx399_1, hx399_2, hx399_3⟩ := at_T52 HR0.out (rd t389 x17_1) p399 q399
           cases e399
           replace hx399_0 := cb HB.out hx399_0
           replace hx399_1 := cb HB.out hx399_1
           replace hx399_2 := cb HB.out hx399_2
           replace hx399_3 := cb HB.out hx399_3
           replace p399 := eq_true p399
           replace q399 := eq_true q399
           go_wp2_with (first | ((with_reducible refine gate_builtin (b := .append) (xs := #[.tmp 31, .tmp 33]) rfl ?_); at_builtin; refine Kd.R_append (Kd.int .i64) (w0 := w) w.heap.size rfl (.tmp 31) (.tmp 33) 28 3 (.int .i64 0) 8 rfl Try.underlying28 info3 rfl (by decide) (by omega) u7 x7_1 (rd t389 x17_1) [.int .i64 (rd t389 x17_1)] (fun k_ => some k_ ≠ (.slice (some ad395) t389.length co8 : Value).ownBlock) (fun _ => False) rfl rfl ?aP (fun _ hk => hk.elim) ?aF ?aO ?aB ?aS ?aL ?_; (case aP => exact rfl); (case aB => exact (bq)); (case aF => exact (fun k_ hk => Kd.fresh' (Kd.R_lt (rq HO_15.out)) k_ hk)); (case aO => exact (rq HO_7.out)); (case aS => exact (below_size (bq))); (case aL => have := LMc19.out; omega); intro v401 w20 ho hb hg hat; rw [← Ny400.out] at ho; have n0_ := am (Kd.R_after (ok := (fun _ => True)) (by (with_reducible repeat (first | apply Kd.R_alloc | apply Kd.R_drewN | apply Kd.R_drew)); exact Kd.R_mono HO_15.out (fun _ hk => ⟨trivial, hk⟩)) hg hat); have n1_ := am (hb); have n2_ := am (ho); clear HO_15 HB HO_7; have HO_15 := n0_; have HB := n1_; have HO402 := n2_; clear n0_ n1_ n2_ ho hb hg hat))
           go_roundg k1
           case measure => have := HK1.out; omega
           case rel => exact ⟨(y400), (wrap64 (x17_1 + 1)), (sq), H', ⟨by have := HK1.out; omega⟩, ⟨rq HO402.out⟩, ⟨by (with_reducible repeat (first | apply Kd.R_alloc | apply Kd.R_drewN | apply Kd.R_drew)); exact Kd.R_mono HO_15.out (fun _ hk => hk.2)⟩, ⟨bq⟩⟩
          ·rw [if_neg c19] at H
           exact absurd H (by simp)
         ·rw [if_neg c18] at H
          have c18b0 : (((rd_T52 l0 (rd t389 x17_1)).f1) == 11) = false := beq_eq_false_iff_ne.mpr c18
          have c18b1 : (((rd_T52 l0 (rd t389 x17_1)).f1) != 11) = true := bne_iff_ne.mpr c18
          have HC21 := am H
          clear H
          have p395 : 0 ≤ (x17_1 : Int) := of_decide_eq_true (uq)
          have q395 : x17_1 < (t389.length : Int) := of_decide_eq_true (uq)
          obtain ⟨ad395, e395, hx395_0⟩ := Kd.at_int (Kd.R_reads' HO_15.out).2.2 x17_1 p395 q395
          cases e395
          replace p395 := eq_true p395
          replace q395 := eq_true q395
          have p399 : 0 ≤ ((rd t389 x17_1) : Int) := of_decide_eq_true (uq)
          have q399 : (rd t389 x17_1) < (l0.length : Int) := of_decide_eq_true (uq)
          obtain ⟨ad399, e399, hx399_0, hx399_1, hx399_2, hx399_3⟩ := at_T52 HR0.out (rd t389 x17_1) p399 q399
          cases e399
          replace hx399_0 := cb HB.out hx399_0
          replace hx399_1 := cb HB.out hx399_1
          replace hx399_2 := cb HB.out hx399_2
          replace hx399_3 := cb HB.out hx399_3
          replace p399 := eq_true p399
          replace q399 := eq_true q399
          go_upto_if 35 with (fail)
          go_cut [35] (fun v35 wc => ∃ (kq : Nat) (x35_20 : Bool), v35 = .bool x35_20 ∧ Aside0 (impl_way.j1 kq l0 a2 x7_1 (rd t389 x17_1) t389 (t389.length : Int) x17_1 x35_20 = some r) ∧ Aside0 (kq ≤ k1) ∧ Aside0 (Kd.R (Kd.int .i64) 3 wc w.heap.size (fun k_ => some k_ ≠ ((.slice (some ad395) t389.length co8) : Value).ownBlock) u7 x7_1) ∧ Aside0 (Kd.R (Kd.int .i64) 3 wc w.heap.size (fun k_ => some k_ ≠ (u7 : Value).ownBlock) (.slice (some ad395) t389.length co8) t389) ∧ Aside0 (Below w.heap.size w wc))
          case first =>
           have H := HC21.out
           clear HC21
           by_cases c22 : ((rd_T52 l0 (rd t389 x17_1)).f1) = 7
           ·rw [if_pos c22] at H
            have c22b0 : (((rd_T52 l0 (rd t389 x17_1)).f1) == 7) = true := beq_iff_eq.mpr c22
            have c22b1 : (((rd_T52 l0 (rd t389 x17_1)).f1) != 7) = false := bne_eq_false_iff_eq.mpr c22
            clear c22
            (first | rw [c22b0] | (simp only [i64_w, i32_w]; rw [c22b0]) | skip)
            have H' := am H
            clear H
            go_wp2
            go_meet
            case rel => exact ⟨_, ((((rd_T52 l0 (rd t389 x17_1)).f1) == 7)), (sq), H', ⟨by have := HK1.out; first | omega | exact Nat.le_refl _⟩, ⟨rq HO_7.out⟩, ⟨rq HO_15.out⟩, ⟨bq⟩⟩
           ·rw [if_neg c22] at H
            have c22b0 : (((rd_T52 l0 (rd t389 x17_1)).f1) == 7) = false := beq_eq_false_iff_ne.mpr c22
            have c22b1 : (((rd_T52 l0 (rd t389 x17_1)).f1) != 7) = true := bne_iff_ne.mpr c22
            (first | rw [c22b0] | (simp only [i64_w, i32_w]; rw [c22b0]) | skip)
            by_cases c23 : ((rd_T52 l0 (rd t389 x17_1)).f1) = 8
            ·rw [if_pos c23] at H
             have c23b0 : (((rd_T52 l0 (rd t389 x17_1)).f1) == 8) = true := beq_iff_eq.mpr c23
             have c23b1 : (((rd_T52 l0 (rd t389 x17_1)).f1) != 8) = false := bne_eq_false_iff_eq.mpr c23
             clear c23
             have H' := am H
             clear H
             go_wp2
             go_meet
             case rel => exact ⟨_, ((((rd_T52 l0 (rd t389 x17_1)).f1) == 8)), (sq), H', ⟨by have := HK1.out; first | omega | exact Nat.le_refl _⟩, ⟨rq HO_7.out⟩, ⟨rq HO_15.out⟩, ⟨bq⟩⟩
            ·rw [if_neg c23] at H
             have c23b0 : (((rd_T52 l0 (rd t389 x17_1)).f1) == 8) = false := beq_eq_false_iff_ne.mpr c23
             have c23b1 : (((rd_T52 l0 (rd t389 x17_1)).f1) != 8) = true := bne_iff_ne.mpr c23
             have H' := am H
             clear H
             go_wp2
             go_meet
             case rel => exact ⟨_, ((((rd_T52 l0 (rd t389 x17_1)).f1) == 9)), (sq), H', ⟨by have := HK1.out; first | omega | exact Nat.le_refl _⟩, ⟨rq HO_7.out⟩, ⟨rq HO_15.out⟩, ⟨bq⟩⟩
          case rest =>
           clear HC21
           try clear c1
           try clear c2
           try clear p2
           try clear p3
           try clear q3
           try clear hx3
           try clear c5
           try clear c6
           try clear p6
           try clear c8
           try clear c9
           try clear c9b0
           try clear c10
           try clear c10b0
           try clear c11
           try clear c11b0
           try clear c12
           try clear c12b0
           try clear c12b1
           try clear c16
           try clear c16b0
           try clear c17
           try clear c17b0
           try clear c18
           try clear c18b0
           try clear c18b1
           try clear c19
           try clear c22
           try clear c22b0
           try clear c22b1
           try clear c23
           try clear c23b0
           try clear c23b1
           try clear hx395_0
           try clear hx399_0
           try clear hx399_1
           try clear hx399_2
           try clear hx399_3
           try clear p2
           try clear p395
           try clear p399
           try clear q395
           try clear q399
           obtain ⟨kq, x35_20, rfl, HA, HJ20, HO_7, HO_15, HB⟩ := hcut
           cases kq with
           | zero => exact absurd HA.out (by simp [impl_way.j1])
           | succ kj20 =>
            have H := HA.out
            clear HA
            simp only [impl_way.j1] at H
            by_cases c24 : x35_20 = true
            ·subst c24
             have H1 : ((impl_tryOf.f kj20 l0 (rd t389 x17_1)).bind fun t403 => (if 0 ≤ (wrap64 ((t403.length : Int) - 1)) then (if (wrap64 ((t403.length : Int) - 1)) < (t403.length : Int) then (if 0 ≤ (rd t403 (wrap64 ((t403.length : Int) - 1))) then (if (rd t403 (wrap64 ((t403.length : Int) - 1))) < (l0.length : Int) then (if ((rd_T52 l0 (rd t403 (wrap64 ((t403.length : Int) - 1)))).f1) = 10 then (if x7_1.length < 17592186044416 then (impl_way.l0 kj20 l0 a2 (x7_1 ++ [rd t403 (wrap64 ((t403.length : Int) - 1))]) t389 (t389.length : Int) (wrap64 (x17_1 + 1))) else (none)) else (impl_way.l0 kj20 l0 a2 x7_1 t389 (t389.length : Int) (wrap64 (x17_1 + 1)))) else (none)) else (none)) else (none)) else (none))) = some r := by rw [if_pos rfl] at H; exact H
             clear H
             have H := H1
             clear H1
             replace H := Option.bind_eq_some_iff.mp H
             obtain ⟨t403, A250, H⟩ := H
             replace H : (if 0 ≤ (wrap64 ((t403.length : Int) - 1)) then (if (wrap64 ((t403.length : Int) - 1)) < (t403.length : Int) then (if 0 ≤ (rd t403 (wrap64 ((t403.length : Int) - 1))) then (if (rd t403 (wrap64 ((t403.length : Int) - 1))) < (l0.length : Int) then (if ((rd_T52 l0 (rd t403 (wrap64 ((t403.length : Int) - 1)))).f1) = 10 then (if x7_1.length < 17592186044416 then (impl_way.l0 kj20 l0 a2 (x7_1 ++ [rd t403 (wrap64 ((t403.length : Int) - 1))]) t389 (t389.length : Int) (wrap64 (x17_1 + 1))) else (none)) else (impl_way.l0 kj20 l0 a2 x7_1 t389 (t389.length : Int) (wrap64 (x17_1 + 1)))) else (none)) else (none)) else (none)) else (none)) = some r := H
             have A25 := am A250
             clear A250
             obtain ⟨ji26, hji26⟩ : ∃ j_ : Int, (wrap64 ((t403.length : Int) - 1)) = j_ := ⟨_, rfl⟩
             replace H : (if 0 ≤ (ji26) then (if (ji26) < (t403.length : Int) then (if 0 ≤ (rd t403 (ji26)) then (if (rd t403 (ji26)) < (l0.length : Int) then (if ((rd_T52 l0 (rd t403 (ji26))).f1) = 10 then (if x7_1.length < 17592186044416 then (impl_way.l0 kj20 l0 a2 (x7_1 ++ [rd t403 (ji26)]) t389 (t389.length : Int) (wrap64 (x17_1 + 1))) else (none)) else (impl_way.l0 kj20 l0 a2 x7_1 t389 (t389.length : Int) (wrap64 (x17_1 + 1)))) else (none)) else (none)) else (none)) else (none)) = some r := by first | (rw [hji26] at H; exact H) | (simp only [hji26] at H ⊢; exact H)
             (try rw [hji26] at A25)
             have hji26w : (IntKind.i64.wrap ((t403.length : Int) - 1)) = ji26 := (i64_w _).trans hji26
             by_cases c27 : 0 ≤ (ji26)
             ·rw [if_pos c27] at H
              have c27b0 : decide (0 ≤ (ji26)) = true := decide_eq_true c27
              clear c27
              by_cases c28 : (ji26) < (t403.length : Int)
              ·rw [if_pos c28] at H
               have c28b0 : decide ((ji26) < (t403.length : Int)) = true := decide_eq_true c28
               clear c28
               by_cases c29 : 0 ≤ (rd t403 (ji26))
               ·rw [if_pos c29] at H
                have c29b0 : decide (0 ≤ (rd t403 (ji26))) = true := decide_eq_true c29
                clear c29
                by_cases c30 : (rd t403 (ji26)) < (l0.length : Int)
                ·rw [if_pos c30] at H
                 have c30b0 : decide ((rd t403 (ji26)) < (l0.length : Int)) = true := decide_eq_true c30
                 clear c30
                 by_cases c31 : ((rd_T52 l0 (rd t403 (ji26))).f1) = 10
                 ·rw [if_pos c31] at H
                  have c31b0 : (((rd_T52 l0 (rd t403 (ji26))).f1) == 10) = true := beq_iff_eq.mpr c31
                  have c31b1 : (((rd_T52 l0 (rd t403 (ji26))).f1) != 10) = false := bne_eq_false_iff_eq.mpr c31
                  clear c31
                  by_cases c32 : x7_1.length < 17592186044416
                  ·rw [if_pos c32] at H
                   have LMc32 := am c32
                   clear c32
                   obtain ⟨y408, hy408⟩ : ∃ y_ : List Int, y_ = (x7_1 ++ [rd t403 (ji26)]) := ⟨_, rfl⟩
                   replace H : (impl_way.l0 kj20 l0 a2 y408 t389 (t389.length : Int) (wrap64 (x17_1 + 1))) = some r := by first | (rw [hy408]; with_reducible exact H) | (have H2_ := (Option.bind_some _ _).symm.trans H; rw [hy408]; with_reducible exact H2_) | (have H2_ := (Option.bind_some _ _).symm.trans H; with_reducible exact H2_) | with_reducible exact H | (rw [hy408]; exact H) | exact H
                   have Ny408 := am hy408
                   clear hy408
                   have H' := am H
                   clear H
                   go_wp2_with (first | ((with_reducible refine gate_callee (f := 72) rfl ?_); refine goesL_ (some 41) rfl rfl Try.func72 (by kernel_rfl) rfl #[.slice (some ad399) l0.length c0, .int .i64 (rd t389 x17_1)] rfl (aq) ?_; (with_reducible refine (impl_tryOf.calls kj20 _ _ l0 (rd t389 x17_1) t403 _ ?side1 ?side2 A25.out).mono ?_); (case side1 => exact cq (Kd.C_below HR0.out HB.out)); (case side2 => exact HC0.out); rintro e w33 ⟨v404, rfl, ho0, hb⟩; refine ⟨_, rfl, ?_⟩; have HO405 := am (Kd.R_lower (Kd.R_new' (Kd.R_new' ho0 (Kd.R_lt (rq HO_7.out))) (Kd.R_lt (rq HO_15.out))) (below_size (bq))); replace HO_7 := am (Kd.R_elder' (rq HO_7.out) (Kd.R_base ho0) hb); replace HO_15 := am (Kd.R_elder' (rq HO_15.out) (Kd.R_base ho0) hb); replace HB := am (below_step (bq) hb); (try clear hb); (try clear hb2); (try clear hk); (try clear hi); (try clear ho0); obtain ⟨Ao34, co34, eo34⟩ := Kd.R_slice HO405.out; subst eo34; have p406 : 0 ≤ ((ji26) : Int) := of_decide_eq_true (uq); have q406 : (ji26) < (t403.length : Int) := of_decide_eq_true (uq); obtain ⟨ad406, e406, hx406_0⟩ := Kd.at_int (Kd.R_reads' HO405.out).2.2 (ji26) p406 q406; cases e406; replace p406 := eq_true p406; replace q406 := eq_true q406; have p407 : 0 ≤ ((rd t403 (ji26)) : Int) := of_decide_eq_true (uq); have q407 : (rd t403 (ji26)) < (l0.length : Int) := of_decide_eq_true (uq); obtain ⟨ad407, e407, hx407_0, hx407_1, hx407_2, hx407_3⟩ := at_T52 HR0.out (rd t403 (ji26)) p407 q407; obtain rfl : ad399 = ad407 := (by injection e407); replace hx407_0 := cb HB.out hx407_0; replace hx407_1 := cb HB.out hx407_1; replace hx407_2 := cb HB.out hx407_2; replace hx407_3 := cb HB.out hx407_3; replace p407 := eq_true p407; replace q407 := eq_true q407) | ((with_reducible refine gate_builtin (b := .append) (xs := #[.tmp 54, .tmp 56]) rfl ?_); at_builtin; refine Kd.R_append (Kd.int .i64) (w0 := w) w.heap.size rfl (.tmp 54) (.tmp 56) 28 3 (.int .i64 0) 8 rfl Try.underlying28 info3 rfl (by decide) (by omega) u7 x7_1 (rd t403 (ji26)) [.int .i64 (rd t403 (ji26))] (fun k_ => some k_ ≠ (.slice (some ad395) t389.length co8 : Value).ownBlock ∧ some k_ ≠ (.slice (some ad406) t403.length co34 : Value).ownBlock) (fun _ => False) rfl rfl ?aP (fun _ hk => hk.elim) ?aF ?aO ?aB ?aS ?aL ?_; (case aP => exact rfl); (case aB => exact (bq)); (case aF => exact (fun k_ hk => ⟨Kd.fresh' (Kd.R_lt (rq HO_15.out)) k_ hk, Kd.fresh' (Kd.R_lt (rq HO405.out)) k_ hk⟩)); (case aO => exact (rq HO_7.out)); (case aS => exact (below_size (bq))); (case aL => have := LMc32.out; omega); intro v409 w35 ho hb hg hat; rw [← Ny408.out] at ho; have n0_ := am (Kd.R_after (ok := (fun k_ => some k_ ≠ (.slice (some ad406) t403.length co34 : Value).ownBlock)) (by (with_reducible repeat (first | apply Kd.R_alloc | apply Kd.R_drewN | apply Kd.R_drew)); exact Kd.R_mono HO_15.out (fun _ hk => ⟨hk.2, hk.1⟩)) hg hat); have n1_ := am (Kd.R_after (ok := (fun k_ => some k_ ≠ (.slice (some ad395) t389.length co8 : Value).ownBlock)) (by (with_reducible repeat (first | apply Kd.R_alloc | apply Kd.R_drewN | apply Kd.R_drew)); exact Kd.R_mono HO405.out (fun _ hk => ⟨hk.2, hk.1.2⟩)) hg hat); have n2_ := am (hb); have n3_ := am (ho); clear HO_15 HO405 HB HO_7; have HO_15 := n0_; have HO405 := n1_; have HB := n2_; have HO410 := n3_; clear n0_ n1_ n2_ n3_ ho hb hg hat))
                   go_roundg kj20
                   case measure => have := HK1.out; have := HJ20.out; omega
                   case rel => exact ⟨(y408), (wrap64 (x17_1 + 1)), (sq), H', ⟨by have := HK1.out; have := HJ20.out; omega⟩, ⟨by (with_reducible repeat (first | apply Kd.R_alloc | apply Kd.R_drewN | apply Kd.R_drew)); exact Kd.R_mono HO410.out (fun _ hk => hk.1)⟩, ⟨by (with_reducible repeat (first | apply Kd.R_alloc | apply Kd.R_drewN | apply Kd.R_drew)); exact Kd.R_mono HO_15.out (fun _ hk => hk.2)⟩, ⟨bq⟩⟩
                  ·rw [if_neg c32] at H
                   exact absurd H (by simp)
                 ·rw [if_neg c31] at H
                  have c31b0 : (((rd_T52 l0 (rd t403 (ji26))).f1) == 10) = false := beq_eq_false_iff_ne.mpr c31
                  have c31b1 : (((rd_T52 l0 (rd t403 (ji26))).f1) != 10) = true := bne_iff_ne.mpr c31
                  have H' := am H
                  clear H
                  go_wp2_with (first | ((with_reducible refine gate_callee (f := 72) rfl ?_); refine goesL_ (some 41) rfl rfl Try.func72 (by kernel_rfl) rfl #[.slice (some ad399) l0.length c0, .int .i64 (rd t389 x17_1)] rfl (aq) ?_; (with_reducible refine (impl_tryOf.calls kj20 _ _ l0 (rd t389 x17_1) t403 _ ?side1 ?side2 A25.out).mono ?_); (case side1 => exact cq (Kd.C_below HR0.out HB.out)); (case side2 => exact HC0.out); rintro e w36 ⟨v404, rfl, ho0, hb⟩; refine ⟨_, rfl, ?_⟩; have HO405 := am (Kd.R_lower (Kd.R_new' (Kd.R_new' ho0 (Kd.R_lt (rq HO_7.out))) (Kd.R_lt (rq HO_15.out))) (below_size (bq))); replace HO_7 := am (Kd.R_elder' (rq HO_7.out) (Kd.R_base ho0) hb); replace HO_15 := am (Kd.R_elder' (rq HO_15.out) (Kd.R_base ho0) hb); replace HB := am (below_step (bq) hb); (try clear hb); (try clear hb2); (try clear hk); (try clear hi); (try clear ho0); obtain ⟨Ao37, co37, eo37⟩ := Kd.R_slice HO405.out; subst eo37; have p406 : 0 ≤ ((ji26) : Int) := of_decide_eq_true (uq); have q406 : (ji26) < (t403.length : Int) := of_decide_eq_true (uq); obtain ⟨ad406, e406, hx406_0⟩ := Kd.at_int (Kd.R_reads' HO405.out).2.2 (ji26) p406 q406; cases e406; replace p406 := eq_true p406; replace q406 := eq_true q406; have p407 : 0 ≤ ((rd t403 (ji26)) : Int) := of_decide_eq_true (uq); have q407 : (rd t403 (ji26)) < (l0.length : Int) := of_decide_eq_true (uq); obtain ⟨ad407, e407, hx407_0, hx407_1, hx407_2, hx407_3⟩ := at_T52 HR0.out (rd t403 (ji26)) p407 q407; obtain rfl : ad399 = ad407 := (by injection e407); replace hx407_0 := cb HB.out hx407_0; replace hx407_1 := cb HB.out hx407_1; replace hx407_2 := cb HB.out hx407_2; replace hx407_3 := cb HB.out hx407_3; replace p407 := eq_true p407; replace q407 := eq_true q407))
                  go_roundg kj20
                  case measure => have := HK1.out; have := HJ20.out; omega
                  case rel => exact ⟨(x7_1), (wrap64 (x17_1 + 1)), (sq), H', ⟨by have := HK1.out; have := HJ20.out; omega⟩, ⟨by (with_reducible repeat (first | apply Kd.R_alloc | apply Kd.R_drewN | apply Kd.R_drew)); exact Kd.R_mono HO_7.out (fun _ hk => hk.1)⟩, ⟨by (with_reducible repeat (first | apply Kd.R_alloc | apply Kd.R_drewN | apply Kd.R_drew)); exact Kd.R_mono HO_15.out (fun _ hk => hk.1)⟩, ⟨bq⟩⟩
                ·rw [if_neg c30] at H
                 exact absurd H (by simp)
               ·rw [if_neg c29] at H
                exact absurd H (by simp)
              ·rw [if_neg c28] at H
               exact absurd H (by simp)
             ·rw [if_neg c27] at H
              exact absurd H (by simp)
            ·replace c24 := Bool.eq_false_iff.mpr c24
             subst c24
             have H1 : (impl_way.l0 kj20 l0 a2 x7_1 t389 (t389.length : Int) (wrap64 (x17_1 + 1))) = some r := by rw [if_neg (show ¬ (false = true) by decide)] at H; exact H
             clear H
             have H := H1
             clear H1
             have H' := am H
             clear H
             go_wp2
             go_roundg kj20
             case measure => have := HK1.out; have := HJ20.out; omega
             case rel => exact ⟨(x7_1), (wrap64 (x17_1 + 1)), (sq), H', ⟨by have := HK1.out; have := HJ20.out; omega⟩, ⟨rq HO_7.out⟩, ⟨rq HO_15.out⟩, ⟨bq⟩⟩
        ·rw [if_neg c17] at H
         exact absurd H (by simp)
       ·rw [if_neg c16] at H
        exact absurd H (by simp)
     ·rw [if_neg c11] at H
      exact absurd H (by simp)
    ·rw [if_neg c10] at H
     exact absurd H (by simp)
   ·rw [if_neg c9] at H
    have c9b0 : decide (x17_1 < (t389.length : Int)) = false := decide_eq_false c9
    clear c9
    replace H := Option.bind_eq_some_iff.mp H
    obtain ⟨t392, A380, H⟩ := H
    replace H : (some t392) = some r := H
    have A38 := am A380
    clear A380
    obtain rfl := Option.some.inj H
    obtain ⟨Ao39, co39, eo39⟩ := Kd.R_slice HO_7.out
    subst eo39
    go_wp2_with (first | ((with_reducible refine gate_callee (f := 82) rfl ?_); refine goesL_ (some 60) rfl rfl Try.func82 (by kernel_rfl) rfl #[.slice Ao39 x7_1.length co39] rfl (aq) ?_; (with_reducible refine (slices_Clip_int_int.calls (fun k_ => some k_ = (.slice Ao39 x7_1.length co39 : Value).ownBlock) (.slice Ao39 x7_1.length co39) x7_1 t392 w _ ?side1 ?side2 A38.out).mono ?_); (case side1 => exact q79); (case side2 => exact Kd.R_tight rfl HO_7.out); rintro e w40 ⟨v393, rfl, ho0, hb, hkp⟩; refine ⟨_, rfl, ?_⟩; have n0_ := am (Kd.R_mono (ok' := fun k_ => some k_ ≠ (v393 : Value).ownBlock) (Kd.R_keptB (HO_15.out) hkp (fun k_ hk_ hs_ => (hk_) hs_)) (fun k_ hk_ => fun e_ => Or.elim (ho0.1 k_ e_.symm) (fun hs_ => hk_.2.1 hs_) (fun hn_ => Nat.not_le.2 hk_.2.2 hn_))); have n1_ := am (Kd.R_mono (ok' := fun k_ => some k_ ≠ (.slice Ao8 t389.length co8 : Value).ownBlock) ho0 (fun k_ hk_ => Or.elim hk_ (fun hs_ => fun e_ => (((HO_15.out).1 k_ e_.symm)) hs_) (fun hn_ => (Kd.fresh' (Kd.R_lt (rq HO_15.out)) k_ hn_)))); have n2_ := am (hb); clear HO_15 HB HO_7; have HO_15 := n0_; have HO394 := n1_; have HB := n2_; clear n0_ n1_ n2_; (try clear hb); (try clear hkp); (try clear ho0)))
    go_ret
    exact ⟨_, q0, by (with_reducible repeat (first | apply Kd.R_alloc | apply Kd.R_drewN | apply Kd.R_drew)); exact Kd.R_mono HO394.out (fun _ hk => trivial), bq⟩
def impl_WayOfFault.j0 : Nat → List (S52) → Int → Int → Bool → List (S87) → Option (List Int)
 | 0, _, _, _, _, _ => none
 | k + 1, x1, x2, x3, x21, x412000 => if x21 = true then (some ([] : List Int)) else ((impl_catcher.f k x412000 x1 x2 x3).bind fun bt414 => ((impl_way.f k x1 x2 bt414.1).bind fun t416 => (some t416)))
def impl_WayOfFault.f (k : Nat) (l0_0 : List (S87)) (l1 : List (S52)) (a2 : Int) (a3 : Int) : Option (List Int) := (impl_lineIn.f k l0_0 l1 a2).bind fun t412 => (if t412 = true then ((impl_Tree_has.f l0_0 a3).bind fun t413 => (impl_WayOfFault.j0 k l1 a2 a3 (!t413) l0_0)) else (impl_WayOfFault.j0 k l1 a2 a3 true l0_0))
set_option maxHeartbeats 8000000 in
set_option maxRecDepth 100000 in
theorem impl_WayOfFault.calls (k : Nat) (A0_0 : Option Addr) (c0_0 : Nat) (l0_0 : List (S87)) (A1 : Option Addr) (c1 : Nat) (l1 : List (S52)) (a2 : Int) (a3 : Int) (r : List Int) (w : World) (hr0_0 : Kd.C k87 w A0_0 l0_0.length l0_0) (hc0_0 : l0_0.length ≤ c0_0) (hr1 : Kd.C k52 w A1 l1.length l1) (hc1 : l1.length ≤ c1) (h : impl_WayOfFault.f k l0_0 l1 a2 a3 = some r) :
  Calls Try.prog 14 #[.agg #[.slice A0_0 l0_0.length c0_0], .slice A1 l1.length c1, .int .i64 a2, .int .i64 a3] w fun e w' => ∃ v0_ : Value, e = .returned (v0_) ∧ Kd.R (Kd.int .i64) 3 w' w.heap.size (fun _ => True) v0_ r ∧ Below w.heap.size w w' := by
 have hu32 := Try.underlying32
 have HR0_0 := am hr0_0
 have HC0_0 := am hc0_0
 clear hr0_0 hc0_0
 have HR1 := am hr1
 have HC1 := am hc1
 clear hr1 hc1
 have HB := am (Below.refl w.heap.size w)
 have H : ((impl_lineIn.f k l0_0 l1 a2).bind fun t412 => (if t412 = true then ((impl_Tree_has.f l0_0 a3).bind fun t413 => (impl_WayOfFault.j0 k l1 a2 a3 (!t413) l0_0)) else (impl_WayOfFault.j0 k l1 a2 a3 true l0_0))) = some r := h
 clear h
 have HC5 := am H
 clear H
 go_enter Try.func14, Try.ntmps14
 go_upto_region 1 with (first | ((with_reducible refine gate_dst (N := 4) rfl ?_); refine bE (N := 4) (cs := #[.slice A0_0 l0_0.length c0_0]) (t := 32) ?_; intro gb411 hg w6 hbox hb; have BK411 := am (hbox); have GW411 := am ((by rw [hg]; exact (below_size (bq)) : w.heap.size ≤ gb411)); have GE411 := am ((by rw [hg]; exact (below_size (bq)) : w.heap.size ≤ gb411)); replace HB := am (below_step (bq) hb); clear hb hbox hg))
 (try simp only [Act.put, List.setIfInBounds_toArray, List.set_cons_zero, List.set_cons_succ])
 go_cut [21] (fun v21 wc => ∃ (kq : Nat) (x21_4 : Bool), v21 = .bool x21_4 ∧ Aside0 (impl_WayOfFault.j0 kq l1 a2 a3 x21_4 l0_0 = some r) ∧ Aside0 (kq ≤ k) ∧ Aside0 (wc.heap[gb411]? = some (.cells #[(.slice A0_0 l0_0.length c0_0)] 32 (0, 0))) ∧ Aside0 (Below w.heap.size w wc))
 case first =>
  have H := HC5.out
  clear HC5
  replace H := Option.bind_eq_some_iff.mp H
  obtain ⟨t412, A70, H⟩ := H
  replace H : (if t412 = true then ((impl_Tree_has.f l0_0 a3).bind fun t413 => (impl_WayOfFault.j0 k l1 a2 a3 (!t413) l0_0)) else (impl_WayOfFault.j0 k l1 a2 a3 true l0_0)) = some r := H
  have A7 := am A70
  clear A70
  by_cases c8 : t412 = true
  ·subst c8
   have H1 : ((impl_Tree_has.f l0_0 a3).bind fun t413 => (impl_WayOfFault.j0 k l1 a2 a3 (!t413) l0_0)) = some r := by rw [if_pos rfl] at H; exact H
   clear H
   have H := H1
   clear H1
   replace H := Option.bind_eq_some_iff.mp H
   obtain ⟨t413, A90, H⟩ := H
   replace H : (impl_WayOfFault.j0 k l1 a2 a3 (!t413) l0_0) = some r := H
   have A9 := am A90
   clear A90
   have H' := am H
   clear H
   have hcz10_0 := bc0 BK411.out
   have hfz10_0 := blk_frozen BK411.out 0
   go_wp2_with (first | ((with_reducible refine gate_callee (f := 48) rfl ?_); refine goesL_ (some 14) rfl rfl Try.func48 (by kernel_rfl) rfl #[.agg #[.slice A0_0 l0_0.length c0_0], .slice A1 l1.length c1, .int .i64 a2] rfl (aq) ?_; (with_reducible refine (impl_lineIn.calls k _ _ l0_0 _ _ l1 a2 true _ ?side1 ?side2 ?side3 ?side4 A7.out).mono ?_); (case side1 => exact cq (Kd.C_below HR0_0.out HB.out)); (case side2 => exact HC0_0.out); (case side3 => exact cq (Kd.C_below HR1.out HB.out)); (case side4 => exact HC1.out); rintro e w11 ⟨rfl, hb⟩; refine ⟨_, rfl, ?_⟩; replace BK411 := am (blk_below (g := gb411) (o := .cells #[.slice A0_0 l0_0.length c0_0] 32 (0, 0)) (kq BK411.out) hb); replace HB := am (below_step (q60) hb); (try clear hb); (try clear hb2); (try clear hk); (try clear hi); have hcz12_0 := bc0 BK411.out; have hfz12_0 := blk_frozen BK411.out 0) | (go_at_call 49; (with_reducible refine (impl_Tree_has.calls _ _ l0_0 a3 t413 _ ?side1 ?side2 A9.out).mono ?_); (case side1 => exact cq (Kd.C_below HR0_0.out HB.out)); (case side2 => exact HC0_0.out); rintro e w13 ⟨rfl, hb⟩; replace BK411 := am (blk_below (g := gb411) (o := .cells #[.slice A0_0 l0_0.length c0_0] 32 (0, 0)) (kq BK411.out) hb); replace HB := am (below_step (q60) hb); (try clear hb); (try clear hb2); (try clear hk); (try clear hi)))
   go_meet
   case rel => exact ⟨_, (!t413), (sq), H', ⟨q16⟩, ⟨kq BK411.out⟩, ⟨q60⟩⟩
  ·replace c8 := Bool.eq_false_iff.mpr c8
   subst c8
   have H1 : (impl_WayOfFault.j0 k l1 a2 a3 true l0_0) = some r := by rw [if_neg (show ¬ (false = true) by decide)] at H; exact H
   clear H
   have H := H1
   clear H1
   have H' := am H
   clear H
   have hcz14_0 := bc0 BK411.out
   have hfz14_0 := blk_frozen BK411.out 0
   go_wp2_with (first | ((with_reducible refine gate_callee (f := 48) rfl ?_); refine goesL_ (some 14) rfl rfl Try.func48 (by kernel_rfl) rfl #[.agg #[.slice A0_0 l0_0.length c0_0], .slice A1 l1.length c1, .int .i64 a2] rfl (aq) ?_; (with_reducible refine (impl_lineIn.calls k _ _ l0_0 _ _ l1 a2 false _ ?side1 ?side2 ?side3 ?side4 A7.out).mono ?_); (case side1 => exact cq (Kd.C_below HR0_0.out HB.out)); (case side2 => exact HC0_0.out); (case side3 => exact cq (Kd.C_below HR1.out HB.out)); (case side4 => exact HC1.out); rintro e w15 ⟨rfl, hb⟩; refine ⟨_, rfl, ?_⟩; replace BK411 := am (blk_below (g := gb411) (o := .cells #[.slice A0_0 l0_0.length c0_0] 32 (0, 0)) (kq BK411.out) hb); replace HB := am (below_step (q60) hb); (try clear hb); (try clear hb2); (try clear hk); (try clear hi)))
   go_meet
   case rel => exact ⟨_, (true), (sq), H', ⟨q16⟩, ⟨kq BK411.out⟩, ⟨q60⟩⟩
 case rest =>
  clear HC5
  try clear c1
  try clear p2
  try clear c4
  try clear c8
  try clear c14
  try clear hcz10_0
  try clear hcz12_0
  try clear hcz14_0
  try clear hfz10_0
  try clear hfz12_0
  try clear hfz14_0
  obtain ⟨kq, x21_4, rfl, HA, HJ4, BK411, HB⟩ := hcut
  cases kq with
  | zero => exact absurd HA.out (by simp [impl_WayOfFault.j0])
  | succ kj4 =>
   have H := HA.out
   clear HA
   simp only [impl_WayOfFault.j0] at H
   by_cases c16 : x21_4 = true
   ·subst c16
    have H1 : (some ([] : List Int)) = some r := by rw [if_pos rfl] at H; exact H
    clear H
    have H := H1
    clear H1
    obtain rfl := Option.some.inj H
    go_wp2
    go_ret
    exact ⟨_, q0, q49, q60⟩
   ·replace c16 := Bool.eq_false_iff.mpr c16
    subst c16
    have H1 : ((impl_catcher.f kj4 l0_0 l1 a2 a3).bind fun bt414 => ((impl_way.f kj4 l1 a2 bt414.1).bind fun t416 => (some t416))) = some r := by rw [if_neg (show ¬ (false = true) by decide)] at H; exact H
    clear H
    have H := H1
    clear H1
    replace H := Option.bind_eq_some_iff.mp H
    obtain ⟨⟨t414, t415⟩, A170, H⟩ := H
    replace H : ((impl_way.f kj4 l1 a2 t414).bind fun t416 => (some t416)) = some r := H
    have A17 := am A170
    clear A170
    replace H := Option.bind_eq_some_iff.mp H
    obtain ⟨t416, A180, H⟩ := H
    replace H : (some t416) = some r := H
    have A18 := am A180
    clear A180
    obtain rfl := Option.some.inj H
    have hcz19_0 := bc0 BK411.out
    have hfz19_0 := blk_frozen BK411.out 0
    go_wp2_with (first | ((with_reducible refine gate_callee (f := 50) rfl ?_); refine goesL_ (some 27) rfl rfl Try.func50 (by kernel_rfl) rfl #[.agg #[.slice A0_0 l0_0.length c0_0], .slice A1 l1.length c1, .int .i64 a2, .int .i64 a3] rfl (aq) ?_; (with_reducible refine (impl_catcher.calls kj4 _ _ l0_0 _ _ l1 a2 a3 t414 t415 _ ?side1 ?side2 ?side3 ?side4 A17.out).mono ?_); (case side1 => exact cq (Kd.C_below HR0_0.out HB.out)); (case side2 => exact HC0_0.out); (case side3 => exact cq (Kd.C_below HR1.out HB.out)); (case side4 => exact HC1.out); rintro e w20 ⟨rfl, hb⟩; refine ⟨_, rfl, ?_⟩; replace BK411 := am (blk_below (g := gb411) (o := .cells #[.slice A0_0 l0_0.length c0_0] 32 (0, 0)) (kq BK411.out) hb); replace HB := am (below_step (q60) hb); (try clear hb); (try clear hb2); (try clear hk); (try clear hi)) | ((with_reducible refine gate_callee (f := 51) rfl ?_); refine goesL_ (some 33) rfl rfl Try.func51 (by kernel_rfl) rfl #[.slice A1 l1.length c1, .int .i64 a2, .int .i64 t414] rfl (aq) ?_; (with_reducible refine (impl_way.calls kj4 _ _ l1 a2 t414 t416 _ ?side1 ?side2 A18.out).mono ?_); (case side1 => exact cq (Kd.C_below HR1.out HB.out)); (case side2 => exact HC1.out); rintro e w21 ⟨v417, rfl, ho0, hb⟩; refine ⟨_, rfl, ?_⟩; have HO418 := am (Kd.R_lower ho0 (below_size (q60))); replace BK411 := am (blk_below (g := gb411) (o := .cells #[.slice A0_0 l0_0.length c0_0] 32 (0, 0)) (kq BK411.out) hb); replace HB := am (below_step (q60) hb); (try clear hb); (try clear hb2); (try clear hk); (try clear hi); (try clear ho0)))
    go_ret
    exact ⟨_, q0, rq HO418.out, q60⟩
def laws_eqIntS.l0 : Nat → List Int → List Int → Int → Option (Bool)
 | 0, _, _, _ => none
 | k + 1, x0, x1, x5 => if x5 < (x0.length : Int) then (if 0 ≤ x5 then (if x5 < (x1.length : Int) then (if (rd x0 x5) = (rd x1 x5) then (laws_eqIntS.l0 k x0 x1 (wrap64 (x5 + 1))) else (some false)) else (none)) else (none)) else (some true)
def laws_eqIntS.f (k : Nat) (l0 : List Int) (l1 : List Int) : Option (Bool) := if (l0.length : Int) = (l1.length : Int) then (laws_eqIntS.l0 k l0 l1 0) else (some false)
set_option maxHeartbeats 8000000 in
set_option maxRecDepth 100000 in
theorem laws_eqIntS.calls (k : Nat) (A0 : Option Addr) (c0 : Nat) (l0 : List Int) (A1 : Option Addr) (c1 : Nat) (l1 : List Int) (r : Bool) (w : World) (hr0 : Kd.C (Kd.int .i64) w A0 l0.length l0) (hc0 : l0.length ≤ c0) (hr1 : Kd.C (Kd.int .i64) w A1 l1.length l1) (hc1 : l1.length ≤ c1) (h : laws_eqIntS.f k l0 l1 = some r) :
  Calls Try.prog 15 #[.slice A0 l0.length c0, .slice A1 l1.length c1] w fun e w' => e = .returned (.bool r) ∧ Drawn0 w w' := by
 have HR0 := am hr0
 have HC0 := am hc0
 clear hr0 hc0
 have HR1 := am hr1
 have HC1 := am hc1
 clear hr1 hc1
 have H : (if (l0.length : Int) = (l1.length : Int) then (laws_eqIntS.l0 k l0 l1 0) else (some false)) = some r := h
 clear h
 by_cases c3 : (l0.length : Int) = (l1.length : Int)
 ·rw [if_pos c3] at H
  have c3b0 : ((l0.length : Int) == (l1.length : Int)) = true := beq_iff_eq.mpr c3
  have c3b1 : ((l0.length : Int) != (l1.length : Int)) = false := bne_eq_false_iff_eq.mpr c3
  have c3b2 : (l0.length == l1.length) = true := by first | simpa using c3 | (simp at c3 ⊢; omega)
  clear c3
  have H' := am H
  clear H
  go_enter Try.func15, Try.ntmps15
  go_wp2
  repeat (go_quiet (fail); try go_wp2)
  go_loopg [5] k (fun kq v5 w' => ∃ (x5_1 : Int), v5 = .int .i64 x5_1 ∧ Aside0 (laws_eqIntS.l0 kq l0 l1 x5_1 = some r) ∧ Aside0 (kq ≤ k) ∧ Drawn0 w w')
  case atStart => exact ⟨(0), (sq), H', ⟨Nat.le_refl _⟩, q1⟩
  case round =>
   clear H'
   try clear c1
   try clear p2
   try clear c3
   try clear c3b0
   try clear c3b1
   try clear c3b2
   obtain ⟨x5_1, rfl, HA, HK1, ⟨m1, rfl⟩⟩ := hrel
   cases gk with
   | zero => exact absurd HA.out (by simp [laws_eqIntS.l0])
   | succ k1 =>
    have H := HA.out
    clear HA
    simp only [laws_eqIntS.l0] at H
    by_cases c4 : x5_1 < (l0.length : Int)
    ·rw [if_pos c4] at H
     have c4b0 : decide (x5_1 < (l0.length : Int)) = true := decide_eq_true c4
     clear c4
     by_cases c5 : 0 ≤ x5_1
     ·rw [if_pos c5] at H
      have c5b0 : decide (0 ≤ x5_1) = true := decide_eq_true c5
      clear c5
      by_cases c6 : x5_1 < (l1.length : Int)
      ·rw [if_pos c6] at H
       have c6b0 : decide (x5_1 < (l1.length : Int)) = true := decide_eq_true c6
       clear c6
       by_cases c7 : (rd l0 x5_1) = (rd l1 x5_1)
       ·rw [if_pos c7] at H
        have c7b0 : ((rd l0 x5_1) == (rd l1 x5_1)) = true := beq_iff_eq.mpr c7
        have c7b1 : ((rd l0 x5_1) != (rd l1 x5_1)) = false := bne_eq_false_iff_eq.mpr c7
        clear c7
        have H' := am H
        clear H
        have p419 : 0 ≤ (x5_1 : Int) := of_decide_eq_true (uq)
        have q419 : x5_1 < (l0.length : Int) := of_decide_eq_true (uq)
        obtain ⟨ad419, e419, hx419_0⟩ := Kd.at_int HR0.out x5_1 p419 q419
        cases e419
        replace p419 := eq_true p419
        replace q419 := eq_true q419
        have p420 : 0 ≤ (x5_1 : Int) := of_decide_eq_true (uq)
        have q420 : x5_1 < (l1.length : Int) := of_decide_eq_true (uq)
        obtain ⟨ad420, e420, hx420_0⟩ := Kd.at_int HR1.out x5_1 p420 q420
        cases e420
        replace p420 := eq_true p420
        replace q420 := eq_true q420
        go_wp2
        repeat (go_quiet (fail); try go_wp2)
        go_roundg k1
        case measure => have := HK1.out; omega
        case rel => exact ⟨(wrap64 (x5_1 + 1)), (sq), H', ⟨by have := HK1.out; omega⟩, q1⟩
       ·rw [if_neg c7] at H
        have c7b0 : ((rd l0 x5_1) == (rd l1 x5_1)) = false := beq_eq_false_iff_ne.mpr c7
        have c7b1 : ((rd l0 x5_1) != (rd l1 x5_1)) = true := bne_iff_ne.mpr c7
        obtain rfl := Option.some.inj H
        have p419 : 0 ≤ (x5_1 : Int) := of_decide_eq_true (uq)
        have q419 : x5_1 < (l0.length : Int) := of_decide_eq_true (uq)
        obtain ⟨ad419, e419, hx419_0⟩ := Kd.at_int HR0.out x5_1 p419 q419
        cases e419
        replace p419 := eq_true p419
        replace q419 := eq_true q419
        have p420 : 0 ≤ (x5_1 : Int) := of_decide_eq_true (uq)
        have q420 : x5_1 < (l1.length : Int) := of_decide_eq_true (uq)
        obtain ⟨ad420, e420, hx420_0⟩ := Kd.at_int HR1.out x5_1 p420 q420
        cases e420
        replace p420 := eq_true p420
        replace q420 := eq_true q420
        go_wp2
        repeat (go_quiet (fail); try go_wp2)
        go_ret
        exact ⟨sq, q1⟩
      ·rw [if_neg c6] at H
       exact absurd H (by simp)
     ·rw [if_neg c5] at H
      exact absurd H (by simp)
    ·rw [if_neg c4] at H
     have c4b0 : decide (x5_1 < (l0.length : Int)) = false := decide_eq_false c4
     clear c4
     obtain rfl := Option.some.inj H
     go_wp2
     repeat (go_quiet (fail); try go_wp2)
     go_ret
     exact ⟨sq, q1⟩
 ·rw [if_neg c3] at H
  have c3b0 : ((l0.length : Int) == (l1.length : Int)) = false := beq_eq_false_iff_ne.mpr c3
  have c3b1 : ((l0.length : Int) != (l1.length : Int)) = true := bne_iff_ne.mpr c3
  have c3b2 : (l0.length == l1.length) = false := by first | simpa using c3 | (simp at c3 ⊢; omega)
  obtain rfl := Option.some.inj H
  go_enter Try.func15, Try.ntmps15
  go_wp2
  repeat (go_quiet (fail); try go_wp2)
  go_ret
  exact ⟨sq, q1⟩
def laws_markIntS.l0 : Nat → List Int → Int → Int → Option (Int × List Int)
 | 0, _, _, _ => none
 | k + 1, x0, x1, x5 => if x5 < (x0.length : Int) then (if 0 ≤ x5 then (laws_markIntS.l0 k (x0.set (x5 : Int).toNat x1) (wrap64 (x1 + 1)) (wrap64 (x5 + 1))) else (none)) else (some (x1, x0))
def laws_markIntS.f (k : Nat) (l0 : List Int) (a1 : Int) : Option (Int × List Int) := laws_markIntS.l0 k l0 a1 0
set_option maxHeartbeats 8000000 in
set_option maxRecDepth 100000 in
theorem laws_markIntS.calls (k : Nat) (P0_ : Nat → Prop) (u9000_ : Value) (l0 : List Int) (a1 : Int) (r1 : Int) (r2 : List Int) (w0 w : World) (hB : Below w0.heap.size w0 w) (ho0 : Kd.R (Kd.int .i64) 3 w w0.heap.size P0_ u9000_ l0) (h : laws_markIntS.f k l0 a1 = some (r1, r2)) :
  Calls Try.prog 20 #[u9000_, .int .i64 a1] w fun e w' => e = .returned (.int .i64 r1) ∧ Kd.R (Kd.int .i64) 3 w' w0.heap.size (fun k_ => (P0_ k_ ∨ w.heap.size ≤ k_)) u9000_ r2 ∧ Below w0.heap.size w0 w' ∧ Kept w w' (fun k_ => P0_ k_) := by
 have HO0 := am (show Kd.R (Kd.int .i64) 3 w w0.heap.size (fun k_ => (P0_ k_ ∨ w.heap.size ≤ k_)) u9000_ l0 from Kd.R_mono ho0 (fun k_ hk => (.inl hk)))
 have HK := am (Kept.refl w (fun k_ => P0_ k_))
 have HW0 := am hB.size
 have HB := am hB
 clear hB
 have H : (laws_markIntS.l0 k l0 a1 0) = some (r1, r2) := h
 clear h
 have H' := am H
 clear H
 go_enter Try.func20, Try.ntmps20
 go_wp2
 go_loopg [1, 5] k (fun kq v1 v5 w' => ∃ (x0_1 : List Int) (x1_1 : Int) (x5_1 : Int), v1 = .int .i64 x1_1 ∧ v5 = .int .i64 x5_1 ∧ Aside0 (laws_markIntS.l0 kq x0_1 x1_1 x5_1 = some (r1, r2)) ∧ Aside0 (kq ≤ k) ∧ Aside0 (Kd.R (Kd.int .i64) 3 w' w0.heap.size (fun k_ => (P0_ k_ ∨ w.heap.size ≤ k_)) u9000_ x0_1) ∧ Aside0 (Kept w w' (fun k_ => P0_ k_)) ∧ Aside0 (Below w0.heap.size w0 w'))
 case atStart => exact ⟨(l0), (a1), (0), (sq), (sq), H', ⟨Nat.le_refl _⟩, ⟨rq HO0.out⟩, ⟨q21⟩, ⟨bq⟩⟩
 case round =>
  clear H'
  try clear c2
  try clear p2
  obtain ⟨x0_1, x1_1, x5_1, rfl, rfl, HA, HK1, HO_0, HK, HB⟩ := hrel
  cases gk with
  | zero => exact absurd HA.out (by simp [laws_markIntS.l0])
  | succ k1 =>
   have H := HA.out
   clear HA
   simp only [laws_markIntS.l0] at H
   by_cases c3 : x5_1 < (x0_1.length : Int)
   ·rw [if_pos c3] at H
    have c3b0 : decide (x5_1 < (x0_1.length : Int)) = true := decide_eq_true c3
    clear c3
    by_cases c4 : 0 ≤ x5_1
    ·rw [if_pos c4] at H
     have c4b0 : decide (0 ≤ x5_1) = true := decide_eq_true c4
     clear c4
     obtain ⟨y447, hy447⟩ : ∃ y_ : List Int, y_ = (x0_1.set (x5_1 : Int).toNat x1_1) := ⟨_, rfl⟩
     replace H : (laws_markIntS.l0 k1 y447 (wrap64 (x1_1 + 1)) (wrap64 (x5_1 + 1))) = some (r1, r2) := by first | (rw [hy447]; with_reducible exact H) | (have H2_ := (Option.bind_some _ _).symm.trans H; rw [hy447]; with_reducible exact H2_) | (have H2_ := (Option.bind_some _ _).symm.trans H; with_reducible exact H2_) | with_reducible exact H | (rw [hy447]; exact H) | exact H
     have Ny447 := am hy447
     clear hy447
     have H' := am H
     clear H
     obtain ⟨Ao6, co6, eo6⟩ := Kd.R_slice HO_0.out
     subst eo6
     have p5 : 0 ≤ (x5_1 : Int) := of_decide_eq_true (uq)
     have q5 : (x5_1 : Int) < ((x0_1.length : Int) : Int) := of_decide_eq_true (uq)
     obtain ⟨go5, co5, eo5, gb5, gl5, cl5, HG5⟩ := Kd.R_form HO_0.out (by omega)
     (first | cases eo5 | (injection eo5 with ea_ en_ ec_; (first | subst ea_ | (injection ea_ with ea_; subst ea_)); subst ec_; clear en_))
     have GB5 := am gb5
     have GG5 := am HG5
     clear gb5 gl5 HG5
     have HMgo5 := am (show (P0_ go5 ∨ w.heap.size ≤ go5) from (HO_0.out.1 _ rfl))
     obtain ⟨hx5_0, hf5_0⟩ := Kd.R_celln 0 HO_0.out (x5_1 : Int) p5 q5
     replace p5 := eq_true p5
     replace q5 := eq_true q5
     have HP7 := Kd.R_putg HO_0.out (x5_1 : Int) x1_1
     go_wp2_with (first | ((with_reducible refine gate_store (t := 3) (p := 15) rfl ?_); refine store_event (t := 3) (p := 15) (v := ?vo_w8) (w1 := (wr.setCell ⟨go5, (x5_1 : Int).toNat, none⟩ (.int .i64 x1_1))) ?hg ?ho ?hn ?hr ?_; (case ho => rfl); (case hg => rfl); (case hn => rfl); (case hr => exact q2); intro w8 hw; have hg : wr.grownBy w8 (some go5) := (by rw [hw]; exact HP7.2); have hp_ : Kd.R (Kd.int .i64) 3 w8 w0.heap.size (fun k_ => (P0_ k_ ∨ w.heap.size ≤ k_)) (.slice (some ⟨go5, 0, none⟩) x0_1.length co6) y447 := (by rw [hw, Ny447.out]; exact HP7.1); clear HP7; replace HB := am ((by rw [hw]; exact below_set (HB.out) GB5.out : Below w0.heap.size w0 w8)); replace HK := am (Kept.of_grown (S := (fun k_ => P0_ k_)) hg (q21) (fun k_ e_ => (HO_0.out.1 k_ e_))); replace HO_0 := am (hp_); clear hg hw hp_))
     go_roundg k1
     case measure => have := HK1.out; omega
     case rel => exact ⟨(y447), (wrap64 (x1_1 + 1)), (wrap64 (x5_1 + 1)), (sq), (sq), H', ⟨by have := HK1.out; omega⟩, ⟨rq HO_0.out⟩, ⟨q21⟩, ⟨bq⟩⟩
    ·rw [if_neg c4] at H
     exact absurd H (by simp)
   ·rw [if_neg c3] at H
    have c3b0 : decide (x5_1 < (x0_1.length : Int)) = false := decide_eq_false c3
    clear c3
    simp only [Option.some.injEq, Prod.mk.injEq] at H
    obtain ⟨rfl, rfl⟩ := H
    obtain ⟨Ao9, co9, eo9⟩ := Kd.R_slice HO_0.out
    subst eo9
    go_wp2
    go_ret
    exact ⟨q0, rq HO_0.out, bq, q21⟩
def laws_heldIntS.l0 : Nat → List Int → Int → Int → Option (Int)
 | 0, _, _, _ => none
 | k + 1, x0, x1, x5 => if x5 < (x0.length : Int) then (if 0 ≤ x5 then (if (rd x0 x5) = x1 then (laws_heldIntS.l0 k x0 (wrap64 (x1 + 1)) (wrap64 (x5 + 1))) else (some (-1))) else (none)) else (some x1)
def laws_heldIntS.f (k : Nat) (l0 : List Int) (a1 : Int) : Option (Int) := laws_heldIntS.l0 k l0 a1 0
set_option maxHeartbeats 8000000 in
set_option maxRecDepth 100000 in
theorem laws_heldIntS.calls (k : Nat) (A0 : Option Addr) (c0 : Nat) (l0 : List Int) (a1 : Int) (r : Int) (w : World) (hr0 : Kd.C (Kd.int .i64) w A0 l0.length l0) (hc0 : l0.length ≤ c0) (h : laws_heldIntS.f k l0 a1 = some r) :
  Calls Try.prog 21 #[.slice A0 l0.length c0, .int .i64 a1] w fun e w' => e = .returned (.int .i64 r) ∧ Drawn0 w w' := by
 have HR0 := am hr0
 have HC0 := am hc0
 clear hr0 hc0
 have H : (laws_heldIntS.l0 k l0 a1 0) = some r := h
 clear h
 have H' := am H
 clear H
 go_enter Try.func21, Try.ntmps21
 go_wp2
 go_loopg [1, 5] k (fun kq v1 v5 w' => ∃ (x1_1 : Int) (x5_1 : Int), v1 = .int .i64 x1_1 ∧ v5 = .int .i64 x5_1 ∧ Aside0 (laws_heldIntS.l0 kq l0 x1_1 x5_1 = some r) ∧ Aside0 (kq ≤ k) ∧ Drawn0 w w')
 case atStart => exact ⟨(a1), (0), (sq), (sq), H', ⟨Nat.le_refl _⟩, q1⟩
 case round =>
  clear H'
  try clear c2
  try clear p2
  obtain ⟨x1_1, x5_1, rfl, rfl, HA, HK1, ⟨m1, rfl⟩⟩ := hrel
  cases gk with
  | zero => exact absurd HA.out (by simp [laws_heldIntS.l0])
  | succ k1 =>
   have H := HA.out
   clear HA
   simp only [laws_heldIntS.l0] at H
   by_cases c3 : x5_1 < (l0.length : Int)
   ·rw [if_pos c3] at H
    have c3b0 : decide (x5_1 < (l0.length : Int)) = true := decide_eq_true c3
    clear c3
    by_cases c4 : 0 ≤ x5_1
    ·rw [if_pos c4] at H
     have c4b0 : decide (0 ≤ x5_1) = true := decide_eq_true c4
     clear c4
     by_cases c5 : (rd l0 x5_1) = x1_1
     ·rw [if_pos c5] at H
      have c5b0 : ((rd l0 x5_1) == x1_1) = true := beq_iff_eq.mpr c5
      have c5b1 : ((rd l0 x5_1) != x1_1) = false := bne_eq_false_iff_eq.mpr c5
      clear c5
      have H' := am H
      clear H
      have p448 : 0 ≤ (x5_1 : Int) := of_decide_eq_true (uq)
      have q448 : x5_1 < (l0.length : Int) := of_decide_eq_true (uq)
      obtain ⟨ad448, e448, hx448_0⟩ := Kd.at_int HR0.out x5_1 p448 q448
      cases e448
      replace p448 := eq_true p448
      replace q448 := eq_true q448
      go_wp2
      go_roundg k1
      case measure => have := HK1.out; omega
      case rel => exact ⟨(wrap64 (x1_1 + 1)), (wrap64 (x5_1 + 1)), (sq), (sq), H', ⟨by have := HK1.out; omega⟩, q1⟩
     ·rw [if_neg c5] at H
      have c5b0 : ((rd l0 x5_1) == x1_1) = false := beq_eq_false_iff_ne.mpr c5
      have c5b1 : ((rd l0 x5_1) != x1_1) = true := bne_iff_ne.mpr c5
      obtain rfl := Option.some.inj H
      have p448 : 0 ≤ (x5_1 : Int) := of_decide_eq_true (uq)
      have q448 : x5_1 < (l0.length : Int) := of_decide_eq_true (uq)
      obtain ⟨ad448, e448, hx448_0⟩ := Kd.at_int HR0.out x5_1 p448 q448
      cases e448
      replace p448 := eq_true p448
      replace q448 := eq_true q448
      go_wp2
      go_ret
      exact ⟨sq, q1⟩
    ·rw [if_neg c4] at H
     exact absurd H (by simp)
   ·rw [if_neg c3] at H
    have c3b0 : decide (x5_1 < (l0.length : Int)) = false := decide_eq_false c3
    clear c3
    obtain rfl := Option.some.inj H
    go_wp2
    go_ret
    exact ⟨sq, q1⟩
def laws_FnExactWayOfFault.j0 : Nat → List (S64) → Int → Int → List Int → List Int → Bool → List (S84) → Option (Bool)
 | 0, _, _, _, _, _, _, _ => none
 | k + 1, x1, x2, x3, x10, x13, x71, x450000 => if x71 = true then (some false) else ((laws_markIntS.f k x13 1).bind fun bt485 => ((laws_heldIntS.f k bt485.2 1).bind fun t487 => (if t487 < 0 then (some false) else (if t487 = bt485.1 then ((laws_toTree.f k x450000).bind fun t488 => ((laws_toLineS.f k x1).bind fun t491 => ((impl_WayOfFault.f k t488 t491 x2 x3).bind fun t494 => ((laws_eqIntS.f k t494 x10).bind fun t497 => (if t497 = true then ((laws_heldIntS.f k bt485.2 1).bind fun t498 => (if t498 < 0 then (some false) else (if t498 = bt485.1 then (some true) else (some false)))) else (some false)))))) else (some false)))))
def laws_FnExactWayOfFault.f (k : Nat) (l0_0 : List (S84)) (l1 : List (S64)) (a2 : Int) (a3 : Int) : Option (Bool) := (laws_szTree.f k l0_0 1048576).bind fun t450 => (if t450 < 0 then (some true) else ((laws_szLineS.f l1 t450).bind fun t451 => (if t451 < 0 then (some true) else ((laws_toTree.f k l0_0).bind fun t452 => ((laws_toLineS.f k l1).bind fun t455 => ((spec_WayOfFault.f k t452 t455 a2 a3).bind fun t458 => ((laws_toTree.f k l0_0).bind fun t461 => ((laws_toLineS.f k l1).bind fun t465 => ((impl_WayOfFault.f k t461 t465 a2 a3).bind fun t468 => ((laws_eqIntS.f k t468 t458).bind fun t471 => (if t471 = true then ((laws_toTree.f k l0_0).bind fun t472 => ((laws_eqTree.f k t461 t472).bind fun t475 => (if t475 = true then ((laws_toLineS.f k l1).bind fun t476 => ((laws_eqLineS.f k t465 t476).bind fun t479 => (if t479 = true then ((laws_markTree.f k t461 1).bind fun bt480 => ((laws_markLineS.f k t465 bt480.1).bind fun bt482 => (if bt482.1 < 0 then (laws_FnExactWayOfFault.j0 k l1 a2 a3 t458 t468 true l0_0) else ((laws_eqIntS.f k t468 t458).bind fun t484 => (laws_FnExactWayOfFault.j0 k l1 a2 a3 t458 t468 (!t484) l0_0))))) else (some false)))) else (some false)))) else (some false))))))))))))
set_option maxHeartbeats 8000000 in
set_option maxRecDepth 100000 in
theorem laws_FnExactWayOfFault.calls (k : Nat) (A0_0 : Option Addr) (c0_0 : Nat) (l0_0 : List (S84)) (A1 : Option Addr) (c1 : Nat) (l1 : List (S64)) (a2 : Int) (a3 : Int) (r : Bool) (w : World) (hr0_0 : Kd.C k84 w A0_0 l0_0.length l0_0) (hc0_0 : l0_0.length ≤ c0_0) (hr1 : Kd.C k64 w A1 l1.length l1) (hc1 : l1.length ≤ c1) (hT : r = true) (h : laws_FnExactWayOfFault.f k l0_0 l1 a2 a3 = some r) :
  Calls Try.prog 3 #[.agg #[.slice A0_0 l0_0.length c0_0], .slice A1 l1.length c1, .int .i64 a2, .int .i64 a3] w fun e w' => e = .returned (.bool r) ∧ Below w.heap.size w w' := by
 have hu24 := Try.underlying24
 have hu32 := Try.underlying32
 have HR0_0 := am hr0_0
 have HC0_0 := am hc0_0
 clear hr0_0 hc0_0
 have HR1 := am hr1
 have HC1 := am hc1
 clear hr1 hc1
 have HB := am (Below.refl w.heap.size w)
 have H : ((laws_szTree.f k l0_0 1048576).bind fun t450 => (if t450 < 0 then (some true) else ((laws_szLineS.f l1 t450).bind fun t451 => (if t451 < 0 then (some true) else ((laws_toTree.f k l0_0).bind fun t452 => ((laws_toLineS.f k l1).bind fun t455 => ((spec_WayOfFault.f k t452 t455 a2 a3).bind fun t458 => ((laws_toTree.f k l0_0).bind fun t461 => ((laws_toLineS.f k l1).bind fun t465 => ((impl_WayOfFault.f k t461 t465 a2 a3).bind fun t468 => ((laws_eqIntS.f k t468 t458).bind fun t471 => (if t471 = true then ((laws_toTree.f k l0_0).bind fun t472 => ((laws_eqTree.f k t461 t472).bind fun t475 => (if t475 = true then ((laws_toLineS.f k l1).bind fun t476 => ((laws_eqLineS.f k t465 t476).bind fun t479 => (if t479 = true then ((laws_markTree.f k t461 1).bind fun bt480 => ((laws_markLineS.f k t465 bt480.1).bind fun bt482 => (if bt482.1 < 0 then (laws_FnExactWayOfFault.j0 k l1 a2 a3 t458 t468 true l0_0) else ((laws_eqIntS.f k t468 t458).bind fun t484 => (laws_FnExactWayOfFault.j0 k l1 a2 a3 t458 t468 (!t484) l0_0))))) else (some false)))) else (some false)))) else (some false))))))))))))) = some r := h
 clear h
 replace H := Option.bind_eq_some_iff.mp H
 obtain ⟨t450, A50, H⟩ := H
 replace H : (if t450 < 0 then (some true) else ((laws_szLineS.f l1 t450).bind fun t451 => (if t451 < 0 then (some true) else ((laws_toTree.f k l0_0).bind fun t452 => ((laws_toLineS.f k l1).bind fun t455 => ((spec_WayOfFault.f k t452 t455 a2 a3).bind fun t458 => ((laws_toTree.f k l0_0).bind fun t461 => ((laws_toLineS.f k l1).bind fun t465 => ((impl_WayOfFault.f k t461 t465 a2 a3).bind fun t468 => ((laws_eqIntS.f k t468 t458).bind fun t471 => (if t471 = true then ((laws_toTree.f k l0_0).bind fun t472 => ((laws_eqTree.f k t461 t472).bind fun t475 => (if t475 = true then ((laws_toLineS.f k l1).bind fun t476 => ((laws_eqLineS.f k t465 t476).bind fun t479 => (if t479 = true then ((laws_markTree.f k t461 1).bind fun bt480 => ((laws_markLineS.f k t465 bt480.1).bind fun bt482 => (if bt482.1 < 0 then (laws_FnExactWayOfFault.j0 k l1 a2 a3 t458 t468 true l0_0) else ((laws_eqIntS.f k t468 t458).bind fun t484 => (laws_FnExactWayOfFault.j0 k l1 a2 a3 t458 t468 (!t484) l0_0))))) else (some false)))) else (some false)))) else (some false)))))))))))) = some r := H
 have A5 := am A50
 clear A50
 by_cases c6 : t450 < 0
 ·rw [if_pos c6] at H
  have c6b0 : decide (t450 < 0) = true := decide_eq_true c6
  clear c6
  obtain rfl := Option.some.inj H
  go_enter Try.func3, Try.ntmps3
  go_wp2_with (first | ((with_reducible refine gate_dst (N := 4) rfl ?_); refine bE (N := 4) (cs := #[.slice A0_0 l0_0.length c0_0]) (t := 24) ?_; intro gb449 hg w7 hbox hb; have BK449 := am (hbox); have GW449 := am ((by rw [hg]; exact (below_size (bq)) : w.heap.size ≤ gb449)); have GE449 := am ((by rw [hg]; exact (below_size (bq)) : w.heap.size ≤ gb449)); replace HB := am (below_step (bq) hb); clear hb hbox hg; have hcz8_0 := bc0 BK449.out; have hfz8_0 := blk_frozen BK449.out 0) | ((with_reducible refine gate_callee (f := 9) rfl ?_); refine goesL_ (some 20) rfl rfl Try.func9 (by kernel_rfl) rfl #[.agg #[.slice A0_0 l0_0.length c0_0], .int .i64 1048576] rfl (aq) ?_; (with_reducible refine (laws_szTree.calls k _ _ l0_0 1048576 t450 _ ?side1 ?side2 A5.out).mono ?_); (case side1 => exact cq (Kd.C_below HR0_0.out HB.out)); (case side2 => exact HC0_0.out); rintro e w9 ⟨rfl, hb⟩; refine ⟨_, rfl, ?_⟩; replace BK449 := am (blk_below (g := gb449) (o := .cells #[.slice A0_0 l0_0.length c0_0] 24 (0, 0)) (kq BK449.out) hb); replace HB := am (below_step (q34) hb); (try clear hb); (try clear hb2); (try clear hk); (try clear hi)))
  go_ret
  exact ⟨q0, q34⟩
 ·rw [if_neg c6] at H
  have c6b0 : decide (t450 < 0) = false := decide_eq_false c6
  clear c6
  replace H := Option.bind_eq_some_iff.mp H
  obtain ⟨t451, A100, H⟩ := H
  replace H : (if t451 < 0 then (some true) else ((laws_toTree.f k l0_0).bind fun t452 => ((laws_toLineS.f k l1).bind fun t455 => ((spec_WayOfFault.f k t452 t455 a2 a3).bind fun t458 => ((laws_toTree.f k l0_0).bind fun t461 => ((laws_toLineS.f k l1).bind fun t465 => ((impl_WayOfFault.f k t461 t465 a2 a3).bind fun t468 => ((laws_eqIntS.f k t468 t458).bind fun t471 => (if t471 = true then ((laws_toTree.f k l0_0).bind fun t472 => ((laws_eqTree.f k t461 t472).bind fun t475 => (if t475 = true then ((laws_toLineS.f k l1).bind fun t476 => ((laws_eqLineS.f k t465 t476).bind fun t479 => (if t479 = true then ((laws_markTree.f k t461 1).bind fun bt480 => ((laws_markLineS.f k t465 bt480.1).bind fun bt482 => (if bt482.1 < 0 then (laws_FnExactWayOfFault.j0 k l1 a2 a3 t458 t468 true l0_0) else ((laws_eqIntS.f k t468 t458).bind fun t484 => (laws_FnExactWayOfFault.j0 k l1 a2 a3 t458 t468 (!t484) l0_0))))) else (some false)))) else (some false)))) else (some false)))))))))) = some r := H
  have A10 := am A100
  clear A100
  by_cases c11 : t451 < 0
  ·rw [if_pos c11] at H
   have c11b0 : decide (t451 < 0) = true := decide_eq_true c11
   clear c11
   obtain rfl := Option.some.inj H
   go_enter Try.func3, Try.ntmps3
   go_wp2_with (first | ((with_reducible refine gate_dst (N := 4) rfl ?_); refine bE (N := 4) (cs := #[.slice A0_0 l0_0.length c0_0]) (t := 24) ?_; intro gb449 hg w12 hbox hb; have BK449 := am (hbox); have GW449 := am ((by rw [hg]; exact (below_size (bq)) : w.heap.size ≤ gb449)); have GE449 := am ((by rw [hg]; exact (below_size (bq)) : w.heap.size ≤ gb449)); replace HB := am (below_step (bq) hb); clear hb hbox hg; have hcz13_0 := bc0 BK449.out; have hfz13_0 := blk_frozen BK449.out 0) | ((with_reducible refine gate_callee (f := 9) rfl ?_); refine goesL_ (some 20) rfl rfl Try.func9 (by kernel_rfl) rfl #[.agg #[.slice A0_0 l0_0.length c0_0], .int .i64 1048576] rfl (aq) ?_; (with_reducible refine (laws_szTree.calls k _ _ l0_0 1048576 t450 _ ?side1 ?side2 A5.out).mono ?_); (case side1 => exact cq (Kd.C_below HR0_0.out HB.out)); (case side2 => exact HC0_0.out); rintro e w14 ⟨rfl, hb⟩; refine ⟨_, rfl, ?_⟩; replace BK449 := am (blk_below (g := gb449) (o := .cells #[.slice A0_0 l0_0.length c0_0] 24 (0, 0)) (kq BK449.out) hb); replace HB := am (below_step (q34) hb); (try clear hb); (try clear hb2); (try clear hk); (try clear hi)) | ((with_reducible refine gate_callee (f := 10) rfl ?_); refine goesL_ (some 25) rfl rfl Try.func10 (by kernel_rfl) rfl #[.slice A1 l1.length c1, .int .i64 t450] rfl (aq) ?_; (with_reducible refine (laws_szLineS.calls _ _ l1 t450 t451 _ ?side1 ?side2 A10.out).mono ?_); (case side1 => exact cq (Kd.C_below HR1.out HB.out)); (case side2 => exact HC1.out); rintro e w' ⟨rfl, ⟨nd, rfl⟩⟩; refine ⟨_, rfl, ?_⟩))
   go_ret
   exact ⟨q0, q34⟩
  ·rw [if_neg c11] at H
   have c11b0 : decide (t451 < 0) = false := decide_eq_false c11
   clear c11
   replace H := Option.bind_eq_some_iff.mp H
   obtain ⟨t452, A150, H⟩ := H
   replace H : ((laws_toLineS.f k l1).bind fun t455 => ((spec_WayOfFault.f k t452 t455 a2 a3).bind fun t458 => ((laws_toTree.f k l0_0).bind fun t461 => ((laws_toLineS.f k l1).bind fun t465 => ((impl_WayOfFault.f k t461 t465 a2 a3).bind fun t468 => ((laws_eqIntS.f k t468 t458).bind fun t471 => (if t471 = true then ((laws_toTree.f k l0_0).bind fun t472 => ((laws_eqTree.f k t461 t472).bind fun t475 => (if t475 = true then ((laws_toLineS.f k l1).bind fun t476 => ((laws_eqLineS.f k t465 t476).bind fun t479 => (if t479 = true then ((laws_markTree.f k t461 1).bind fun bt480 => ((laws_markLineS.f k t465 bt480.1).bind fun bt482 => (if bt482.1 < 0 then (laws_FnExactWayOfFault.j0 k l1 a2 a3 t458 t468 true l0_0) else ((laws_eqIntS.f k t468 t458).bind fun t484 => (laws_FnExactWayOfFault.j0 k l1 a2 a3 t458 t468 (!t484) l0_0))))) else (some false)))) else (some false)))) else (some false)))))))) = some r := H
   have A15 := am A150
   clear A150
   replace H := Option.bind_eq_some_iff.mp H
   obtain ⟨t455, A160, H⟩ := H
   replace H : ((spec_WayOfFault.f k t452 t455 a2 a3).bind fun t458 => ((laws_toTree.f k l0_0).bind fun t461 => ((laws_toLineS.f k l1).bind fun t465 => ((impl_WayOfFault.f k t461 t465 a2 a3).bind fun t468 => ((laws_eqIntS.f k t468 t458).bind fun t471 => (if t471 = true then ((laws_toTree.f k l0_0).bind fun t472 => ((laws_eqTree.f k t461 t472).bind fun t475 => (if t475 = true then ((laws_toLineS.f k l1).bind fun t476 => ((laws_eqLineS.f k t465 t476).bind fun t479 => (if t479 = true then ((laws_markTree.f k t461 1).bind fun bt480 => ((laws_markLineS.f k t465 bt480.1).bind fun bt482 => (if bt482.1 < 0 then (laws_FnExactWayOfFault.j0 k l1 a2 a3 t458 t468 true l0_0) else ((laws_eqIntS.f k t468 t458).bind fun t484 => (laws_FnExactWayOfFault.j0 k l1 a2 a3 t458 t468 (!t484) l0_0))))) else (some false)))) else (some false)))) else (some false))))))) = some r := H
   have A16 := am A160
   clear A160
   replace H := Option.bind_eq_some_iff.mp H
   obtain ⟨t458, A170, H⟩ := H
   replace H : ((laws_toTree.f k l0_0).bind fun t461 => ((laws_toLineS.f k l1).bind fun t465 => ((impl_WayOfFault.f k t461 t465 a2 a3).bind fun t468 => ((laws_eqIntS.f k t468 t458).bind fun t471 => (if t471 = true then ((laws_toTree.f k l0_0).bind fun t472 => ((laws_eqTree.f k t461 t472).bind fun t475 => (if t475 = true then ((laws_toLineS.f k l1).bind fun t476 => ((laws_eqLineS.f k t465 t476).bind fun t479 => (if t479 = true then ((laws_markTree.f k t461 1).bind fun bt480 => ((laws_markLineS.f k t465 bt480.1).bind fun bt482 => (if bt482.1 < 0 then (laws_FnExactWayOfFault.j0 k l1 a2 a3 t458 t468 true l0_0) else ((laws_eqIntS.f k t468 t458).bind fun t484 => (laws_FnExactWayOfFault.j0 k l1 a2 a3 t458 t468 (!t484) l0_0))))) else (some false)))) else (some false)))) else (some false)))))) = some r := H
   have A17 := am A170
   clear A170
   replace H := Option.bind_eq_some_iff.mp H
   obtain ⟨t461, A180, H⟩ := H
   replace H : ((laws_toLineS.f k l1).bind fun t465 => ((impl_WayOfFault.f k t461 t465 a2 a3).bind fun t468 => ((laws_eqIntS.f k t468 t458).bind fun t471 => (if t471 = true then ((laws_toTree.f k l0_0).bind fun t472 => ((laws_eqTree.f k t461 t472).bind fun t475 => (if t475 = true then ((laws_toLineS.f k l1).bind fun t476 => ((laws_eqLineS.f k t465 t476).bind fun t479 => (if t479 = true then ((laws_markTree.f k t461 1).bind fun bt480 => ((laws_markLineS.f k t465 bt480.1).bind fun bt482 => (if bt482.1 < 0 then (laws_FnExactWayOfFault.j0 k l1 a2 a3 t458 t468 true l0_0) else ((laws_eqIntS.f k t468 t458).bind fun t484 => (laws_FnExactWayOfFault.j0 k l1 a2 a3 t458 t468 (!t484) l0_0))))) else (some false)))) else (some false)))) else (some false))))) = some r := H
   have A18 := am A180
   clear A180
   replace H := Option.bind_eq_some_iff.mp H
   obtain ⟨t465, A190, H⟩ := H
   replace H : ((impl_WayOfFault.f k t461 t465 a2 a3).bind fun t468 => ((laws_eqIntS.f k t468 t458).bind fun t471 => (if t471 = true then ((laws_toTree.f k l0_0).bind fun t472 => ((laws_eqTree.f k t461 t472).bind fun t475 => (if t475 = true then ((laws_toLineS.f k l1).bind fun t476 => ((laws_eqLineS.f k t465 t476).bind fun t479 => (if t479 = true then ((laws_markTree.f k t461 1).bind fun bt480 => ((laws_markLineS.f k t465 bt480.1).bind fun bt482 => (if bt482.1 < 0 then (laws_FnExactWayOfFault.j0 k l1 a2 a3 t458 t468 true l0_0) else ((laws_eqIntS.f k t468 t458).bind fun t484 => (laws_FnExactWayOfFault.j0 k l1 a2 a3 t458 t468 (!t484) l0_0))))) else (some false)))) else (some false)))) else (some false)))) = some r := H
   have A19 := am A190
   clear A190
   replace H := Option.bind_eq_some_iff.mp H
   obtain ⟨t468, A200, H⟩ := H
   replace H : ((laws_eqIntS.f k t468 t458).bind fun t471 => (if t471 = true then ((laws_toTree.f k l0_0).bind fun t472 => ((laws_eqTree.f k t461 t472).bind fun t475 => (if t475 = true then ((laws_toLineS.f k l1).bind fun t476 => ((laws_eqLineS.f k t465 t476).bind fun t479 => (if t479 = true then ((laws_markTree.f k t461 1).bind fun bt480 => ((laws_markLineS.f k t465 bt480.1).bind fun bt482 => (if bt482.1 < 0 then (laws_FnExactWayOfFault.j0 k l1 a2 a3 t458 t468 true l0_0) else ((laws_eqIntS.f k t468 t458).bind fun t484 => (laws_FnExactWayOfFault.j0 k l1 a2 a3 t458 t468 (!t484) l0_0))))) else (some false)))) else (some false)))) else (some false))) = some r := H
   have A20 := am A200
   clear A200
   replace H := Option.bind_eq_some_iff.mp H
   obtain ⟨t471, A210, H⟩ := H
   replace H : (if t471 = true then ((laws_toTree.f k l0_0).bind fun t472 => ((laws_eqTree.f k t461 t472).bind fun t475 => (if t475 = true then ((laws_toLineS.f k l1).bind fun t476 => ((laws_eqLineS.f k t465 t476).bind fun t479 => (if t479 = true then ((laws_markTree.f k t461 1).bind fun bt480 => ((laws_markLineS.f k t465 bt480.1).bind fun bt482 => (if bt482.1 < 0 then (laws_FnExactWayOfFault.j0 k l1 a2 a3 t458 t468 true l0_0) else ((laws_eqIntS.f k t468 t458).bind fun t484 => (laws_FnExactWayOfFault.j0 k l1 a2 a3 t458 t468 (!t484) l0_0))))) else (some false)))) else (some false)))) else (some false)) = some r := H
   have A21 := am A210
   clear A210
   by_cases c22 : t471 = true
   ·subst c22
    have H1 : ((laws_toTree.f k l0_0).bind fun t472 => ((laws_eqTree.f k t461 t472).bind fun t475 => (if t475 = true then ((laws_toLineS.f k l1).bind fun t476 => ((laws_eqLineS.f k t465 t476).bind fun t479 => (if t479 = true then ((laws_markTree.f k t461 1).bind fun bt480 => ((laws_markLineS.f k t465 bt480.1).bind fun bt482 => (if bt482.1 < 0 then (laws_FnExactWayOfFault.j0 k l1 a2 a3 t458 t468 true l0_0) else ((laws_eqIntS.f k t468 t458).bind fun t484 => (laws_FnExactWayOfFault.j0 k l1 a2 a3 t458 t468 (!t484) l0_0))))) else (some false)))) else (some false)))) = some r := by rw [if_pos rfl] at H; exact H
    clear H
    have H := H1
    clear H1
    replace H := Option.bind_eq_some_iff.mp H
    obtain ⟨t472, A230, H⟩ := H
    replace H : ((laws_eqTree.f k t461 t472).bind fun t475 => (if t475 = true then ((laws_toLineS.f k l1).bind fun t476 => ((laws_eqLineS.f k t465 t476).bind fun t479 => (if t479 = true then ((laws_markTree.f k t461 1).bind fun bt480 => ((laws_markLineS.f k t465 bt480.1).bind fun bt482 => (if bt482.1 < 0 then (laws_FnExactWayOfFault.j0 k l1 a2 a3 t458 t468 true l0_0) else ((laws_eqIntS.f k t468 t458).bind fun t484 => (laws_FnExactWayOfFault.j0 k l1 a2 a3 t458 t468 (!t484) l0_0))))) else (some false)))) else (some false))) = some r := H
    have A23 := am A230
    clear A230
    replace H := Option.bind_eq_some_iff.mp H
    obtain ⟨t475, A240, H⟩ := H
    replace H : (if t475 = true then ((laws_toLineS.f k l1).bind fun t476 => ((laws_eqLineS.f k t465 t476).bind fun t479 => (if t479 = true then ((laws_markTree.f k t461 1).bind fun bt480 => ((laws_markLineS.f k t465 bt480.1).bind fun bt482 => (if bt482.1 < 0 then (laws_FnExactWayOfFault.j0 k l1 a2 a3 t458 t468 true l0_0) else ((laws_eqIntS.f k t468 t458).bind fun t484 => (laws_FnExactWayOfFault.j0 k l1 a2 a3 t458 t468 (!t484) l0_0))))) else (some false)))) else (some false)) = some r := H
    have A24 := am A240
    clear A240
    by_cases c25 : t475 = true
    ·subst c25
     have H1 : ((laws_toLineS.f k l1).bind fun t476 => ((laws_eqLineS.f k t465 t476).bind fun t479 => (if t479 = true then ((laws_markTree.f k t461 1).bind fun bt480 => ((laws_markLineS.f k t465 bt480.1).bind fun bt482 => (if bt482.1 < 0 then (laws_FnExactWayOfFault.j0 k l1 a2 a3 t458 t468 true l0_0) else ((laws_eqIntS.f k t468 t458).bind fun t484 => (laws_FnExactWayOfFault.j0 k l1 a2 a3 t458 t468 (!t484) l0_0))))) else (some false)))) = some r := by rw [if_pos rfl] at H; exact H
     clear H
     have H := H1
     clear H1
     replace H := Option.bind_eq_some_iff.mp H
     obtain ⟨t476, A260, H⟩ := H
     replace H : ((laws_eqLineS.f k t465 t476).bind fun t479 => (if t479 = true then ((laws_markTree.f k t461 1).bind fun bt480 => ((laws_markLineS.f k t465 bt480.1).bind fun bt482 => (if bt482.1 < 0 then (laws_FnExactWayOfFault.j0 k l1 a2 a3 t458 t468 true l0_0) else ((laws_eqIntS.f k t468 t458).bind fun t484 => (laws_FnExactWayOfFault.j0 k l1 a2 a3 t458 t468 (!t484) l0_0))))) else (some false))) = some r := H
     have A26 := am A260
     clear A260
     replace H := Option.bind_eq_some_iff.mp H
     obtain ⟨t479, A270, H⟩ := H
     replace H : (if t479 = true then ((laws_markTree.f k t461 1).bind fun bt480 => ((laws_markLineS.f k t465 bt480.1).bind fun bt482 => (if bt482.1 < 0 then (laws_FnExactWayOfFault.j0 k l1 a2 a3 t458 t468 true l0_0) else ((laws_eqIntS.f k t468 t458).bind fun t484 => (laws_FnExactWayOfFault.j0 k l1 a2 a3 t458 t468 (!t484) l0_0))))) else (some false)) = some r := H
     have A27 := am A270
     clear A270
     by_cases c28 : t479 = true
     ·subst c28
      have H1 : ((laws_markTree.f k t461 1).bind fun bt480 => ((laws_markLineS.f k t465 bt480.1).bind fun bt482 => (if bt482.1 < 0 then (laws_FnExactWayOfFault.j0 k l1 a2 a3 t458 t468 true l0_0) else ((laws_eqIntS.f k t468 t458).bind fun t484 => (laws_FnExactWayOfFault.j0 k l1 a2 a3 t458 t468 (!t484) l0_0))))) = some r := by rw [if_pos rfl] at H; exact H
      clear H
      have H := H1
      clear H1
      replace H := Option.bind_eq_some_iff.mp H
      obtain ⟨⟨t480, t481⟩, A290, H⟩ := H
      replace H : ((laws_markLineS.f k t465 t480).bind fun bt482 => (if bt482.1 < 0 then (laws_FnExactWayOfFault.j0 k l1 a2 a3 t458 t468 true l0_0) else ((laws_eqIntS.f k t468 t458).bind fun t484 => (laws_FnExactWayOfFault.j0 k l1 a2 a3 t458 t468 (!t484) l0_0)))) = some r := H
      have A29 := am A290
      clear A290
      replace H := Option.bind_eq_some_iff.mp H
      obtain ⟨⟨t482, t483⟩, A300, H⟩ := H
      replace H : (if t482 < 0 then (laws_FnExactWayOfFault.j0 k l1 a2 a3 t458 t468 true l0_0) else ((laws_eqIntS.f k t468 t458).bind fun t484 => (laws_FnExactWayOfFault.j0 k l1 a2 a3 t458 t468 (!t484) l0_0))) = some r := H
      have A30 := am A300
      clear A300
      have HC31 := am H
      clear H
      go_enter Try.func3, Try.ntmps3
      try go_wp2_with (first | ((with_reducible refine gate_dst (N := 4) rfl ?_); refine bE (N := 4) (cs := #[.slice A0_0 l0_0.length c0_0]) (t := 24) ?_; intro gb449 hg w32 hbox hb; have BK449 := am (hbox); have GW449 := am ((by rw [hg]; exact (below_size (bq)) : w.heap.size ≤ gb449)); have GE449 := am ((by rw [hg]; exact (below_size (bq)) : w.heap.size ≤ gb449)); replace HB := am (below_step (bq) hb); clear hb hbox hg; have hcz33_0 := bc0 BK449.out; have hfz33_0 := blk_frozen BK449.out 0) | ((with_reducible refine gate_callee (f := 9) rfl ?_); refine goesL_ (some 20) rfl rfl Try.func9 (by kernel_rfl) rfl #[.agg #[.slice A0_0 l0_0.length c0_0], .int .i64 1048576] rfl (aq) ?_; (with_reducible refine (laws_szTree.calls k _ _ l0_0 1048576 t450 _ ?side1 ?side2 A5.out).mono ?_); (case side1 => exact cq (Kd.C_below HR0_0.out HB.out)); (case side2 => exact HC0_0.out); rintro e w34 ⟨rfl, hb⟩; refine ⟨_, rfl, ?_⟩; replace BK449 := am (blk_below (g := gb449) (o := .cells #[.slice A0_0 l0_0.length c0_0] 24 (0, 0)) (kq BK449.out) hb); replace HB := am (below_step (q34) hb); (try clear hb); (try clear hb2); (try clear hk); (try clear hi)) | ((with_reducible refine gate_callee (f := 10) rfl ?_); refine goesL_ (some 25) rfl rfl Try.func10 (by kernel_rfl) rfl #[.slice A1 l1.length c1, .int .i64 t450] rfl (aq) ?_; (with_reducible refine (laws_szLineS.calls _ _ l1 t450 t451 _ ?side1 ?side2 A10.out).mono ?_); (case side1 => exact cq (Kd.C_below HR1.out HB.out)); (case side2 => exact HC1.out); rintro e w' ⟨rfl, ⟨nd, rfl⟩⟩; refine ⟨_, rfl, ?_⟩; (try (rw [drewN_self w34]; generalize hq_ : World.drewN w34 _ = w34; have n0_ : Aside0 (w34.heap[gb449]? = some (.cells #[.slice A0_0 l0_0.length c0_0] 24 (0, 0))) := ⟨by rw [← hq_]; exact (kq BK449.out)⟩; have n1_ : Aside0 (Below w.heap.size w w34) := ⟨by rw [← hq_]; exact (q34)⟩; clear BK449 HB hq_; have BK449 := n0_; have HB := n1_; clear n0_ n1_)); have hcz35_0 := bc0 BK449.out; have hfz35_0 := blk_frozen BK449.out 0) | ((with_reducible refine gate_callee (f := 12) rfl ?_); refine goesL_ (some 29) rfl rfl Try.func12 (by kernel_rfl) rfl #[.agg #[.slice A0_0 l0_0.length c0_0]] rfl (aq) ?_; (with_reducible refine (laws_toTree.calls k _ _ l0_0 t452 _ ?side1 ?side2 A15.out).mono ?_); (case side1 => exact cq (Kd.C_below HR0_0.out HB.out)); (case side2 => exact HC0_0.out); rintro e w36 ⟨v453, rfl, ho0, hb⟩; refine ⟨_, rfl, ?_⟩; have HO454 := am (Kd.R_lower ho0 (below_size (q34))); replace BK449 := am (blk_below (g := gb449) (o := .cells #[.slice A0_0 l0_0.length c0_0] 24 (0, 0)) (kq BK449.out) hb); replace HB := am (below_step (q34) hb); (try clear hb); (try clear hb2); (try clear hk); (try clear hi); (try clear ho0)) | ((with_reducible refine gate_callee (f := 13) rfl ?_); refine goesL_ (some 31) rfl rfl Try.func13 (by kernel_rfl) rfl #[.slice A1 l1.length c1] rfl (aq) ?_; (with_reducible refine (laws_toLineS.calls k _ _ l1 t455 _ ?side1 ?side2 A16.out).mono ?_); (case side1 => exact cq (Kd.C_below HR1.out HB.out)); (case side2 => exact HC1.out); rintro e w37 ⟨v456, rfl, ho0, hb⟩; refine ⟨_, rfl, ?_⟩; have HO457 := am (Kd.R_lower ho0 (below_size (q34))); replace HO454 := am (Kd.R_below (rq HO454.out) hb); replace BK449 := am (blk_below (g := gb449) (o := .cells #[.slice A0_0 l0_0.length c0_0] 24 (0, 0)) (kq BK449.out) hb); replace HB := am (below_step (q34) hb); (try clear hb); (try clear hb2); (try clear hk); (try clear hi); (try clear ho0); obtain ⟨Ao38, co38, eo38⟩ := Kd.R_slice HO454.out; subst eo38; obtain ⟨Ao39, co39, eo39⟩ := Kd.R_slice HO457.out; subst eo39) | ((with_reducible refine gate_callee (f := 11) rfl ?_); refine goesL_ (some 34) rfl rfl Try.func11 (by kernel_rfl) rfl #[.agg #[.slice Ao38 t452.length co38], .slice Ao39 t455.length co39, .int .i64 a2, .int .i64 a3] rfl (aq) ?_; (with_reducible refine (spec_WayOfFault.calls k _ _ t452 _ _ t455 a2 a3 t458 _ ?side1 ?side2 ?side3 ?side4 A17.out).mono ?_); (case side1 => exact cq (Kd.R_reads' HO454.out).2.2); (case side2 => exact (Kd.R_reads' HO454.out).2.1); (case side3 => exact cq (Kd.R_reads' HO457.out).2.2); (case side4 => exact (Kd.R_reads' HO457.out).2.1); rintro e w40 ⟨v459, rfl, ho0, hb⟩; refine ⟨_, rfl, ?_⟩; have HO460 := am (Kd.R_lower ho0 (below_size (q34))); replace HO454 := am (Kd.R_below (rq HO454.out) hb); replace HO457 := am (Kd.R_below (rq HO457.out) hb); replace BK449 := am (blk_below (g := gb449) (o := .cells #[.slice A0_0 l0_0.length c0_0] 24 (0, 0)) (kq BK449.out) hb); replace HB := am (below_step (q34) hb); (try clear hb); (try clear hb2); (try clear hk); (try clear hi); (try clear ho0); have hcz41_0 := bc0 BK449.out; have hfz41_0 := blk_frozen BK449.out 0) | ((with_reducible refine gate_callee (f := 12) rfl ?_); refine goesL_ (some 36) rfl rfl Try.func12 (by kernel_rfl) rfl #[.agg #[.slice A0_0 l0_0.length c0_0]] rfl (aq) ?_; (with_reducible refine (laws_toTree.calls k _ _ l0_0 t461 _ ?side1 ?side2 A18.out).mono ?_); (case side1 => exact cq (Kd.C_below HR0_0.out HB.out)); (case side2 => exact HC0_0.out); rintro e w42 ⟨v462, rfl, ho0, hb⟩; refine ⟨_, rfl, ?_⟩; have HO463 := am (Kd.R_lower (Kd.R_new' ho0 (Kd.R_lt (rq HO454.out))) (below_size (q34))); replace HO454 := am (Kd.R_elder' (rq HO454.out) (Kd.R_base ho0) hb); replace HO457 := am (Kd.R_below (rq HO457.out) hb); replace HO460 := am (Kd.R_below (rq HO460.out) hb); replace BK449 := am (blk_below (g := gb449) (o := .cells #[.slice A0_0 l0_0.length c0_0] 24 (0, 0)) (kq BK449.out) hb); replace HB := am (below_step (q34) hb); (try clear hb); (try clear hb2); (try clear hk); (try clear hi); (try clear ho0)) | ((with_reducible refine gate_dst (N := 11) rfl ?_); refine bE (N := 11) (cs := #[.slice none 0 0]) (t := 32) ?_; intro gb464 hg w43 hbox hb; have BK464 := am (hbox); have GW464 := am ((by rw [hg]; exact (below_size (q34)) : w.heap.size ≤ gb464)); have GE464 := am ((by rw [hg]; exact (below_size (q34)) : w.heap.size ≤ gb464)); have NB449_464 := am ((by rw [hg]; exact Nat.ne_of_lt (blk_lt (g := gb449) (o := .cells #[.slice A0_0 l0_0.length c0_0] 24 (0, 0)) (kq BK449.out)) : gb449 ≠ gb464)); have NB464_449 := am ((by rw [hg]; exact Nat.ne_of_gt (blk_lt (g := gb449) (o := .cells #[.slice A0_0 l0_0.length c0_0] 24 (0, 0)) (kq BK449.out)) : gb464 ≠ gb449)); replace HO454 := am (Kd.R_below (rq HO454.out) hb); replace HO457 := am (Kd.R_below (rq HO457.out) hb); replace HO460 := am (Kd.R_below (rq HO460.out) hb); replace HO463 := am (Kd.R_below (rq HO463.out) hb); replace BK449 := am (blk_below (g := gb449) (o := .cells #[.slice A0_0 l0_0.length c0_0] 24 (0, 0)) (kq BK449.out) hb); replace HB := am (below_step (q34) hb); clear hb hbox hg; obtain ⟨Ao44, co44, eo44⟩ := Kd.R_slice HO463.out; subst eo44; have hnb45 := NB464_449.out; have hnc45 := NB449_464.out; have hcz46_0 := bc0 BK464.out; have hfz46_0 := blk_frozen BK464.out 0) | ((with_reducible refine gate_callee (f := 13) rfl ?_); refine goesL_ (some 38) rfl rfl Try.func13 (by kernel_rfl) rfl #[.slice A1 l1.length c1] rfl (aq) ?_; (with_reducible refine (laws_toLineS.calls k _ _ l1 t465 _ ?side1 ?side2 A19.out).mono ?_); (case side1 => exact Kd.C_below HR1.out (q22)); (case side2 => exact HC1.out); rintro e w47 ⟨v466, rfl, ho0, hb⟩; refine ⟨_, rfl, ?_⟩; have HO467 := am (Kd.R_lower (Kd.R_new' ho0 (Kd.R_lt (by (with_reducible repeat (first | apply Kd.R_alloc | apply Kd.R_drewN | apply Kd.R_drew)); exact (Kd.R_mono (Kd.R_far (p := ⟨gb464, 0, none⟩) (Kd.R_types HO457.out BK464.out (by decide)) (fun _ hk => hk.2) (.slice Ao44 t461.length co44)) (fun _ h_ => h_.1))))) (below_size (q22))); replace HO454 := am (Kd.R_below (by (with_reducible repeat (first | apply Kd.R_alloc | apply Kd.R_drewN | apply Kd.R_drew)); exact (Kd.R_mono (Kd.R_far (p := ⟨gb464, 0, none⟩) (Kd.R_types HO454.out BK464.out (by decide)) (fun _ hk => hk.2) (.slice Ao44 t461.length co44)) (fun _ h_ => h_.1))) hb); replace HO457 := am (Kd.R_elder' (by (with_reducible repeat (first | apply Kd.R_alloc | apply Kd.R_drewN | apply Kd.R_drew)); exact (Kd.R_mono (Kd.R_far (p := ⟨gb464, 0, none⟩) (Kd.R_types HO457.out BK464.out (by decide)) (fun _ hk => hk.2) (.slice Ao44 t461.length co44)) (fun _ h_ => h_.1))) (Kd.R_base ho0) hb); replace HO460 := am (Kd.R_below (by (with_reducible repeat (first | apply Kd.R_alloc | apply Kd.R_drewN | apply Kd.R_drew)); exact (Kd.R_mono (Kd.R_far (p := ⟨gb464, 0, none⟩) (Kd.R_types HO460.out BK464.out (by decide)) (fun _ hk => hk.2) (.slice Ao44 t461.length co44)) (fun _ h_ => h_.1))) hb); replace HO463 := am (Kd.R_below (by (with_reducible repeat (first | apply Kd.R_alloc | apply Kd.R_drewN | apply Kd.R_drew)); exact (Kd.R_mono (Kd.R_far (p := ⟨gb464, 0, none⟩) (Kd.R_types HO463.out BK464.out (by decide)) (fun _ hk => hk.2) (.slice Ao44 t461.length co44)) (fun _ h_ => h_.1))) hb); replace BK449 := am (blk_below (g := gb449) (o := .cells #[.slice A0_0 l0_0.length c0_0] 24 (0, 0)) (by (with_reducible repeat (first | refine blk_drewN ?_ _ | refine blk_drew ?_ | refine blk_alloc ?_ _)); refine blk_far ?_ NB449_464.out _; (with_reducible repeat (first | refine blk_drewN ?_ _ | refine blk_drew ?_ | refine blk_alloc ?_ _)); exact BK449.out) hb); replace BK464 := am (blk_below (g := gb464) (o := .cells #[.slice Ao44 t461.length co44] 32 (0, 0)) (by (with_reducible repeat (first | refine blk_drewN ?_ _ | refine blk_drew ?_ | refine blk_alloc ?_ _)); refine blk_put (cs := #[.slice none 0 0]) ?_ 0 _ rfl; (with_reducible repeat (first | refine blk_drewN ?_ _ | refine blk_drew ?_ | refine blk_alloc ?_ _)); exact BK464.out) hb); replace HB := am (below_step (q22) hb); (try clear hb); (try clear hb2); (try clear hk); (try clear hi); (try clear ho0); have hcz48_0 := bc0 BK464.out; have hfz48_0 := blk_frozen BK464.out 0; obtain ⟨Ao49, co49, eo49⟩ := Kd.R_slice HO467.out; subst eo49) | ((with_reducible refine gate_callee (f := 14) rfl ?_); refine goesL_ (some 43) rfl rfl Try.func14 (by kernel_rfl) rfl #[.agg #[.slice Ao44 t461.length co44], .slice Ao49 t465.length co49, .int .i64 a2, .int .i64 a3] rfl (aq) ?_; (with_reducible refine (impl_WayOfFault.calls k _ _ t461 _ _ t465 a2 a3 t468 _ ?side1 ?side2 ?side3 ?side4 A20.out).mono ?_); (case side1 => exact cq (Kd.R_reads' HO463.out).2.2); (case side2 => exact (Kd.R_reads' HO463.out).2.1); (case side3 => exact cq (Kd.R_reads' HO467.out).2.2); (case side4 => exact (Kd.R_reads' HO467.out).2.1); rintro e w50 ⟨v469, rfl, ho0, hb⟩; refine ⟨_, rfl, ?_⟩; have HO470 := am (Kd.R_lower (Kd.R_new' ho0 (Kd.R_lt (rq HO460.out))) (below_size (q22))); replace HO454 := am (Kd.R_below (rq HO454.out) hb); replace HO457 := am (Kd.R_below (rq HO457.out) hb); replace HO460 := am (Kd.R_elder' (rq HO460.out) (Kd.R_base ho0) hb); replace HO463 := am (Kd.R_below (rq HO463.out) hb); replace HO467 := am (Kd.R_below (rq HO467.out) hb); replace BK449 := am (blk_below (g := gb449) (o := .cells #[.slice A0_0 l0_0.length c0_0] 24 (0, 0)) (kq BK449.out) hb); replace BK464 := am (blk_below (g := gb464) (o := .cells #[.slice Ao44 t461.length co44] 32 (0, 0)) (kq BK464.out) hb); replace HB := am (below_step (q22) hb); (try clear hb); (try clear hb2); (try clear hk); (try clear hi); (try clear ho0); obtain ⟨Ao51, co51, eo51⟩ := Kd.R_slice HO470.out; subst eo51; obtain ⟨Ao52, co52, eo52⟩ := Kd.R_slice HO460.out; subst eo52) | ((with_reducible refine gate_callee (f := 15) rfl ?_); refine goesL_ (some 46) rfl rfl Try.func15 (by kernel_rfl) rfl #[.slice Ao51 t468.length co51, .slice Ao52 t458.length co52] rfl (aq) ?_; (with_reducible refine (laws_eqIntS.calls k _ _ t468 _ _ t458 true _ ?side1 ?side2 ?side3 ?side4 A21.out).mono ?_); (case side1 => exact cq (Kd.R_reads' HO470.out).2.2); (case side2 => exact (Kd.R_reads' HO470.out).2.1); (case side3 => exact cq (Kd.R_reads' HO460.out).2.2); (case side4 => exact (Kd.R_reads' HO460.out).2.1); rintro e w' ⟨rfl, ⟨nd, rfl⟩⟩; refine ⟨_, rfl, ?_⟩))
      (try (rw [drewN_self w50]; generalize hq_ : World.drewN w50 _ = w50; have n0_ : Aside0 (Kd.R k87 87 w50 w.heap.size (fun k_ => (True ∧ some k_ ≠ (.slice Ao44 t461.length co44 : Value).ownBlock)) (.slice Ao38 t452.length co38) t452) := ⟨by rw [← hq_]; exact (rq HO454.out)⟩; have n1_ : Aside0 (Kd.R k52 52 w50 w.heap.size (fun k_ => (True ∧ some k_ ≠ (.slice Ao49 t465.length co49 : Value).ownBlock)) (.slice Ao39 t455.length co39) t455) := ⟨by rw [← hq_]; exact (rq HO457.out)⟩; have n2_ : Aside0 (Kd.R (Kd.int .i64) 3 w50 w.heap.size (fun k_ => (True ∧ some k_ ≠ (.slice Ao51 t468.length co51 : Value).ownBlock)) (.slice Ao52 t458.length co52) t458) := ⟨by rw [← hq_]; exact (rq HO460.out)⟩; have n3_ : Aside0 (Kd.R k87 87 w50 w.heap.size (fun k_ => (True ∧ some k_ ≠ (.slice Ao38 t452.length co38 : Value).ownBlock)) (.slice Ao44 t461.length co44) t461) := ⟨by rw [← hq_]; exact (rq HO463.out)⟩; have n4_ : Aside0 (Kd.R k52 52 w50 w.heap.size (fun k_ => (True ∧ some k_ ≠ (.slice Ao39 t455.length co39 : Value).ownBlock)) (.slice Ao49 t465.length co49) t465) := ⟨by rw [← hq_]; exact (rq HO467.out)⟩; have n5_ : Aside0 (Kd.R (Kd.int .i64) 3 w50 w.heap.size (fun k_ => (True ∧ some k_ ≠ (.slice Ao52 t458.length co52 : Value).ownBlock)) (.slice Ao51 t468.length co51) t468) := ⟨by rw [← hq_]; exact (rq HO470.out)⟩; have n6_ : Aside0 (w50.heap[gb449]? = some (.cells #[.slice A0_0 l0_0.length c0_0] 24 (0, 0))) := ⟨by rw [← hq_]; exact (kq BK449.out)⟩; have n7_ : Aside0 (w50.heap[gb464]? = some (.cells #[.slice Ao44 t461.length co44] 32 (0, 0))) := ⟨by rw [← hq_]; exact (kq BK464.out)⟩; have n8_ : Aside0 (Below w.heap.size w w50) := ⟨by rw [← hq_]; exact (q22)⟩; clear HO454 HO457 HO460 HO463 HO467 HO470 BK449 BK464 HB hq_; have HO454 := n0_; have HO457 := n1_; have HO460 := n2_; have HO463 := n3_; have HO467 := n4_; have HO470 := n5_; have BK449 := n6_; have BK464 := n7_; have HB := n8_; clear n0_ n1_ n2_ n3_ n4_ n5_ n6_ n7_ n8_))
      have n0_ := am (Kd.R_drew HO454.out)
      have n1_ := am (Kd.R_drew HO457.out)
      have n2_ := am (Kd.R_drew HO460.out)
      have n3_ := am (Kd.R_drew HO463.out)
      have n4_ := am (Kd.R_drew HO467.out)
      have n5_ := am (Kd.R_drew HO470.out)
      have n6_ := am (blk_drew BK449.out)
      have n7_ := am (blk_drew BK464.out)
      have n8_ := am (below_drew1 HB.out)
      clear HO454
      clear HO457
      clear HO460
      clear HO463
      clear HO467
      clear HO470
      clear BK449
      clear BK464
      clear HB
      have HO454 := n0_
      have HO457 := n1_
      have HO460 := n2_
      have HO463 := n3_
      have HO467 := n4_
      have HO470 := n5_
      have BK449 := n6_
      have BK464 := n7_
      have HB := n8_
      clear n0_ n1_ n2_ n3_ n4_ n5_ n6_ n7_ n8_
      refine start_ (n := 5) (S := fun w' => w'.cell? ⟨gb464, 0, none⟩ = some (.slice Ao44 t461.length co44) ∧ w'.cell? ⟨gb449, 0, none⟩ = some (.slice A0_0 l0_0.length c0_0)) (ds := []) #[false, false, false, false, false] (by kernel_rfl) rfl rfl ⟨(blk_cell BK464.out 0).trans rfl, (blk_cell BK449.out 0).trans rfl⟩ (fun hHeld => ?_)
      generalize w50.drew = w53 at HO454 HO457 HO460 HO463 HO467 HO470 BK449 BK464 HB hHeld ⊢
      refine take_ (i := 0) (N := some 48) (v := ?_) (a' := ?_) #[true, false, false, false, false] rfl rfl (by kernel_rfl) (fun _ _ _ h => h) (Or.inl ⟨by rfl, ?_⟩) hHeld ?_ ?_
      rotate_left
      ·rintro w' ⟨s0, s1⟩
       go_simp
       with_reducible rfl
      rotate_left
      ·simp only [Act.put, List.setIfInBounds_toArray, List.set_cons_zero, List.set_cons_succ, i64_w, i32_w]
       rfl
      refine take_ (i := 1) (N := some 49) (v := ?_) (a' := ?_) #[true, true, false, false, false] rfl rfl (by kernel_rfl) (fun _ _ _ h => h) (Or.inl ⟨by rfl, ?_⟩) hHeld ?_ ?_
      rotate_left
      ·rintro w' ⟨s0, s1⟩
       go_simp
       with_reducible rfl
      rotate_left
      ·simp only [Act.put, List.setIfInBounds_toArray, List.set_cons_zero, List.set_cons_succ, i64_w, i32_w]
       rfl
      refine one_ (i := 2) (N := some 50) #[true, true, true, false, false] rfl rfl (by kernel_rfl) (by decide) (fun K hK => ?_)
      refine goes_ Try.func12 (by kernel_rfl) rfl #[.agg #[.slice A0_0 l0_0.length c0_0]] (by rfl) rfl rfl (aq) ?_
      with_reducible refine (laws_toTree.calls k _ _ l0_0 t472 _ ?side1 ?side2 A23.out).mono ?_
      (case side1 => exact cq (Kd.C_below HR0_0.out HB.out))
      (case side2 => exact HC0_0.out)
      rintro e w54 ⟨v473, rfl, ho0, hb⟩
      refine ⟨_, rfl, ?_⟩
      have n0_ := am (Kd.R_elder' (rq HO454.out) (Kd.R_base ho0) hb)
      have n1_ := am (Kd.R_below (rq HO457.out) hb)
      have n2_ := am (Kd.R_below (rq HO460.out) hb)
      have n3_ := am (Kd.R_elder' (rq HO463.out) (Kd.R_base ho0) hb)
      have n4_ := am (Kd.R_below (rq HO467.out) hb)
      have n5_ := am (Kd.R_below (rq HO470.out) hb)
      have n6_ := am (Kd.R_lower (Kd.R_new' (Kd.R_new' ho0 (Kd.R_lt (rq HO454.out))) (Kd.R_lt (rq HO463.out))) (below_size (q22)))
      have n7_ := am (blk_below (g := gb449) (o := .cells #[.slice A0_0 l0_0.length c0_0] 24 (0, 0)) (kq BK449.out) hb)
      have n8_ := am (blk_below (g := gb464) (o := .cells #[.slice Ao44 t461.length co44] 32 (0, 0)) (kq BK464.out) hb)
      have n9_ := am (below_step (q22) hb)
      clear HO454
      clear HO457
      clear HO460
      clear HO463
      clear HO467
      clear HO470
      clear BK449
      clear BK464
      clear HB
      have HO454 := n0_
      have HO457 := n1_
      have HO460 := n2_
      have HO463 := n3_
      have HO467 := n4_
      have HO470 := n5_
      have HO474 := n6_
      have BK449 := n7_
      have BK464 := n8_
      have HB := n9_
      clear n0_ n1_ n2_ n3_ n4_ n5_ n6_ n7_ n8_ n9_
      (try clear hb)
      (try clear hb2)
      (try clear hk)
      (try clear hi)
      (try clear ho0)
      obtain ⟨Ao55, co55, eo55⟩ := Kd.R_slice HO474.out
      (first | subst eo55 | (injection eo55 with f1_ f2_ f3_; have f4_ := f1_.symm; have f5_ := f3_.symm; clear f1_ f2_ f3_; subst f4_; subst f5_))
      refine hK.out _ _ ⟨(blk_cell BK464.out 0).trans rfl, (blk_cell BK449.out 0).trans rfl⟩ (fun hHeld => ?_)
      clear hK K
      refine norm_ (a' := ?_) ?_ ?_
      rotate_left
      ·show Act.put _ (some 50) _ = _
       simp only [Act.put, List.setIfInBounds_toArray, List.set_cons_zero, List.set_cons_succ, i64_w, i32_w]
       rfl
      refine one_ (i := 3) (N := some 51) #[true, true, true, true, false] rfl rfl (by kernel_rfl) (by decide) (fun K hK => ?_)
      refine goes_ Try.func16 (by kernel_rfl) rfl #[.agg #[.slice Ao44 t461.length co44], .agg #[.slice Ao55 t472.length co55]] (by rfl) rfl rfl (aq) ?_
      with_reducible refine (laws_eqTree.calls k _ _ t461 _ _ t472 true _ ?side1 ?side2 ?side3 ?side4 A24.out).mono ?_
      (case side1 => exact cq (Kd.R_reads' HO463.out).2.2)
      (case side2 => exact (Kd.R_reads' HO463.out).2.1)
      (case side3 => exact cq (Kd.R_reads' HO474.out).2.2)
      (case side4 => exact (Kd.R_reads' HO474.out).2.1)
      rintro e w56 ⟨rfl, hb⟩
      refine ⟨_, rfl, ?_⟩
      have n0_ := am (Kd.R_below (rq HO454.out) hb)
      have n1_ := am (Kd.R_below (rq HO457.out) hb)
      have n2_ := am (Kd.R_below (rq HO460.out) hb)
      have n3_ := am (Kd.R_below (rq HO463.out) hb)
      have n4_ := am (Kd.R_below (rq HO467.out) hb)
      have n5_ := am (Kd.R_below (rq HO470.out) hb)
      have n6_ := am (Kd.R_below (rq HO474.out) hb)
      have n7_ := am (blk_below (g := gb449) (o := .cells #[.slice A0_0 l0_0.length c0_0] 24 (0, 0)) (kq BK449.out) hb)
      have n8_ := am (blk_below (g := gb464) (o := .cells #[.slice Ao44 t461.length co44] 32 (0, 0)) (kq BK464.out) hb)
      have n9_ := am (below_step (q22) hb)
      clear HO454
      clear HO457
      clear HO460
      clear HO463
      clear HO467
      clear HO470
      clear HO474
      clear BK449
      clear BK464
      clear HB
      have HO454 := n0_
      have HO457 := n1_
      have HO460 := n2_
      have HO463 := n3_
      have HO467 := n4_
      have HO470 := n5_
      have HO474 := n6_
      have BK449 := n7_
      have BK464 := n8_
      have HB := n9_
      clear n0_ n1_ n2_ n3_ n4_ n5_ n6_ n7_ n8_ n9_
      (try clear hb)
      (try clear hb2)
      (try clear hk)
      (try clear hi)
      refine hK.out _ _ ⟨(blk_cell BK464.out 0).trans rfl, (blk_cell BK449.out 0).trans rfl⟩ (fun hHeld => ?_)
      clear hK K
      refine norm_ (a' := ?_) ?_ ?_
      rotate_left
      ·show Act.put _ (some 51) _ = _
       simp only [Act.put, List.setIfInBounds_toArray, List.set_cons_zero, List.set_cons_succ, i64_w, i32_w]
       rfl
      refine pure_ (i := 4) (N := some 52) (v := ?_) (a' := ?_) #[true, true, true, true, true] rfl rfl (by kernel_rfl) (fun _ _ _ h => h) (Or.inl ⟨by rfl, ?_⟩) ?_ ?_
      rotate_left
      ·intro w'
       go_simp
       with_reducible rfl
      rotate_left
      ·simp only [Act.put, List.setIfInBounds_toArray, List.set_cons_zero, List.set_cons_succ, i64_w, i32_w]
       rfl
      refine done_ (by kernel_rfl) ?_
      go_upto_region 21 with (first | ((with_reducible refine gate_callee (f := 13) rfl ?_); refine goesL_ (some 55) rfl rfl Try.func13 (by kernel_rfl) rfl #[.slice A1 l1.length c1] rfl (aq) ?_; (with_reducible refine (laws_toLineS.calls k _ _ l1 t476 _ ?side1 ?side2 A26.out).mono ?_); (case side1 => exact cq (Kd.C_below HR1.out HB.out)); (case side2 => exact HC1.out); rintro e w57 ⟨v477, rfl, ho0, hb⟩; refine ⟨_, rfl, ?_⟩; have HO478 := am (Kd.R_lower (Kd.R_new' (Kd.R_new' ho0 (Kd.R_lt (rq HO457.out))) (Kd.R_lt (rq HO467.out))) (below_size (q22))); replace HO454 := am (Kd.R_below (rq HO454.out) hb); replace HO457 := am (Kd.R_elder' (rq HO457.out) (Kd.R_base ho0) hb); replace HO460 := am (Kd.R_below (rq HO460.out) hb); replace HO463 := am (Kd.R_below (rq HO463.out) hb); replace HO467 := am (Kd.R_elder' (rq HO467.out) (Kd.R_base ho0) hb); replace HO470 := am (Kd.R_below (rq HO470.out) hb); replace HO474 := am (Kd.R_below (rq HO474.out) hb); replace BK449 := am (blk_below (g := gb449) (o := .cells #[.slice A0_0 l0_0.length c0_0] 24 (0, 0)) (kq BK449.out) hb); replace BK464 := am (blk_below (g := gb464) (o := .cells #[.slice Ao44 t461.length co44] 32 (0, 0)) (kq BK464.out) hb); replace HB := am (below_step (q22) hb); (try clear hb); (try clear hb2); (try clear hk); (try clear hi); (try clear ho0); obtain ⟨Ao58, co58, eo58⟩ := Kd.R_slice HO478.out; subst eo58) | ((with_reducible refine gate_callee (f := 17) rfl ?_); refine goesL_ (some 56) rfl rfl Try.func17 (by kernel_rfl) rfl #[.slice Ao49 t465.length co49, .slice Ao58 t476.length co58] rfl (aq) ?_; (with_reducible refine (laws_eqLineS.calls k _ _ t465 _ _ t476 true _ ?side1 ?side2 ?side3 ?side4 A27.out).mono ?_); (case side1 => exact cq (Kd.R_reads' HO467.out).2.2); (case side2 => exact (Kd.R_reads' HO467.out).2.1); (case side3 => exact cq (Kd.R_reads' HO478.out).2.2); (case side4 => exact (Kd.R_reads' HO478.out).2.1); rintro e w59 ⟨rfl, hb⟩; refine ⟨_, rfl, ?_⟩; replace HO454 := am (Kd.R_below (rq HO454.out) hb); replace HO457 := am (Kd.R_below (rq HO457.out) hb); replace HO460 := am (Kd.R_below (rq HO460.out) hb); replace HO463 := am (Kd.R_below (rq HO463.out) hb); replace HO467 := am (Kd.R_below (rq HO467.out) hb); replace HO470 := am (Kd.R_below (rq HO470.out) hb); replace HO474 := am (Kd.R_below (rq HO474.out) hb); replace HO478 := am (Kd.R_below (rq HO478.out) hb); replace BK449 := am (blk_below (g := gb449) (o := .cells #[.slice A0_0 l0_0.length c0_0] 24 (0, 0)) (kq BK449.out) hb); replace BK464 := am (blk_below (g := gb464) (o := .cells #[.slice Ao44 t461.length co44] 32 (0, 0)) (kq BK464.out) hb); replace HB := am (below_step (q22) hb); (try clear hb); (try clear hb2); (try clear hk); (try clear hi); have hcz60_0 := bc0 BK464.out; have hfz60_0 := blk_frozen BK464.out 0) | ((with_reducible refine gate_callee (f := 18) rfl ?_); refine goesL_ (some 60) rfl rfl Try.func18 (by kernel_rfl) rfl #[.agg #[.slice Ao44 t461.length co44], .int .i64 1] rfl (aq) ?_; (with_reducible refine (laws_markTree.calls k (fun k_ => some k_ = (.slice Ao44 t461.length co44 : Value).ownBlock) (.slice Ao44 t461.length co44) t461 1 t480 t481 w _ ?side1 ?side2 A29.out).mono ?_); (case side1 => exact q22); (case side2 => exact Kd.R_tight rfl HO463.out); rintro e w61 ⟨rfl, hy0, hb, hkp⟩; refine ⟨_, rfl, ?_⟩; replace BK449 := am (blk_kept (kq BK449.out) hkp (fun hs_ => (fun e_ => (Kd.R_ne HO463.out BK449.out (by decide)) e_) hs_)); replace HO454 := am (Kd.R_mono (ok' := fun k_ => some k_ ≠ (.slice Ao44 t461.length co44 : Value).ownBlock ∧ some k_ ≠ (.slice Ao55 t472.length co55 : Value).ownBlock) (Kd.R_keptB (HO454.out) hkp (fun k_ hk_ hs_ => (hk_.1.2) hs_)) (fun k_ hk_ => ⟨hk_.1.1.2, hk_.1.2⟩)); replace HO457 := am (Kd.R_mono (ok' := fun k_ => some k_ ≠ (.slice Ao49 t465.length co49 : Value).ownBlock ∧ some k_ ≠ (.slice Ao58 t476.length co58 : Value).ownBlock) (Kd.R_keptB ((Kd.R_apart' HO457.out (Kd.R_typed HO463.out) (by decide))) hkp (fun k_ hk_ hs_ => (hk_.2) hs_)) (fun k_ hk_ => ⟨hk_.1.1.1.2, hk_.1.1.2⟩)); replace HO460 := am (Kd.R_mono (ok' := fun k_ => some k_ ≠ (.slice Ao51 t468.length co51 : Value).ownBlock) (Kd.R_keptB ((Kd.R_apart' HO460.out (Kd.R_typed HO463.out) (by decide))) hkp (fun k_ hk_ hs_ => (hk_.2) hs_)) (fun k_ hk_ => hk_.1.1.2)); replace BK464 := am (blk_kept (kq BK464.out) hkp (fun hs_ => (fun e_ => (Kd.R_ne HO463.out BK464.out (by decide)) e_) hs_)); replace HO467 := am (Kd.R_mono (ok' := fun k_ => some k_ ≠ (.slice Ao39 t455.length co39 : Value).ownBlock ∧ some k_ ≠ (.slice Ao58 t476.length co58 : Value).ownBlock) (Kd.R_keptB ((Kd.R_apart' HO467.out (Kd.R_typed HO463.out) (by decide))) hkp (fun k_ hk_ hs_ => (hk_.2) hs_)) (fun k_ hk_ => ⟨hk_.1.1.1.2, hk_.1.1.2⟩)); replace HO470 := am (Kd.R_mono (ok' := fun k_ => some k_ ≠ (.slice Ao52 t458.length co52 : Value).ownBlock) (Kd.R_keptB ((Kd.R_apart' HO470.out (Kd.R_typed HO463.out) (by decide))) hkp (fun k_ hk_ hs_ => (hk_.2) hs_)) (fun k_ hk_ => hk_.1.1.2)); replace HO474 := am (Kd.R_mono (ok' := fun k_ => some k_ ≠ (.slice Ao38 t452.length co38 : Value).ownBlock ∧ some k_ ≠ (.slice Ao44 t461.length co44 : Value).ownBlock) (Kd.R_keptB (HO474.out) hkp (fun k_ hk_ hs_ => (hk_.2) hs_)) (fun k_ hk_ => ⟨hk_.1.1.2, hk_.1.2⟩)); replace HO478 := am (Kd.R_mono (ok' := fun k_ => some k_ ≠ (.slice Ao39 t455.length co39 : Value).ownBlock ∧ some k_ ≠ (.slice Ao49 t465.length co49 : Value).ownBlock) (Kd.R_keptB ((Kd.R_apart' HO478.out (Kd.R_typed HO463.out) (by decide))) hkp (fun k_ hk_ hs_ => (hk_.2) hs_)) (fun k_ hk_ => ⟨hk_.1.1.1.2, hk_.1.1.2⟩)); replace HO463 := am (Kd.R_reok rfl hy0 (fun k_ e_ => HO463.out.1 k_ e_)); replace HB := am (hb); (try clear hb); (try clear hkp); (try clear hy0)) | ((with_reducible refine gate_callee (f := 19) rfl ?_); refine goesL_ (some 63) rfl rfl Try.func19 (by kernel_rfl) rfl #[.slice Ao49 t465.length co49, .int .i64 t480] rfl (aq) ?_; (with_reducible refine (laws_markLineS.calls k (fun k_ => some k_ = (.slice Ao49 t465.length co49 : Value).ownBlock) (.slice Ao49 t465.length co49) t465 t480 t482 t483 w _ ?side1 ?side2 A30.out).mono ?_); (case side1 => exact q22); (case side2 => exact Kd.R_tight rfl HO467.out); rintro e w62 ⟨rfl, hy0, hb, hkp⟩; refine ⟨_, rfl, ?_⟩; replace BK449 := am (blk_kept (kq BK449.out) hkp (fun hs_ => (fun e_ => (Kd.R_ne HO467.out BK449.out (by decide)) e_) hs_)); replace HO454 := am (Kd.R_mono (ok' := fun k_ => some k_ ≠ (.slice Ao44 t461.length co44 : Value).ownBlock ∧ some k_ ≠ (.slice Ao55 t472.length co55 : Value).ownBlock) (Kd.R_keptB ((Kd.R_apart' HO454.out (Kd.R_typed HO467.out) (by decide))) hkp (fun k_ hk_ hs_ => (hk_.2) hs_)) (fun k_ hk_ => ⟨hk_.1.1.1, hk_.1.1.2⟩)); replace HO457 := am (Kd.R_mono (ok' := fun k_ => some k_ ≠ (.slice Ao49 t465.length co49 : Value).ownBlock ∧ some k_ ≠ (.slice Ao58 t476.length co58 : Value).ownBlock) (Kd.R_keptB (HO457.out) hkp (fun k_ hk_ hs_ => (hk_.1) hs_)) (fun k_ hk_ => ⟨hk_.1.1, hk_.1.2⟩)); replace HO460 := am (Kd.R_mono (ok' := fun k_ => some k_ ≠ (.slice Ao51 t468.length co51 : Value).ownBlock) (Kd.R_keptB ((Kd.R_apart' HO460.out (Kd.R_typed HO467.out) (by decide))) hkp (fun k_ hk_ hs_ => (hk_.2) hs_)) (fun k_ hk_ => hk_.1.1)); replace HO463 := am (Kd.R_mono (ok' := fun k_ => some k_ ≠ (.slice Ao38 t452.length co38 : Value).ownBlock ∧ some k_ ≠ (.slice Ao55 t472.length co55 : Value).ownBlock) (Kd.R_keptB ((Kd.R_apart' HO463.out (Kd.R_typed HO467.out) (by decide))) hkp (fun k_ hk_ hs_ => (hk_.2) hs_)) (fun k_ hk_ => ⟨hk_.1.1.1.2, hk_.1.1.2⟩)); replace BK464 := am (blk_kept (kq BK464.out) hkp (fun hs_ => (fun e_ => (Kd.R_ne HO467.out BK464.out (by decide)) e_) hs_)); replace HO470 := am (Kd.R_mono (ok' := fun k_ => some k_ ≠ (.slice Ao52 t458.length co52 : Value).ownBlock) (Kd.R_keptB ((Kd.R_apart' HO470.out (Kd.R_typed HO467.out) (by decide))) hkp (fun k_ hk_ hs_ => (hk_.2) hs_)) (fun k_ hk_ => hk_.1.1)); replace HO474 := am (Kd.R_mono (ok' := fun k_ => some k_ ≠ (.slice Ao38 t452.length co38 : Value).ownBlock ∧ some k_ ≠ (.slice Ao44 t461.length co44 : Value).ownBlock) (Kd.R_keptB ((Kd.R_apart' HO474.out (Kd.R_typed HO467.out) (by decide))) hkp (fun k_ hk_ hs_ => (hk_.2) hs_)) (fun k_ hk_ => ⟨hk_.1.1.1, hk_.1.1.2⟩)); replace HO467 := am (Kd.R_reok rfl hy0 (fun k_ e_ => HO467.out.1 k_ e_)); replace HO478 := am (Kd.R_mono (ok' := fun k_ => some k_ ≠ (.slice Ao39 t455.length co39 : Value).ownBlock ∧ some k_ ≠ (.slice Ao49 t465.length co49 : Value).ownBlock) (Kd.R_keptB (HO478.out) hkp (fun k_ hk_ hs_ => (hk_.2) hs_)) (fun k_ hk_ => ⟨hk_.1.1, hk_.1.2⟩)); replace HB := am (hb); (try clear hb); (try clear hkp); (try clear hy0)))
      (try simp only [Act.put, List.setIfInBounds_toArray, List.set_cons_zero, List.set_cons_succ])
      go_cut [71] (fun v71 wc => ∃ (kq : Nat) (x71_30 : Bool), v71 = .bool x71_30 ∧ Aside0 (laws_FnExactWayOfFault.j0 kq l1 a2 a3 t458 t468 x71_30 l0_0 = some r) ∧ Aside0 (kq ≤ k) ∧ Aside0 (Kd.R (Kd.int .i64) 3 wc w.heap.size (fun k_ => some k_ ≠ ((.slice Ao51 t468.length co51) : Value).ownBlock) (.slice Ao52 t458.length co52) t458) ∧ Aside0 (Kd.R (Kd.int .i64) 3 wc w.heap.size (fun k_ => some k_ ≠ ((.slice Ao52 t458.length co52) : Value).ownBlock) (.slice Ao51 t468.length co51) t468) ∧ Aside0 (Kd.R k87 87 wc w.heap.size (fun _ => True) (.slice Ao44 t461.length co44) t481) ∧ Aside0 (wc.heap[gb449]? = some (.cells #[(.slice A0_0 l0_0.length c0_0)] 24 (0, 0))) ∧ Aside0 (wc.heap[gb464]? = some (.cells #[(.slice Ao44 t461.length co44)] 32 (0, 0))) ∧ Aside0 (Below w.heap.size w wc))
      case first =>
       have H := HC31.out
       clear HC31
       by_cases c63 : t482 < 0
       ·rw [if_pos c63] at H
        have c63b0 : decide (t482 < 0) = true := decide_eq_true c63
        clear c63
        (first | rw [c63b0] | (simp only [i64_w, i32_w]; rw [c63b0]) | skip)
        have H' := am H
        clear H
        go_wp2
        go_meet
        case rel => exact ⟨_, (true), (sq), H', ⟨q16⟩, ⟨rq HO460.out⟩, ⟨rq HO470.out⟩, ⟨by (with_reducible repeat (first | apply Kd.R_alloc | apply Kd.R_drewN | apply Kd.R_drew)); exact Kd.R_mono HO463.out (fun _ hk => trivial)⟩, ⟨kq BK449.out⟩, ⟨kq BK464.out⟩, ⟨q22⟩⟩
       ·rw [if_neg c63] at H
        have c63b0 : decide (t482 < 0) = false := decide_eq_false c63
        clear c63
        (first | rw [c63b0] | (simp only [i64_w, i32_w]; rw [c63b0]) | skip)
        replace H := Option.bind_eq_some_iff.mp H
        obtain ⟨t484, A640, H⟩ := H
        replace H : (laws_FnExactWayOfFault.j0 k l1 a2 a3 t458 t468 (!t484) l0_0) = some r := H
        have A64 := am A640
        clear A640
        have H' := am H
        clear H
        go_wp2_with (first | (go_at_call 15; (with_reducible refine (laws_eqIntS.calls k _ _ t468 _ _ t458 t484 _ ?side1 ?side2 ?side3 ?side4 A64.out).mono ?_); (case side1 => exact cq (Kd.R_reads' HO470.out).2.2); (case side2 => exact (Kd.R_reads' HO470.out).2.1); (case side3 => exact cq (Kd.R_reads' HO460.out).2.2); (case side4 => exact (Kd.R_reads' HO460.out).2.1); rintro e w' ⟨rfl, ⟨nd, rfl⟩⟩))
        go_meet
        case rel => exact ⟨_, (!t484), (sq), H', ⟨q16⟩, ⟨rq HO460.out⟩, ⟨rq HO470.out⟩, ⟨by (with_reducible repeat (first | apply Kd.R_alloc | apply Kd.R_drewN | apply Kd.R_drew)); exact Kd.R_mono HO463.out (fun _ hk => trivial)⟩, ⟨kq BK449.out⟩, ⟨kq BK464.out⟩, ⟨q22⟩⟩
      case rest =>
       clear HC31
       try clear c1
       try clear c2
       try clear p2
       try clear c3
       try clear c4
       try clear c6
       try clear c6b0
       try clear c9
       try clear c10
       try clear c11
       try clear c11b0
       try clear c12
       try clear c13
       try clear c14
       try clear c15
       try clear c16
       try clear c17
       try clear c18
       try clear c19
       try clear c22
       try clear c25
       try clear c28
       try clear c45
       try clear c63
       try clear c63b0
       try clear hcz13_0
       try clear hcz33_0
       try clear hcz35_0
       try clear hcz41_0
       try clear hcz46_0
       try clear hcz48_0
       try clear hcz60_0
       try clear hcz8_0
       try clear hfz13_0
       try clear hfz33_0
       try clear hfz35_0
       try clear hfz41_0
       try clear hfz46_0
       try clear hfz48_0
       try clear hfz60_0
       try clear hfz8_0
       obtain ⟨kq, x71_30, rfl, HA, HJ30, HO_10, HO_13, HO_465000, BK449, BK464, HB⟩ := hcut
       have hl465000_30 := (Kd.R_reads' HO_465000.out).1
       rw [hl465000_30] at HO_465000
       (try simp only [hl465000_30])
       (try simp only [hl465000_30] at BK449)
       (try simp only [hl465000_30] at BK464)
       (try simp only [hl465000_30] at HO_10)
       (try simp only [hl465000_30] at HO_13)
       cases kq with
       | zero => exact absurd HA.out (by simp [laws_FnExactWayOfFault.j0])
       | succ kj30 =>
        have H := HA.out
        clear HA
        simp only [laws_FnExactWayOfFault.j0] at H
        by_cases c65 : x71_30 = true
        ·subst c65
         have H1 : (some false) = some r := by rw [if_pos rfl] at H; exact H
         clear H
         have H := H1
         clear H1
         exact absurd ((Option.some.inj H).trans hT) Bool.false_ne_true
        ·replace c65 := Bool.eq_false_iff.mpr c65
         subst c65
         have H1 : ((laws_markIntS.f kj30 t468 1).bind fun bt485 => ((laws_heldIntS.f kj30 bt485.2 1).bind fun t487 => (if t487 < 0 then (some false) else (if t487 = bt485.1 then ((laws_toTree.f kj30 l0_0).bind fun t488 => ((laws_toLineS.f kj30 l1).bind fun t491 => ((impl_WayOfFault.f kj30 t488 t491 a2 a3).bind fun t494 => ((laws_eqIntS.f kj30 t494 t458).bind fun t497 => (if t497 = true then ((laws_heldIntS.f kj30 bt485.2 1).bind fun t498 => (if t498 < 0 then (some false) else (if t498 = bt485.1 then (some true) else (some false)))) else (some false)))))) else (some false))))) = some r := by rw [if_neg (show ¬ (false = true) by decide)] at H; exact H
         clear H
         have H := H1
         clear H1
         replace H := Option.bind_eq_some_iff.mp H
         obtain ⟨⟨t485, t486⟩, A660, H⟩ := H
         replace H : ((laws_heldIntS.f kj30 t486 1).bind fun t487 => (if t487 < 0 then (some false) else (if t487 = t485 then ((laws_toTree.f kj30 l0_0).bind fun t488 => ((laws_toLineS.f kj30 l1).bind fun t491 => ((impl_WayOfFault.f kj30 t488 t491 a2 a3).bind fun t494 => ((laws_eqIntS.f kj30 t494 t458).bind fun t497 => (if t497 = true then ((laws_heldIntS.f kj30 t486 1).bind fun t498 => (if t498 < 0 then (some false) else (if t498 = t485 then (some true) else (some false)))) else (some false)))))) else (some false)))) = some r := H
         have A66 := am A660
         clear A660
         replace H := Option.bind_eq_some_iff.mp H
         obtain ⟨t487, A670, H⟩ := H
         replace H : (if t487 < 0 then (some false) else (if t487 = t485 then ((laws_toTree.f kj30 l0_0).bind fun t488 => ((laws_toLineS.f kj30 l1).bind fun t491 => ((impl_WayOfFault.f kj30 t488 t491 a2 a3).bind fun t494 => ((laws_eqIntS.f kj30 t494 t458).bind fun t497 => (if t497 = true then ((laws_heldIntS.f kj30 t486 1).bind fun t498 => (if t498 < 0 then (some false) else (if t498 = t485 then (some true) else (some false)))) else (some false)))))) else (some false))) = some r := H
         have A67 := am A670
         clear A670
         by_cases c68 : t487 < 0
         ·rw [if_pos c68] at H
          have c68b0 : decide (t487 < 0) = true := decide_eq_true c68
          clear c68
          exact absurd ((Option.some.inj H).trans hT) Bool.false_ne_true
         ·rw [if_neg c68] at H
          have c68b0 : decide (t487 < 0) = false := decide_eq_false c68
          clear c68
          by_cases c69 : t487 = t485
          ·rw [if_pos c69] at H
           have c69b0 : (t487 == t485) = true := beq_iff_eq.mpr c69
           have c69b1 : (t487 != t485) = false := bne_eq_false_iff_eq.mpr c69
           clear c69
           replace H := Option.bind_eq_some_iff.mp H
           obtain ⟨t488, A700, H⟩ := H
           replace H : ((laws_toLineS.f kj30 l1).bind fun t491 => ((impl_WayOfFault.f kj30 t488 t491 a2 a3).bind fun t494 => ((laws_eqIntS.f kj30 t494 t458).bind fun t497 => (if t497 = true then ((laws_heldIntS.f kj30 t486 1).bind fun t498 => (if t498 < 0 then (some false) else (if t498 = t485 then (some true) else (some false)))) else (some false))))) = some r := H
           have A70 := am A700
           clear A700
           replace H := Option.bind_eq_some_iff.mp H
           obtain ⟨t491, A710, H⟩ := H
           replace H : ((impl_WayOfFault.f kj30 t488 t491 a2 a3).bind fun t494 => ((laws_eqIntS.f kj30 t494 t458).bind fun t497 => (if t497 = true then ((laws_heldIntS.f kj30 t486 1).bind fun t498 => (if t498 < 0 then (some false) else (if t498 = t485 then (some true) else (some false)))) else (some false)))) = some r := H
           have A71 := am A710
           clear A710
           replace H := Option.bind_eq_some_iff.mp H
           obtain ⟨t494, A720, H⟩ := H
           replace H : ((laws_eqIntS.f kj30 t494 t458).bind fun t497 => (if t497 = true then ((laws_heldIntS.f kj30 t486 1).bind fun t498 => (if t498 < 0 then (some false) else (if t498 = t485 then (some true) else (some false)))) else (some false))) = some r := H
           have A72 := am A720
           clear A720
           replace H := Option.bind_eq_some_iff.mp H
           obtain ⟨t497, A730, H⟩ := H
           replace H : (if t497 = true then ((laws_heldIntS.f kj30 t486 1).bind fun t498 => (if t498 < 0 then (some false) else (if t498 = t485 then (some true) else (some false)))) else (some false)) = some r := H
           have A73 := am A730
           clear A730
           by_cases c74 : t497 = true
           ·subst c74
            have H1 : ((laws_heldIntS.f kj30 t486 1).bind fun t498 => (if t498 < 0 then (some false) else (if t498 = t485 then (some true) else (some false)))) = some r := by rw [if_pos rfl] at H; exact H
            clear H
            have H := H1
            clear H1
            replace H := Option.bind_eq_some_iff.mp H
            obtain ⟨t498, A750, H⟩ := H
            replace H : (if t498 < 0 then (some false) else (if t498 = t485 then (some true) else (some false))) = some r := H
            have A75 := am A750
            clear A750
            by_cases c76 : t498 < 0
            ·rw [if_pos c76] at H
             have c76b0 : decide (t498 < 0) = true := decide_eq_true c76
             clear c76
             exact absurd ((Option.some.inj H).trans hT) Bool.false_ne_true
            ·rw [if_neg c76] at H
             have c76b0 : decide (t498 < 0) = false := decide_eq_false c76
             clear c76
             by_cases c77 : t498 = t485
             ·rw [if_pos c77] at H
              have c77b0 : (t498 == t485) = true := beq_iff_eq.mpr c77
              have c77b1 : (t498 != t485) = false := bne_eq_false_iff_eq.mpr c77
              clear c77
              obtain rfl := Option.some.inj H
              go_wp2_with (first | ((with_reducible refine gate_callee (f := 20) rfl ?_); refine goesL_ (some 74) rfl rfl Try.func20 (by kernel_rfl) rfl #[.slice Ao51 t468.length co51, .int .i64 1] rfl (aq) ?_; (with_reducible refine (laws_markIntS.calls kj30 (fun k_ => some k_ = (.slice Ao51 t468.length co51 : Value).ownBlock) (.slice Ao51 t468.length co51) t468 1 t485 t486 w _ ?side1 ?side2 A66.out).mono ?_); (case side1 => exact q22); (case side2 => exact Kd.R_tight rfl HO_13.out); rintro e w78 ⟨rfl, hy0, hb, hkp⟩; refine ⟨_, rfl, ?_⟩; replace HO_10 := am (Kd.R_mono (ok' := fun k_ => some k_ ≠ (.slice Ao51 t468.length co51 : Value).ownBlock) (Kd.R_keptB (HO_10.out) hkp (fun k_ hk_ hs_ => (hk_) hs_)) (fun k_ hk_ => hk_.1)); replace HO_465000 := am (Kd.R_mono (ok' := fun k_ => True) (Kd.R_keptB ((Kd.R_apart' HO_465000.out (Kd.R_typed HO_13.out) (by decide))) hkp (fun k_ hk_ hs_ => (hk_.2) hs_)) (fun k_ hk_ => trivial)); replace BK449 := am (blk_kept (kq BK449.out) hkp (fun hs_ => (fun e_ => (Kd.R_ne HO_13.out BK449.out (by decide)) e_) hs_)); replace BK464 := am (blk_kept (kq BK464.out) hkp (fun hs_ => (fun e_ => (Kd.R_ne HO_13.out BK464.out (by decide)) e_) hs_)); replace HO_13 := am (Kd.R_reok rfl hy0 (fun k_ e_ => HO_13.out.1 k_ e_)); replace HB := am (hb); (try clear hb); (try clear hkp); (try clear hy0)) | ((with_reducible refine gate_callee (f := 21) rfl ?_); refine goesL_ (some 77) rfl rfl Try.func21 (by kernel_rfl) rfl #[.slice Ao51 t486.length co51, .int .i64 1] rfl (by (try simp only [List.map_toArray, List.map_cons, List.map_nil]); first | done | (rw [show t486.length = t468.length from (Kd.R_reads' HO_13.out).1.symm] <;> rfl) | rfl | (simp only [List.length_drop, List.length_take]; rfl)) ?_; (with_reducible refine (laws_heldIntS.calls kj30 _ _ t486 1 t487 _ ?side1 ?side2 A67.out).mono ?_); (case side1 => exact cq (Kd.R_reads' HO_13.out).2.2); (case side2 => rw [show t486.length = t468.length from (Kd.R_reads' HO_13.out).1.symm]; exact (Kd.R_reads' HO_13.out).2.1); rintro e w' ⟨rfl, ⟨nd, rfl⟩⟩; refine ⟨_, rfl, ?_⟩; have hnb79 := NB449_464.out; have hnc79 := NB464_449.out; have hcz80_0 := bc0 BK449.out; have hfz80_0 := blk_frozen BK449.out 0) | ((with_reducible refine gate_callee (f := 12) rfl ?_); refine goesL_ (some 84) rfl rfl Try.func12 (by kernel_rfl) rfl #[.agg #[.slice A0_0 l0_0.length c0_0]] rfl (aq) ?_; (with_reducible refine (laws_toTree.calls kj30 _ _ l0_0 t488 _ ?side1 ?side2 A70.out).mono ?_); (case side1 => repeat (first | exact (Kd.C_below HR0_0.out (by repeat (first | (with_reducible first | exact HB.out | apply below_alloc | apply pw_below_drewN | apply below_drew1 | refine below_set ?_ GE449.out | refine below_set ?_ GE464.out) | exact HB.out))) | (with_reducible refine Kd.C_alloc ?_ _) | (with_reducible refine Kd.C_drewN ?_ _) | (with_reducible refine Kd.C_drew ?_))); (case side2 => exact HC0_0.out); rintro e w81 ⟨v489, rfl, ho0, hb⟩; refine ⟨_, rfl, ?_⟩; have HO490 := am (Kd.R_lower (Kd.R_new' ho0 (Kd.R_lt (rq HO_465000.out))) (below_size (q22))); replace HO_10 := am (Kd.R_below (rq HO_10.out) hb); replace HO_13 := am (Kd.R_below (rq HO_13.out) hb); replace HO_465000 := am (Kd.R_elder' (rq HO_465000.out) (Kd.R_base ho0) hb); replace BK449 := am (blk_below (g := gb449) (o := .cells #[.slice A0_0 l0_0.length c0_0] 24 (0, 0)) (kq BK449.out) hb); replace BK464 := am (blk_below (g := gb464) (o := .cells #[.slice Ao44 t481.length co44] 32 (0, 0)) (kq BK464.out) hb); replace HB := am (below_step (q22) hb); (try clear hb); (try clear hb2); (try clear hk); (try clear hi); (try clear ho0)) | ((with_reducible refine gate_callee (f := 13) rfl ?_); refine goesL_ (some 86) rfl rfl Try.func13 (by kernel_rfl) rfl #[.slice A1 l1.length c1] rfl (aq) ?_; (with_reducible refine (laws_toLineS.calls kj30 _ _ l1 t491 _ ?side1 ?side2 A71.out).mono ?_); (case side1 => exact cq (Kd.C_below HR1.out HB.out)); (case side2 => exact HC1.out); rintro e w82 ⟨v492, rfl, ho0, hb⟩; refine ⟨_, rfl, ?_⟩; have HO493 := am (Kd.R_lower ho0 (below_size (q22))); replace HO_10 := am (Kd.R_below (rq HO_10.out) hb); replace HO_13 := am (Kd.R_below (rq HO_13.out) hb); replace HO_465000 := am (Kd.R_below (rq HO_465000.out) hb); replace HO490 := am (Kd.R_below (rq HO490.out) hb); replace BK449 := am (blk_below (g := gb449) (o := .cells #[.slice A0_0 l0_0.length c0_0] 24 (0, 0)) (kq BK449.out) hb); replace BK464 := am (blk_below (g := gb464) (o := .cells #[.slice Ao44 t481.length co44] 32 (0, 0)) (kq BK464.out) hb); replace HB := am (below_step (q22) hb); (try clear hb); (try clear hb2); (try clear hk); (try clear hi); (try clear ho0); obtain ⟨Ao83, co83, eo83⟩ := Kd.R_slice HO490.out; subst eo83; obtain ⟨Ao84, co84, eo84⟩ := Kd.R_slice HO493.out; subst eo84) | ((with_reducible refine gate_callee (f := 14) rfl ?_); refine goesL_ (some 89) rfl rfl Try.func14 (by kernel_rfl) rfl #[.agg #[.slice Ao83 t488.length co83], .slice Ao84 t491.length co84, .int .i64 a2, .int .i64 a3] rfl (aq) ?_; (with_reducible refine (impl_WayOfFault.calls kj30 _ _ t488 _ _ t491 a2 a3 t494 _ ?side1 ?side2 ?side3 ?side4 A72.out).mono ?_); (case side1 => exact cq (Kd.R_reads' HO490.out).2.2); (case side2 => exact (Kd.R_reads' HO490.out).2.1); (case side3 => exact cq (Kd.R_reads' HO493.out).2.2); (case side4 => exact (Kd.R_reads' HO493.out).2.1); rintro e w85 ⟨v495, rfl, ho0, hb⟩; refine ⟨_, rfl, ?_⟩; have HO496 := am (Kd.R_lower (Kd.R_new' (Kd.R_new' ho0 (Kd.R_lt (rq HO_10.out))) (Kd.R_lt (rq HO_13.out))) (below_size (q22))); replace HO_10 := am (Kd.R_elder' (rq HO_10.out) (Kd.R_base ho0) hb); replace HO_13 := am (Kd.R_elder' (rq HO_13.out) (Kd.R_base ho0) hb); replace HO_465000 := am (Kd.R_below (rq HO_465000.out) hb); replace HO490 := am (Kd.R_below (rq HO490.out) hb); replace HO493 := am (Kd.R_below (rq HO493.out) hb); replace BK449 := am (blk_below (g := gb449) (o := .cells #[.slice A0_0 l0_0.length c0_0] 24 (0, 0)) (kq BK449.out) hb); replace BK464 := am (blk_below (g := gb464) (o := .cells #[.slice Ao44 t481.length co44] 32 (0, 0)) (kq BK464.out) hb); replace HB := am (below_step (q22) hb); (try clear hb); (try clear hb2); (try clear hk); (try clear hi); (try clear ho0); obtain ⟨Ao86, co86, eo86⟩ := Kd.R_slice HO496.out; subst eo86) | ((with_reducible refine gate_callee (f := 15) rfl ?_); refine goesL_ (some 92) rfl rfl Try.func15 (by kernel_rfl) rfl #[.slice Ao86 t494.length co86, .slice Ao52 t458.length co52] rfl (aq) ?_; (with_reducible refine (laws_eqIntS.calls kj30 _ _ t494 _ _ t458 true _ ?side1 ?side2 ?side3 ?side4 A73.out).mono ?_); (case side1 => exact cq (Kd.R_reads' HO496.out).2.2); (case side2 => exact (Kd.R_reads' HO496.out).2.1); (case side3 => exact cq (Kd.R_reads' HO_10.out).2.2); (case side4 => exact (Kd.R_reads' HO_10.out).2.1); rintro e w' ⟨rfl, ⟨nd, rfl⟩⟩; refine ⟨_, rfl, ?_⟩) | ((with_reducible refine gate_callee (f := 21) rfl ?_); refine goesL_ (some 96) rfl rfl Try.func21 (by kernel_rfl) rfl #[.slice Ao51 t486.length co51, .int .i64 1] rfl (by (try simp only [List.map_toArray, List.map_cons, List.map_nil]); first | done | (rw [show t486.length = t468.length from (Kd.R_reads' HO_13.out).1.symm] <;> rfl) | rfl | (simp only [List.length_drop, List.length_take]; rfl)) ?_; (with_reducible refine (laws_heldIntS.calls kj30 _ _ t486 1 t498 _ ?side1 ?side2 A75.out).mono ?_); (case side1 => exact cq (Kd.R_reads' HO_13.out).2.2); (case side2 => rw [show t486.length = t468.length from (Kd.R_reads' HO_13.out).1.symm]; exact (Kd.R_reads' HO_13.out).2.1); rintro e w' ⟨rfl, ⟨nd, rfl⟩⟩; refine ⟨_, rfl, ?_⟩))
              go_ret
              exact ⟨q0, q22⟩
             ·rw [if_neg c77] at H
              have c77b0 : (t498 == t485) = false := beq_eq_false_iff_ne.mpr c77
              have c77b1 : (t498 != t485) = true := bne_iff_ne.mpr c77
              exact absurd ((Option.some.inj H).trans hT) Bool.false_ne_true
           ·replace c74 := Bool.eq_false_iff.mpr c74
            subst c74
            have H1 : (some false) = some r := by rw [if_neg (show ¬ (false = true) by decide)] at H; exact H
            clear H
            have H := H1
            clear H1
            exact absurd ((Option.some.inj H).trans hT) Bool.false_ne_true
          ·rw [if_neg c69] at H
           have c69b0 : (t487 == t485) = false := beq_eq_false_iff_ne.mpr c69
           have c69b1 : (t487 != t485) = true := bne_iff_ne.mpr c69
           exact absurd ((Option.some.inj H).trans hT) Bool.false_ne_true
     ·replace c28 := Bool.eq_false_iff.mpr c28
      subst c28
      have H1 : (some false) = some r := by rw [if_neg (show ¬ (false = true) by decide)] at H; exact H
      clear H
      have H := H1
      clear H1
      exact absurd ((Option.some.inj H).trans hT) Bool.false_ne_true
    ·replace c25 := Bool.eq_false_iff.mpr c25
     subst c25
     have H1 : (some false) = some r := by rw [if_neg (show ¬ (false = true) by decide)] at H; exact H
     clear H
     have H := H1
     clear H1
     exact absurd ((Option.some.inj H).trans hT) Bool.false_ne_true
   ·replace c22 := Bool.eq_false_iff.mpr c22
    subst c22
    have H1 : (some false) = some r := by rw [if_neg (show ¬ (false = true) by decide)] at H; exact H
    clear H
    have H := H1
    clear H1
    exact absurd ((Option.some.inj H).trans hT) Bool.false_ne_true
end Go.Proofs.Ytkokajljeebgdaa.P
end
