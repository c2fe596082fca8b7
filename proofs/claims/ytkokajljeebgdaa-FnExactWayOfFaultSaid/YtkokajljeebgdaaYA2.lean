/- One part of the proofs on this program: functions of the program as plain functions, that the code comes to them, and facts on them. -/
import Derived.Test.YtkokajljeebgdaaYA1
import Derived.Test.YtkokajljeebgdaaYACDE1
import Derived.Test.YtkokajljeebgdaaYAll1
import Derived.Test.YtkokajljeebgdaaYAll3
import Derived.Test.YtkokajljeebgdaaYWAuto
section
namespace Go.Proofs.Ytkokajljeebgdaa.P
open Go.RowKit Go.Proofs.YtkokajljeebgdaaW.PrintWords Go.Proofs.YtkokajljeebgdaaW.PrintLast Go.Proofs.YtkokajljeebgdaaW.PrintMore
attribute [local go_sem] max2_int min2_int max_two min_two max_three min_three max_four min_four isSome_cell_setCell
set_option linter.unusedVariables false
set_option linter.unusedSimpArgs false
def spec_WayOfFault.l0 : Nat → List (S52) → Int → List Int → Int → List (S87) → Option (List Int)
 | 0, _, _, _, _, _ => none
 | k + 1, x1, x3, x9, x10, x219000 => if x10 < (x9.length : Int) then (if 0 ≤ x10 then ((spec_catcher.f k x219000 x1 (rd x9 x10) x3).bind fun t224 => (if t224 < 0 then (spec_WayOfFault.l0 k x1 x3 x9 (wrap64 (x10 + 1)) x219000) else (if x10 ≤ (x9.length : Int) then ((spec_wayOut.f k x1 (x9.take (x10 : Int).toNat)).bind fun t229 => (some t229)) else (none)))) else (none)) else (if 0 ≤ x10 then (if x10 ≤ (x9.length : Int) then ((spec_wayOut.f k x1 (x9.take (x10 : Int).toNat)).bind fun t236 => (some t236)) else (none)) else (none))
def spec_WayOfFault.f (k : Nat) (l0_0 : List (S87)) (l1 : List (S52)) (a2 : Int) (a3 : Int) : Option (List Int) := (spec_goodRaise.f k l0_0 l1 a2 a3).bind fun t219 => (if t219 = true then ((spec_enclosing.f k l1 a2).bind fun t220 => (spec_WayOfFault.l0 k l1 a3 t220 0 l0_0)) else (some ([] : List Int)))
def spec_WayOfFault.T5 : Bool × List (List Nat × List Nat) := (true, [([], []), ([], []), ([1], [1]), ([0, 2], [0, 2]), ([3], [3]), ([4], [4]), ([4], [4]), ([4], [4]), ([4], [4]), ([7, 8, 4], [4, 7, 8]), ([9, 4], [4, 9]), ([4], [4]), ([5, 6, 10, 11, 4, 4], [4, 5, 6, 10, 11]), ([12, 4], [4, 12]), ([4, 13], [4, 13])])
def spec_WayOfFault.B5 : List Nat := [0, 0, 2, 7, 15, 31, 31, 31, 31, 415, 927, 31, 4095, 8191, 16383]
theorem spec_WayOfFault.tab5 : rtab .any (opsOf Try.f11 5) = spec_WayOfFault.T5 := by kernel_rfl
theorem spec_WayOfFault.bits5 : waitsOk spec_WayOfFault.T5.2 spec_WayOfFault.B5 = true := by kernel_rfl
set_option maxHeartbeats 8000000 in
set_option maxRecDepth 100000 in
theorem spec_WayOfFault.calls (k : Nat) (A0_0 : Option Addr) (c0_0 : Nat) (l0_0 : List (S87)) (A1 : Option Addr) (c1 : Nat) (l1 : List (S52)) (a2 : Int) (a3 : Int) (r : List Int) (w : World) (hr0_0 : Kd.C k87 w A0_0 l0_0.length l0_0) (hc0_0 : l0_0.length ≤ c0_0) (hr1 : Kd.C k52 w A1 l1.length l1) (hc1 : l1.length ≤ c1) (h : spec_WayOfFault.f k l0_0 l1 a2 a3 = some r) :
  Calls Try.prog 11 #[.agg #[.slice A0_0 l0_0.length c0_0], .slice A1 l1.length c1, .int .i64 a2, .int .i64 a3] w fun e w' => ∃ v0_ : Value, e = .returned (v0_) ∧ Kd.R (Kd.int .i64) 3 w' w.heap.size (fun _ => True) v0_ r ∧ Below w.heap.size w w' := by
 have hu32 := Try.underlying32
 have HR0_0 := am hr0_0
 have HC0_0 := am hc0_0
 clear hr0_0 hc0_0
 have HR1 := am hr1
 have HC1 := am hc1
 clear hr1 hc1
 have HB := am (Below.refl w.heap.size w)
 have H : ((spec_goodRaise.f k l0_0 l1 a2 a3).bind fun t219 => (if t219 = true then ((spec_enclosing.f k l1 a2).bind fun t220 => (spec_WayOfFault.l0 k l1 a3 t220 0 l0_0)) else (some ([] : List Int)))) = some r := h
 clear h
 replace H := Option.bind_eq_some_iff.mp H
 obtain ⟨t219, A50, H⟩ := H
 replace H : (if t219 = true then ((spec_enclosing.f k l1 a2).bind fun t220 => (spec_WayOfFault.l0 k l1 a3 t220 0 l0_0)) else (some ([] : List Int))) = some r := H
 have A5 := am A50
 clear A50
 by_cases c6 : t219 = true
 ·subst c6
  have H1 : ((spec_enclosing.f k l1 a2).bind fun t220 => (spec_WayOfFault.l0 k l1 a3 t220 0 l0_0)) = some r := by rw [if_pos rfl] at H; exact H
  clear H
  have H := H1
  clear H1
  replace H := Option.bind_eq_some_iff.mp H
  obtain ⟨t220, A70, H⟩ := H
  replace H : (spec_WayOfFault.l0 k l1 a3 t220 0 l0_0) = some r := H
  have A7 := am A70
  clear A70
  have H' := am H
  clear H
  go_enter Try.func11, Try.ntmps11
  go_wp2_with (first | ((with_reducible refine gate_dst (N := 4) rfl ?_); refine bE (N := 4) (cs := #[.slice A0_0 l0_0.length c0_0]) (t := 32) ?_; intro gb218 hg w8 hbox hb; have BK218 := am (hbox); have GW218 := am ((by rw [hg]; exact (below_size (bq)) : w.heap.size ≤ gb218)); have GE218 := am ((by rw [hg]; exact (below_size (bq)) : w.heap.size ≤ gb218)); replace HB := am (below_step (bq) hb); clear hb hbox hg; have hcz9_0 := bc0 BK218.out; have hfz9_0 := blk_frozen BK218.out 0) | ((with_reducible refine gate_callee (f := 42) rfl ?_); refine goesL_ (some 15) rfl rfl Try.func42 (by kernel_rfl) rfl #[.agg #[.slice A0_0 l0_0.length c0_0], .slice A1 l1.length c1, .int .i64 a2, .int .i64 a3] rfl (aq) ?_; (with_reducible refine (spec_goodRaise.calls k _ _ l0_0 _ _ l1 a2 a3 true _ ?side1 ?side2 ?side3 ?side4 A5.out).mono ?_); (case side1 => exact cq (Kd.C_below HR0_0.out HB.out)); (case side2 => exact HC0_0.out); (case side3 => exact cq (Kd.C_below HR1.out HB.out)); (case side4 => exact HC1.out); rintro e w10 ⟨rfl, hb⟩; refine ⟨_, rfl, ?_⟩; replace BK218 := am (blk_below (g := gb218) (o := .cells #[.slice A0_0 l0_0.length c0_0] 32 (0, 0)) (kq BK218.out) hb); replace HB := am (below_step (q44) hb); (try clear hb); (try clear hb2); (try clear hk); (try clear hi)) | ((with_reducible refine gate_callee (f := 43) rfl ?_); refine goesL_ (some 19) rfl rfl Try.func43 (by kernel_rfl) rfl #[.slice A1 l1.length c1, .int .i64 a2] rfl (aq) ?_; (with_reducible refine (spec_enclosing.calls k _ _ l1 a2 t220 _ ?side1 ?side2 A7.out).mono ?_); (case side1 => exact cq (Kd.C_below HR1.out HB.out)); (case side2 => exact HC1.out); rintro e w11 ⟨v221, rfl, ho0, hb⟩; refine ⟨_, rfl, ?_⟩; have HO222 := am (Kd.R_lower ho0 (below_size (q44))); replace BK218 := am (blk_below (g := gb218) (o := .cells #[.slice A0_0 l0_0.length c0_0] 32 (0, 0)) (kq BK218.out) hb); replace HB := am (below_step (q44) hb); (try clear hb); (try clear hb2); (try clear hk); (try clear hi); (try clear ho0)))
  go_loopg [10] k (fun kq v10 w' => ∃ (x10_1 : Int), v10 = .int .i64 x10_1 ∧ Aside0 (spec_WayOfFault.l0 kq l1 a3 t220 x10_1 l0_0 = some r) ∧ Aside0 (kq ≤ k) ∧ Aside0 (Kd.R (Kd.int .i64) 3 w' w.heap.size (fun _ => True) v221 t220) ∧ Aside0 (w'.heap[gb218]? = some (.cells #[(.slice A0_0 l0_0.length c0_0)] 32 (0, 0))) ∧ Aside0 (Below w.heap.size w w'))
  case atStart => exact ⟨(0), (sq), H', ⟨Nat.le_refl _⟩, ⟨rq HO222.out⟩, ⟨kq BK218.out⟩, ⟨q44⟩⟩
  case round =>
   clear H'
   try clear c1
   try clear p2
   try clear c4
   try clear c6
   try clear c11
   try clear hcz9_0
   try clear hfz9_0
   obtain ⟨x10_1, rfl, HA, HK1, HO_9, BK218, HB⟩ := hrel
   cases gk with
   | zero => exact absurd HA.out (by simp [spec_WayOfFault.l0])
   | succ k1 =>
    have H := HA.out
    clear HA
    simp only [spec_WayOfFault.l0] at H
    by_cases c12 : x10_1 < (t220.length : Int)
    ·rw [if_pos c12] at H
     have c12b0 : decide (x10_1 < (t220.length : Int)) = true := decide_eq_true c12
     clear c12
     by_cases c13 : 0 ≤ x10_1
     ·rw [if_pos c13] at H
      have c13b0 : decide (0 ≤ x10_1) = true := decide_eq_true c13
      clear c13
      replace H := Option.bind_eq_some_iff.mp H
      obtain ⟨t224, A140, H⟩ := H
      replace H : (if t224 < 0 then (spec_WayOfFault.l0 k1 l1 a3 t220 (wrap64 (x10_1 + 1)) l0_0) else (if x10_1 ≤ (t220.length : Int) then ((spec_wayOut.f k1 l1 (t220.take (x10_1 : Int).toNat)).bind fun t229 => (some t229)) else (none))) = some r := H
      have A14 := am A140
      clear A140
      by_cases c15 : t224 < 0
      ·rw [if_pos c15] at H
       have c15b0 : decide (t224 < 0) = true := decide_eq_true c15
       clear c15
       have H' := am H
       clear H
       try go_wp2
       have n0_ := am (Kd.R_drew HO_9.out)
       have n1_ := am (blk_drew BK218.out)
       have n2_ := am (below_drew1 HB.out)
       clear HO_9
       clear BK218
       clear HB
       have HO_9 := n0_
       have BK218 := n1_
       have HB := n2_
       clear n0_ n1_ n2_
       obtain ⟨Ao17, co17, eo17⟩ := Kd.R_slice HO_9.out
       (first | subst eo17 | (injection eo17 with f1_ f2_ f3_; have f4_ := f1_.symm; have f5_ := f3_.symm; clear f1_ f2_ f3_; subst f4_; subst f5_))
       have p223 : 0 ≤ (x10_1 : Int) := of_decide_eq_true (uq)
       have q223 : x10_1 < (t220.length : Int) := of_decide_eq_true (uq)
       obtain ⟨ad223, e223, hx223_0⟩ := Kd.at_int (Kd.R_reads' HO_9.out).2.2 x10_1 p223 q223
       cases e223
       replace p223 := eq_true p223
       replace q223 := eq_true q223
       refine start_ (n := 15) (S := fun w' => w'.cell? ⟨gb218, 0, none⟩ = some (.slice A0_0 l0_0.length c0_0) ∧ w'.cell? (ad223.add (x10_1).toNat) = some (.int .i64 (rd t220 x10_1))) (ds := []) #[false, false, false, false, false, false, false, false, false, false, false, false, false, false, false] (by kernel_rfl) rfl rfl ⟨(blk_cell BK218.out 0).trans rfl, hx223_0⟩ (fun hHeld => ?_); refine with_tabW spec_WayOfFault.tab5 spec_WayOfFault.bits5 (fun HT_ HW_ => ?_)
       generalize wr.drew = w16 at HO_9 BK218 HB hx223_0 hHeld ⊢
       refine pure_ (i := 0) (N := some 20) (v := ?_) (a' := ?_) #[true, false, false, false, false, false, false, false, false, false, false, false, false, false, false] rfl rfl (any_of HT_.out (by kernel_rfl)) (fun _ _ _ h => h) (Or.inl ⟨by rfl, ?_⟩) ?_ ?_
       rotate_left
       ·intro w'
        go_simp
        with_reducible rfl
       rotate_left
       ·simp only [Act.put, List.setIfInBounds_toArray, List.set_cons_zero, List.set_cons_succ, i64_w, i32_w]
        rfl
       refine pure_ (i := 1) (N := some 21) (v := ?_) (a' := ?_) #[true, true, false, false, false, false, false, false, false, false, false, false, false, false, false] rfl rfl (any_of HT_.out (by kernel_rfl)) (fun _ _ _ h => h) (Or.inl ⟨by rfl, ?_⟩) ?_ ?_
       rotate_left
       ·intro w'
        go_simp
        with_reducible rfl
       rotate_left
       ·simp only [Act.put, List.setIfInBounds_toArray, List.set_cons_zero, List.set_cons_succ, i64_w, i32_w]
        rfl
       refine pure_ (i := 2) (N := some 22) (v := ?_) (a' := ?_) #[true, true, true, false, false, false, false, false, false, false, false, false, false, false, false] rfl rfl (any_of HT_.out (by kernel_rfl)) (fun _ _ _ h => h) (Or.inl ⟨by rfl, ?_⟩) ?_ ?_
       rotate_left
       ·intro w'
        go_simp
        with_reducible rfl
       rotate_left
       ·simp only [Act.put, List.setIfInBounds_toArray, List.set_cons_zero, List.set_cons_succ, i64_w, i32_w]
        rfl
       refine pure_ (i := 3) (N := some 23) (v := ?_) (a' := ?_) #[true, true, true, true, false, false, false, false, false, false, false, false, false, false, false] rfl rfl (any_of HT_.out (by kernel_rfl)) (fun _ _ _ h => h) (Or.inl ⟨by rfl, ?_⟩) ?_ ?_
       rotate_left
       ·intro w'
        go_simp
        with_reducible rfl
       rotate_left
       ·simp only [Act.put, List.setIfInBounds_toArray, List.set_cons_zero, List.set_cons_succ, i64_w, i32_w]
        rfl
       refine pure_ (i := 4) (N := some 24) (v := ?_) (a' := ?_) #[true, true, true, true, true, false, false, false, false, false, false, false, false, false, false] rfl rfl (any_of HT_.out (by kernel_rfl)) (fun _ _ _ h => h) (Or.inl ⟨by rfl, ?_⟩) ?_ ?_
       rotate_left
       ·intro w'
        go_simp
        with_reducible rfl
       rotate_left
       ·simp only [Act.put, List.setIfInBounds_toArray, List.set_cons_zero, List.set_cons_succ, i64_w, i32_w]
        rfl
       refine pure_ (i := 6) (N := some 26) (v := ?_) (a' := ?_) #[true, true, true, true, true, false, true, false, false, false, false, false, false, false, false] rfl rfl (any_of HT_.out (by kernel_rfl)) (fun _ _ _ h => h) (Or.inl ⟨by rfl, ?_⟩) ?_ ?_
       rotate_left
       ·intro w'
        go_simp
        with_reducible rfl
       rotate_left
       ·simp only [Act.put, List.setIfInBounds_toArray, List.set_cons_zero, List.set_cons_succ, i64_w, i32_w]
        rfl
       refine pure_ (i := 7) (N := some 27) (v := ?_) (a' := ?_) #[true, true, true, true, true, false, true, true, false, false, false, false, false, false, false] rfl rfl (any_of HT_.out (by kernel_rfl)) (fun _ _ _ h => h) (Or.inl ⟨by rfl, ?_⟩) ?_ ?_
       rotate_left
       ·intro w'
        go_simp
        with_reducible rfl
       rotate_left
       ·simp only [Act.put, List.setIfInBounds_toArray, List.set_cons_zero, List.set_cons_succ, i64_w, i32_w]
        rfl
       refine pure_ (i := 8) (N := some 28) (v := ?_) (a' := ?_) #[true, true, true, true, true, false, true, true, true, false, false, false, false, false, false] rfl rfl (any_of HT_.out (by kernel_rfl)) (fun _ _ _ h => h) (Or.inl ⟨by rfl, ?_⟩) ?_ ?_
       rotate_left
       ·intro w'
        go_simp
        with_reducible rfl
       rotate_left
       ·simp only [Act.put, List.setIfInBounds_toArray, List.set_cons_zero, List.set_cons_succ, i64_w, i32_w]
        rfl
       refine pure_ (i := 9) (N := some 29) (v := ?_) (a' := ?_) #[true, true, true, true, true, false, true, true, true, true, false, false, false, false, false] rfl rfl (any_of HT_.out (by kernel_rfl)) (fun _ _ _ h => h) (Or.inl ⟨by rfl, ?_⟩) ?_ ?_
       rotate_left
       ·intro w'
        go_simp
        with_reducible rfl
       rotate_left
       ·simp only [Act.put, List.setIfInBounds_toArray, List.set_cons_zero, List.set_cons_succ, i64_w, i32_w]
        rfl
       refine pure_ (i := 11) (N := some 31) (v := ?_) (a' := ?_) #[true, true, true, true, true, false, true, true, true, true, false, true, false, false, false] rfl rfl (any_of HT_.out (by kernel_rfl)) (fun _ _ _ h => h) (Or.inl ⟨by rfl, ?_⟩) ?_ ?_
       rotate_left
       ·intro w'
        go_simp
        with_reducible rfl
       rotate_left
       ·simp only [Act.put, List.setIfInBounds_toArray, List.set_cons_zero, List.set_cons_succ, i64_w, i32_w]
        rfl
       refine take_ (i := 5) (N := some 25) (v := ?_) (a' := ?_) #[true, true, true, true, true, true, true, true, true, true, false, true, false, false, false] rfl rfl (take_ofW HT_.out HW_.out (by kernel_rfl)) (fun _ _ _ h => h) (Or.inl ⟨by rfl, ?_⟩) hHeld ?_ ?_
       rotate_left
       ·rintro w' ⟨s0, s1⟩
        go_simp
        with_reducible rfl
       rotate_left
       ·simp only [Act.put, List.setIfInBounds_toArray, List.set_cons_zero, List.set_cons_succ, i64_w, i32_w]
        rfl
       refine take_ (i := 10) (N := some 30) (v := ?_) (a' := ?_) #[true, true, true, true, true, true, true, true, true, true, true, true, false, false, false] rfl rfl (take_ofW HT_.out HW_.out (by kernel_rfl)) (fun _ _ _ h => h) (Or.inl ⟨by rfl, ?_⟩) hHeld ?_ ?_
       rotate_left
       ·rintro w' ⟨s0, s1⟩
        go_simp
        with_reducible rfl
       rotate_left
       ·simp only [Act.put, List.setIfInBounds_toArray, List.set_cons_zero, List.set_cons_succ, i64_w, i32_w]
        rfl
       refine one_ (i := 12) (N := some 32) #[true, true, true, true, true, true, true, true, true, true, true, true, true, false, false] rfl rfl (one_of HT_.out (by kernel_rfl)) (by decide) (fun K hK => ?_)
       refine goes_ Try.func44 (by kernel_rfl) rfl #[.agg #[.slice A0_0 l0_0.length c0_0], .slice A1 l1.length c1, .int .i64 (rd t220 x10_1), .int .i64 a3] (by rfl) rfl rfl (aq) ?_
       with_reducible refine (spec_catcher.calls k1 _ _ l0_0 _ _ l1 (rd t220 x10_1) a3 t224 _ ?side1 ?side2 ?side3 ?side4 A14.out).mono ?_
       (case side1 => exact cq (Kd.C_below HR0_0.out HB.out))
       (case side2 => exact HC0_0.out)
       (case side3 => exact cq (Kd.C_below HR1.out HB.out))
       (case side4 => exact HC1.out)
       rintro e w18 ⟨rfl, hb⟩
       have HS1_ := (hb.cell (World.block_lt_of_cell? _ _ (hHeld.2))).trans (hHeld.2)
       refine ⟨_, rfl, ?_⟩
       have n0_ := am (Kd.R_below (rq HO_9.out) hb)
       have n1_ := am (blk_below (g := gb218) (o := .cells #[.slice A0_0 l0_0.length c0_0] 32 (0, 0)) (kq BK218.out) hb)
       have n2_ := am (below_step (q44) hb)
       clear HO_9
       clear BK218
       clear HB
       have HO_9 := n0_
       have BK218 := n1_
       have HB := n2_
       clear n0_ n1_ n2_
       (try clear hb)
       (try clear hb2)
       (try clear hk)
       (try clear hi)
       refine hK.out _ _ ⟨(blk_cell BK218.out 0).trans rfl, HS1_⟩ (fun hHeld => ?_)
       clear hK K
       refine norm_ (a' := ?_) ?_ ?_
       rotate_left
       ·show Act.put _ (some 32) _ = _
        simp only [Act.put, List.setIfInBounds_toArray, List.set_cons_zero, List.set_cons_succ, i64_w, i32_w]
        rfl
       refine pure_ (i := 13) (N := some 33) (v := ?_) (a' := ?_) #[true, true, true, true, true, true, true, true, true, true, true, true, true, true, false] rfl rfl (any_of HT_.out (by kernel_rfl)) (fun _ _ _ h => h) (Or.inl ⟨by rfl, ?_⟩) ?_ ?_
       rotate_left
       ·intro w'
        go_simp
        with_reducible rfl
       rotate_left
       ·simp only [Act.put, List.setIfInBounds_toArray, List.set_cons_zero, List.set_cons_succ, i64_w, i32_w]
        rfl
       refine pure_ (i := 14) (N := some 34) (v := ?_) (a' := ?_) #[true, true, true, true, true, true, true, true, true, true, true, true, true, true, true] rfl rfl (any_of HT_.out (by kernel_rfl)) (fun _ _ _ h => h) (Or.inl ⟨by rfl, ?_⟩) ?_ ?_
       rotate_left
       ·intro w'
        go_simp
        with_reducible rfl
       rotate_left
       ·simp only [Act.put, List.setIfInBounds_toArray, List.set_cons_zero, List.set_cons_succ, i64_w, i32_w]
        rfl
       refine done_ (done_of HT_.out (by kernel_rfl)) ?_
       try go_wp2
       go_roundg k1
       case measure => have := HK1.out; omega
       case rel => exact ⟨(wrap64 (x10_1 + 1)), (sq), H', ⟨by have := HK1.out; omega⟩, ⟨rq HO_9.out⟩, ⟨kq BK218.out⟩, ⟨q44⟩⟩
      ·rw [if_neg c15] at H
       have c15b0 : decide (t224 < 0) = false := decide_eq_false c15
       clear c15
       have c19b0 := eq_true (of_decide_eq_true (uq) : 0 ≤ x10_1)
       by_cases c20 : x10_1 ≤ (t220.length : Int)
       ·rw [if_pos c20] at H
        have c20b0 := eq_true c20
        have c20b1 : decide (x10_1 ≤ (t220.length : Int)) = true := decide_eq_true c20
        clear c20
        obtain ⟨y225, hy225⟩ : ∃ y_ : List Int, y_ = (t220.take (x10_1 : Int).toNat) := ⟨_, rfl⟩
        replace H : ((spec_wayOut.f k1 l1 y225).bind fun t229 => (some t229)) = some r := by first | (rw [hy225]; with_reducible exact H) | (have H2_ := (Option.bind_some _ _).symm.trans H; rw [hy225]; with_reducible exact H2_) | (have H2_ := (Option.bind_some _ _).symm.trans H; with_reducible exact H2_) | with_reducible exact H | (rw [hy225]; exact H) | exact H
        have Ny225 := am hy225
        clear hy225
        replace H := Option.bind_eq_some_iff.mp H
        obtain ⟨t229, A210, H⟩ := H
        replace H : (some t229) = some r := H
        have A21 := am A210
        clear A210
        obtain rfl := Option.some.inj H
        try go_wp2
        have n0_ := am (Kd.R_drew HO_9.out)
        have n1_ := am (blk_drew BK218.out)
        have n2_ := am (below_drew1 HB.out)
        clear HO_9
        clear BK218
        clear HB
        have HO_9 := n0_
        have BK218 := n1_
        have HB := n2_
        clear n0_ n1_ n2_
        obtain ⟨Ao23, co23, eo23⟩ := Kd.R_slice HO_9.out
        (first | subst eo23 | (injection eo23 with f1_ f2_ f3_; have f4_ := f1_.symm; have f5_ := f3_.symm; clear f1_ f2_ f3_; subst f4_; subst f5_))
        have p223 : 0 ≤ (x10_1 : Int) := of_decide_eq_true (uq)
        have q223 : x10_1 < (t220.length : Int) := of_decide_eq_true (uq)
        obtain ⟨ad223, e223, hx223_0⟩ := Kd.at_int (Kd.R_reads' HO_9.out).2.2 x10_1 p223 q223
        cases e223
        replace p223 := eq_true p223
        replace q223 := eq_true q223
        refine start_ (n := 15) (S := fun w' => w'.cell? ⟨gb218, 0, none⟩ = some (.slice A0_0 l0_0.length c0_0) ∧ w'.cell? (ad223.add (x10_1).toNat) = some (.int .i64 (rd t220 x10_1))) (ds := []) #[false, false, false, false, false, false, false, false, false, false, false, false, false, false, false] (by kernel_rfl) rfl rfl ⟨(blk_cell BK218.out 0).trans rfl, hx223_0⟩ (fun hHeld => ?_); refine with_tabW spec_WayOfFault.tab5 spec_WayOfFault.bits5 (fun HT_ HW_ => ?_)
        generalize wr.drew = w22 at HO_9 BK218 HB hx223_0 hHeld ⊢
        refine pure_ (i := 0) (N := some 20) (v := ?_) (a' := ?_) #[true, false, false, false, false, false, false, false, false, false, false, false, false, false, false] rfl rfl (any_of HT_.out (by kernel_rfl)) (fun _ _ _ h => h) (Or.inl ⟨by rfl, ?_⟩) ?_ ?_
        rotate_left
        ·intro w'
         go_simp
         with_reducible rfl
        rotate_left
        ·simp only [Act.put, List.setIfInBounds_toArray, List.set_cons_zero, List.set_cons_succ, i64_w, i32_w]
         rfl
        refine pure_ (i := 1) (N := some 21) (v := ?_) (a' := ?_) #[true, true, false, false, false, false, false, false, false, false, false, false, false, false, false] rfl rfl (any_of HT_.out (by kernel_rfl)) (fun _ _ _ h => h) (Or.inl ⟨by rfl, ?_⟩) ?_ ?_
        rotate_left
        ·intro w'
         go_simp
         with_reducible rfl
        rotate_left
        ·simp only [Act.put, List.setIfInBounds_toArray, List.set_cons_zero, List.set_cons_succ, i64_w, i32_w]
         rfl
        refine pure_ (i := 2) (N := some 22) (v := ?_) (a' := ?_) #[true, true, true, false, false, false, false, false, false, false, false, false, false, false, false] rfl rfl (any_of HT_.out (by kernel_rfl)) (fun _ _ _ h => h) (Or.inl ⟨by rfl, ?_⟩) ?_ ?_
        rotate_left
        ·intro w'
         go_simp
         with_reducible rfl
        rotate_left
        ·simp only [Act.put, List.setIfInBounds_toArray, List.set_cons_zero, List.set_cons_succ, i64_w, i32_w]
         rfl
        refine pure_ (i := 3) (N := some 23) (v := ?_) (a' := ?_) #[true, true, true, true, false, false, false, false, false, false, false, false, false, false, false] rfl rfl (any_of HT_.out (by kernel_rfl)) (fun _ _ _ h => h) (Or.inl ⟨by rfl, ?_⟩) ?_ ?_
        rotate_left
        ·intro w'
         go_simp
         with_reducible rfl
        rotate_left
        ·simp only [Act.put, List.setIfInBounds_toArray, List.set_cons_zero, List.set_cons_succ, i64_w, i32_w]
         rfl
        refine pure_ (i := 4) (N := some 24) (v := ?_) (a' := ?_) #[true, true, true, true, true, false, false, false, false, false, false, false, false, false, false] rfl rfl (any_of HT_.out (by kernel_rfl)) (fun _ _ _ h => h) (Or.inl ⟨by rfl, ?_⟩) ?_ ?_
        rotate_left
        ·intro w'
         go_simp
         with_reducible rfl
        rotate_left
        ·simp only [Act.put, List.setIfInBounds_toArray, List.set_cons_zero, List.set_cons_succ, i64_w, i32_w]
         rfl
        refine pure_ (i := 6) (N := some 26) (v := ?_) (a' := ?_) #[true, true, true, true, true, false, true, false, false, false, false, false, false, false, false] rfl rfl (any_of HT_.out (by kernel_rfl)) (fun _ _ _ h => h) (Or.inl ⟨by rfl, ?_⟩) ?_ ?_
        rotate_left
        ·intro w'
         go_simp
         with_reducible rfl
        rotate_left
        ·simp only [Act.put, List.setIfInBounds_toArray, List.set_cons_zero, List.set_cons_succ, i64_w, i32_w]
         rfl
        refine pure_ (i := 7) (N := some 27) (v := ?_) (a' := ?_) #[true, true, true, true, true, false, true, true, false, false, false, false, false, false, false] rfl rfl (any_of HT_.out (by kernel_rfl)) (fun _ _ _ h => h) (Or.inl ⟨by rfl, ?_⟩) ?_ ?_
        rotate_left
        ·intro w'
         go_simp
         with_reducible rfl
        rotate_left
        ·simp only [Act.put, List.setIfInBounds_toArray, List.set_cons_zero, List.set_cons_succ, i64_w, i32_w]
         rfl
        refine pure_ (i := 8) (N := some 28) (v := ?_) (a' := ?_) #[true, true, true, true, true, false, true, true, true, false, false, false, false, false, false] rfl rfl (any_of HT_.out (by kernel_rfl)) (fun _ _ _ h => h) (Or.inl ⟨by rfl, ?_⟩) ?_ ?_
        rotate_left
        ·intro w'
         go_simp
         with_reducible rfl
        rotate_left
        ·simp only [Act.put, List.setIfInBounds_toArray, List.set_cons_zero, List.set_cons_succ, i64_w, i32_w]
         rfl
        refine pure_ (i := 9) (N := some 29) (v := ?_) (a' := ?_) #[true, true, true, true, true, false, true, true, true, true, false, false, false, false, false] rfl rfl (any_of HT_.out (by kernel_rfl)) (fun _ _ _ h => h) (Or.inl ⟨by rfl, ?_⟩) ?_ ?_
        rotate_left
        ·intro w'
         go_simp
         with_reducible rfl
        rotate_left
        ·simp only [Act.put, List.setIfInBounds_toArray, List.set_cons_zero, List.set_cons_succ, i64_w, i32_w]
         rfl
        refine pure_ (i := 11) (N := some 31) (v := ?_) (a' := ?_) #[true, true, true, true, true, false, true, true, true, true, false, true, false, false, false] rfl rfl (any_of HT_.out (by kernel_rfl)) (fun _ _ _ h => h) (Or.inl ⟨by rfl, ?_⟩) ?_ ?_
        rotate_left
        ·intro w'
         go_simp
         with_reducible rfl
        rotate_left
        ·simp only [Act.put, List.setIfInBounds_toArray, List.set_cons_zero, List.set_cons_succ, i64_w, i32_w]
         rfl
        refine take_ (i := 5) (N := some 25) (v := ?_) (a' := ?_) #[true, true, true, true, true, true, true, true, true, true, false, true, false, false, false] rfl rfl (take_ofW HT_.out HW_.out (by kernel_rfl)) (fun _ _ _ h => h) (Or.inl ⟨by rfl, ?_⟩) hHeld ?_ ?_
        rotate_left
        ·rintro w' ⟨s0, s1⟩
         go_simp
         with_reducible rfl
        rotate_left
        ·simp only [Act.put, List.setIfInBounds_toArray, List.set_cons_zero, List.set_cons_succ, i64_w, i32_w]
         rfl
        refine take_ (i := 10) (N := some 30) (v := ?_) (a' := ?_) #[true, true, true, true, true, true, true, true, true, true, true, true, false, false, false] rfl rfl (take_ofW HT_.out HW_.out (by kernel_rfl)) (fun _ _ _ h => h) (Or.inl ⟨by rfl, ?_⟩) hHeld ?_ ?_
        rotate_left
        ·rintro w' ⟨s0, s1⟩
         go_simp
         with_reducible rfl
        rotate_left
        ·simp only [Act.put, List.setIfInBounds_toArray, List.set_cons_zero, List.set_cons_succ, i64_w, i32_w]
         rfl
        refine one_ (i := 12) (N := some 32) #[true, true, true, true, true, true, true, true, true, true, true, true, true, false, false] rfl rfl (one_of HT_.out (by kernel_rfl)) (by decide) (fun K hK => ?_)
        refine goes_ Try.func44 (by kernel_rfl) rfl #[.agg #[.slice A0_0 l0_0.length c0_0], .slice A1 l1.length c1, .int .i64 (rd t220 x10_1), .int .i64 a3] (by rfl) rfl rfl (aq) ?_
        with_reducible refine (spec_catcher.calls k1 _ _ l0_0 _ _ l1 (rd t220 x10_1) a3 t224 _ ?side1 ?side2 ?side3 ?side4 A14.out).mono ?_
        (case side1 => exact cq (Kd.C_below HR0_0.out HB.out))
        (case side2 => exact HC0_0.out)
        (case side3 => exact cq (Kd.C_below HR1.out HB.out))
        (case side4 => exact HC1.out)
        rintro e w24 ⟨rfl, hb⟩
        have HS1_ := (hb.cell (World.block_lt_of_cell? _ _ (hHeld.2))).trans (hHeld.2)
        refine ⟨_, rfl, ?_⟩
        have n0_ := am (Kd.R_below (rq HO_9.out) hb)
        have n1_ := am (blk_below (g := gb218) (o := .cells #[.slice A0_0 l0_0.length c0_0] 32 (0, 0)) (kq BK218.out) hb)
        have n2_ := am (below_step (q44) hb)
        clear HO_9
        clear BK218
        clear HB
        have HO_9 := n0_
        have BK218 := n1_
        have HB := n2_
        clear n0_ n1_ n2_
        (try clear hb)
        (try clear hb2)
        (try clear hk)
        (try clear hi)
        refine hK.out _ _ ⟨(blk_cell BK218.out 0).trans rfl, HS1_⟩ (fun hHeld => ?_)
        clear hK K
        refine norm_ (a' := ?_) ?_ ?_
        rotate_left
        ·show Act.put _ (some 32) _ = _
         simp only [Act.put, List.setIfInBounds_toArray, List.set_cons_zero, List.set_cons_succ, i64_w, i32_w]
         rfl
        refine pure_ (i := 13) (N := some 33) (v := ?_) (a' := ?_) #[true, true, true, true, true, true, true, true, true, true, true, true, true, true, false] rfl rfl (any_of HT_.out (by kernel_rfl)) (fun _ _ _ h => h) (Or.inl ⟨by rfl, ?_⟩) ?_ ?_
        rotate_left
        ·intro w'
         go_simp
         with_reducible rfl
        rotate_left
        ·simp only [Act.put, List.setIfInBounds_toArray, List.set_cons_zero, List.set_cons_succ, i64_w, i32_w]
         rfl
        refine pure_ (i := 14) (N := some 34) (v := ?_) (a' := ?_) #[true, true, true, true, true, true, true, true, true, true, true, true, true, true, true] rfl rfl (any_of HT_.out (by kernel_rfl)) (fun _ _ _ h => h) (Or.inl ⟨by rfl, ?_⟩) ?_ ?_
        rotate_left
        ·intro w'
         go_simp
         with_reducible rfl
        rotate_left
        ·simp only [Act.put, List.setIfInBounds_toArray, List.set_cons_zero, List.set_cons_succ, i64_w, i32_w]
         rfl
        refine done_ (done_of HT_.out (by kernel_rfl)) ?_
        have q25 : (x10_1 : Int) ≤ ((t220.length : Int) : Int) := of_decide_eq_true (uq)
        obtain ⟨i025, hi025, _, hsz25, _⟩ := info_parts info3
        have hroom25 : t220.length ≤ co23 := (Kd.R_reads' HO_9.out).2.1
        have hC25 : Kd.C (Kd.int .i64) _ (some ad223) t220.length t220 := (Kd.R_reads' HO_9.out).2.2
        have hcut25 := cut_to (P := Try.prog) 28 3 .i64 Try.underlying28 hi025 (some ad223) t220.length co23 x10_1 (of_decide_eq_true (uq)) q25 hroom25
        have hr25 := Kd.C_take (m := (x10_1 : Int).toNat) hC25 (by omega)
        have hy25 : y225.length = (x10_1 : Int).toNat := (by rw [Ny225.out, List.length_take]; omega)
        rw [← Ny225.out] at hr25
        rw [← hy25] at hcut25
        have HR228 := am hr25
        have HC228 := am (show y225.length ≤ co23 from by omega)
        clear hr25 hC25 hroom25 hi025 hsz25
        have KY25 := am hy25
        clear hy25
        have KL25 := am (show (x10_1 : Int).toNat ≤ t220.length from by omega)
        replace q25 := eq_true q25
        try go_wp2_with (first | ((with_reducible refine gate_callee (f := 45) rfl ?_); refine goesL_ (some 41) rfl rfl Try.func45 (by kernel_rfl) rfl #[.slice A1 l1.length c1, .slice (some ad223) y225.length co23] rfl (aq) ?_; (with_reducible refine (spec_wayOut.calls k1 _ _ l1 _ _ y225 t229 _ ?side1 ?side2 ?side3 ?side4 A21.out).mono ?_); (case side1 => exact cq (Kd.C_below HR1.out HB.out)); (case side2 => exact HC1.out); (case side3 => repeat (first | exact (by repeat (first | (with_reducible exact HR228.out) | (with_reducible refine Kd.C_alloc ?_ _) | (with_reducible refine Kd.C_drewN ?_ _) | (with_reducible refine Kd.C_drew ?_) | exact HR228.out)) | (with_reducible refine Kd.C_alloc ?_ _) | (with_reducible refine Kd.C_drewN ?_ _) | (with_reducible refine Kd.C_drew ?_))); (case side4 => exact HC228.out); rintro e w26 ⟨v230, rfl, ho0, hb⟩; refine ⟨_, rfl, ?_⟩; have HO231 := am (Kd.R_lower (Kd.R_new' ho0 (Kd.R_lt (rq HO_9.out))) (below_size (q44))); replace HO_9 := am (Kd.R_elder' (rq HO_9.out) (Kd.R_base ho0) hb); replace BK218 := am (blk_below (g := gb218) (o := .cells #[.slice A0_0 l0_0.length c0_0] 32 (0, 0)) (kq BK218.out) hb); replace HR228 := am (Kd.C_below (by repeat (first | (with_reducible exact HR228.out) | (with_reducible refine Kd.C_alloc ?_ _) | (with_reducible refine Kd.C_drewN ?_ _) | (with_reducible refine Kd.C_drew ?_) | exact HR228.out)) hb); replace HB := am (below_step (q44) hb); (try clear hb); (try clear hb2); (try clear hk); (try clear hi); (try clear ho0)))
        go_ret
        exact ⟨_, q0, by (with_reducible repeat (first | apply Kd.R_alloc | apply Kd.R_drewN | apply Kd.R_drew)); exact Kd.R_mono HO231.out (fun _ hk => trivial), q44⟩
       ·rw [if_neg c20] at H
        exact absurd H (by simp)
     ·rw [if_neg c13] at H
      exact absurd H (by simp)
    ·rw [if_neg c12] at H
     have c12b0 : decide (x10_1 < (t220.length : Int)) = false := decide_eq_false c12
     clear c12
     by_cases c27 : 0 ≤ x10_1
     ·rw [if_pos c27] at H
      have c27b0 := eq_true c27
      have c27b1 : decide (0 ≤ x10_1) = true := decide_eq_true c27
      clear c27
      by_cases c28 : x10_1 ≤ (t220.length : Int)
      ·rw [if_pos c28] at H
       have c28b0 := eq_true c28
       have c28b1 : decide (x10_1 ≤ (t220.length : Int)) = true := decide_eq_true c28
       clear c28
       obtain ⟨y232, hy232⟩ : ∃ y_ : List Int, y_ = (t220.take (x10_1 : Int).toNat) := ⟨_, rfl⟩
       replace H : ((spec_wayOut.f k1 l1 y232).bind fun t236 => (some t236)) = some r := by first | (rw [hy232]; with_reducible exact H) | (have H2_ := (Option.bind_some _ _).symm.trans H; rw [hy232]; with_reducible exact H2_) | (have H2_ := (Option.bind_some _ _).symm.trans H; with_reducible exact H2_) | with_reducible exact H | (rw [hy232]; exact H) | exact H
       have Ny232 := am hy232
       clear hy232
       replace H := Option.bind_eq_some_iff.mp H
       obtain ⟨t236, A290, H⟩ := H
       replace H : (some t236) = some r := H
       have A29 := am A290
       clear A290
       obtain rfl := Option.some.inj H
       try go_wp2
       have n0_ := am (Kd.R_drew HO_9.out)
       have n1_ := am (blk_drew BK218.out)
       have n2_ := am (below_drew1 HB.out)
       clear HO_9
       clear BK218
       clear HB
       have HO_9 := n0_
       have BK218 := n1_
       have HB := n2_
       clear n0_ n1_ n2_
       obtain ⟨Ao31, co31, eo31⟩ := Kd.R_slice HO_9.out
       (first | subst eo31 | (injection eo31 with f1_ f2_ f3_; have f4_ := f1_.symm; have f5_ := f3_.symm; clear f1_ f2_ f3_; subst f4_; subst f5_))
       refine start_ (n := 15) (S := fun w' => True) (ds := []) #[false, false, false, false, false, false, false, false, false, false, false, false, false, false, false] (by kernel_rfl) rfl rfl trivial (fun hHeld => ?_); refine with_tabW spec_WayOfFault.tab5 spec_WayOfFault.bits5 (fun HT_ HW_ => ?_)
       generalize wr.drew = w30 at HO_9 BK218 HB hHeld ⊢
       refine pure_ (i := 0) (N := some 20) (v := ?_) (a' := ?_) #[true, false, false, false, false, false, false, false, false, false, false, false, false, false, false] rfl rfl (any_of HT_.out (by kernel_rfl)) (fun _ _ _ h => h) (Or.inl ⟨by rfl, ?_⟩) ?_ ?_
       rotate_left
       ·intro w'
        go_simp
        with_reducible rfl
       rotate_left
       ·simp only [Act.put, List.setIfInBounds_toArray, List.set_cons_zero, List.set_cons_succ, i64_w, i32_w]
        rfl
       refine pure_ (i := 1) (N := some 21) (v := ?_) (a' := ?_) #[true, true, false, false, false, false, false, false, false, false, false, false, false, false, false] rfl rfl (any_of HT_.out (by kernel_rfl)) (fun _ _ _ h => h) (Or.inl ⟨by rfl, ?_⟩) ?_ ?_
       rotate_left
       ·intro w'
        go_simp
        with_reducible rfl
       rotate_left
       ·simp only [Act.put, List.setIfInBounds_toArray, List.set_cons_zero, List.set_cons_succ, i64_w, i32_w]
        rfl
       refine pure_ (i := 2) (N := some 22) (v := ?_) (a' := ?_) #[true, true, true, false, false, false, false, false, false, false, false, false, false, false, false] rfl rfl (any_of HT_.out (by kernel_rfl)) (fun _ _ _ h => h) (Or.inl ⟨by rfl, ?_⟩) ?_ ?_
       rotate_left
       ·intro w'
        go_simp
        with_reducible rfl
       rotate_left
       ·simp only [Act.put, List.setIfInBounds_toArray, List.set_cons_zero, List.set_cons_succ, i64_w, i32_w]
        rfl
       refine pure_ (i := 3) (N := some 23) (v := ?_) (a' := ?_) #[true, true, true, true, false, false, false, false, false, false, false, false, false, false, false] rfl rfl (any_of HT_.out (by kernel_rfl)) (fun _ _ _ h => h) (Or.inl ⟨by rfl, ?_⟩) ?_ ?_
       rotate_left
       ·intro w'
        go_simp
        with_reducible rfl
       rotate_left
       ·simp only [Act.put, List.setIfInBounds_toArray, List.set_cons_zero, List.set_cons_succ, i64_w, i32_w]
        rfl
       refine pure_ (i := 4) (N := some 24) (v := ?_) (a' := ?_) #[true, true, true, true, true, false, false, false, false, false, false, false, false, false, false] rfl rfl (any_of HT_.out (by kernel_rfl)) (fun _ _ _ h => h) (Or.inl ⟨by rfl, ?_⟩) ?_ ?_
       rotate_left
       ·intro w'
        go_simp
        with_reducible rfl
       rotate_left
       ·simp only [Act.put, List.setIfInBounds_toArray, List.set_cons_zero, List.set_cons_succ, i64_w, i32_w]
        rfl
       refine pure_ (i := 5) (N := some 25) (v := undef) (a' := ?_) #[true, true, true, true, true, true, false, false, false, false, false, false, false, false, false] rfl rfl (any_of HT_.out (by kernel_rfl)) (fun _ _ _ h => h) (Or.inr ⟨by rfl, rfl⟩) ?_ ?_
       rotate_left
       ·simp only [Act.put, List.setIfInBounds_toArray, List.set_cons_zero, List.set_cons_succ, i64_w, i32_w]
        rfl
       refine pure_ (i := 6) (N := some 26) (v := undef) (a' := ?_) #[true, true, true, true, true, true, true, false, false, false, false, false, false, false, false] rfl rfl (any_of HT_.out (by kernel_rfl)) (fun _ _ _ h => h) (Or.inr ⟨by rfl, rfl⟩) ?_ ?_
       rotate_left
       ·simp only [Act.put, List.setIfInBounds_toArray, List.set_cons_zero, List.set_cons_succ, i64_w, i32_w]
        rfl
       refine pure_ (i := 7) (N := some 27) (v := undef) (a' := ?_) #[true, true, true, true, true, true, true, true, false, false, false, false, false, false, false] rfl rfl (any_of HT_.out (by kernel_rfl)) (fun _ _ _ h => h) (Or.inr ⟨by rfl, rfl⟩) ?_ ?_
       rotate_left
       ·simp only [Act.put, List.setIfInBounds_toArray, List.set_cons_zero, List.set_cons_succ, i64_w, i32_w]
        rfl
       refine pure_ (i := 8) (N := some 28) (v := undef) (a' := ?_) #[true, true, true, true, true, true, true, true, true, false, false, false, false, false, false] rfl rfl (any_of HT_.out (by kernel_rfl)) (fun _ _ _ h => h) (Or.inr ⟨by rfl, rfl⟩) ?_ ?_
       rotate_left
       ·simp only [Act.put, List.setIfInBounds_toArray, List.set_cons_zero, List.set_cons_succ, i64_w, i32_w]
        rfl
       refine pure_ (i := 9) (N := some 29) (v := undef) (a' := ?_) #[true, true, true, true, true, true, true, true, true, true, false, false, false, false, false] rfl rfl (any_of HT_.out (by kernel_rfl)) (fun _ _ _ h => h) (Or.inr ⟨by rfl, rfl⟩) ?_ ?_
       rotate_left
       ·simp only [Act.put, List.setIfInBounds_toArray, List.set_cons_zero, List.set_cons_succ, i64_w, i32_w]
        rfl
       refine pure_ (i := 10) (N := some 30) (v := undef) (a' := ?_) #[true, true, true, true, true, true, true, true, true, true, true, false, false, false, false] rfl rfl (any_of HT_.out (by kernel_rfl)) (fun _ _ _ h => h) (Or.inr ⟨by rfl, rfl⟩) ?_ ?_
       rotate_left
       ·simp only [Act.put, List.setIfInBounds_toArray, List.set_cons_zero, List.set_cons_succ, i64_w, i32_w]
        rfl
       refine pure_ (i := 11) (N := some 31) (v := undef) (a' := ?_) #[true, true, true, true, true, true, true, true, true, true, true, true, false, false, false] rfl rfl (any_of HT_.out (by kernel_rfl)) (fun _ _ _ h => h) (Or.inr ⟨by rfl, rfl⟩) ?_ ?_
       rotate_left
       ·simp only [Act.put, List.setIfInBounds_toArray, List.set_cons_zero, List.set_cons_succ, i64_w, i32_w]
        rfl
       refine pure_ (i := 12) (N := some 32) (v := undef) (a' := ?_) #[true, true, true, true, true, true, true, true, true, true, true, true, true, false, false] rfl rfl (any_of HT_.out (by kernel_rfl)) (fun _ _ _ h => h) (Or.inr ⟨by rfl, rfl⟩) ?_ ?_
       rotate_left
       ·simp only [Act.put, List.setIfInBounds_toArray, List.set_cons_zero, List.set_cons_succ, i64_w, i32_w]
        rfl
       refine pure_ (i := 13) (N := some 33) (v := undef) (a' := ?_) #[true, true, true, true, true, true, true, true, true, true, true, true, true, true, false] rfl rfl (any_of HT_.out (by kernel_rfl)) (fun _ _ _ h => h) (Or.inr ⟨by rfl, rfl⟩) ?_ ?_
       rotate_left
       ·simp only [Act.put, List.setIfInBounds_toArray, List.set_cons_zero, List.set_cons_succ, i64_w, i32_w]
        rfl
       refine pure_ (i := 14) (N := some 34) (v := ?_) (a' := ?_) #[true, true, true, true, true, true, true, true, true, true, true, true, true, true, true] rfl rfl (any_of HT_.out (by kernel_rfl)) (fun _ _ _ h => h) (Or.inl ⟨by rfl, ?_⟩) ?_ ?_
       rotate_left
       ·intro w'
        go_simp
        with_reducible rfl
       rotate_left
       ·simp only [Act.put, List.setIfInBounds_toArray, List.set_cons_zero, List.set_cons_succ, i64_w, i32_w]
        rfl
       refine done_ (done_of HT_.out (by kernel_rfl)) ?_
       have q32 : (x10_1 : Int) ≤ ((t220.length : Int) : Int) := of_decide_eq_true (uq)
       obtain ⟨i032, hi032, _, hsz32, _⟩ := info_parts info3
       have hroom32 : t220.length ≤ co31 := (Kd.R_reads' HO_9.out).2.1
       have hC32 : Kd.C (Kd.int .i64) _ Ao31 t220.length t220 := (Kd.R_reads' HO_9.out).2.2
       have hcut32 := cut_to (P := Try.prog) 28 3 .i64 Try.underlying28 hi032 Ao31 t220.length co31 x10_1 (of_decide_eq_true (uq)) q32 hroom32
       have hr32 := Kd.C_take (m := (x10_1 : Int).toNat) hC32 (by omega)
       have hy32 : y232.length = (x10_1 : Int).toNat := (by rw [Ny232.out, List.length_take]; omega)
       rw [← Ny232.out] at hr32
       rw [← hy32] at hcut32
       have HR235 := am hr32
       have HC235 := am (show y232.length ≤ co31 from by omega)
       clear hr32 hC32 hroom32 hi032 hsz32
       have KY32 := am hy32
       clear hy32
       have KL32 := am (show (x10_1 : Int).toNat ≤ t220.length from by omega)
       replace q32 := eq_true q32
       try go_wp2_with (first | ((with_reducible refine gate_callee (f := 45) rfl ?_); refine goesL_ (some 41) rfl rfl Try.func45 (by kernel_rfl) rfl #[.slice A1 l1.length c1, .slice Ao31 y232.length co31] rfl (aq) ?_; (with_reducible refine (spec_wayOut.calls k1 _ _ l1 _ _ y232 t236 _ ?side1 ?side2 ?side3 ?side4 A29.out).mono ?_); (case side1 => exact cq (Kd.C_below HR1.out HB.out)); (case side2 => exact HC1.out); (case side3 => repeat (first | exact (by repeat (first | (with_reducible exact HR235.out) | (with_reducible refine Kd.C_alloc ?_ _) | (with_reducible refine Kd.C_drewN ?_ _) | (with_reducible refine Kd.C_drew ?_) | exact HR235.out)) | (with_reducible refine Kd.C_alloc ?_ _) | (with_reducible refine Kd.C_drewN ?_ _) | (with_reducible refine Kd.C_drew ?_))); (case side4 => exact HC235.out); rintro e w33 ⟨v237, rfl, ho0, hb⟩; refine ⟨_, rfl, ?_⟩; have HO238 := am (Kd.R_lower (Kd.R_new' ho0 (Kd.R_lt (rq HO_9.out))) (below_size (q44))); replace HO_9 := am (Kd.R_elder' (rq HO_9.out) (Kd.R_base ho0) hb); replace BK218 := am (blk_below (g := gb218) (o := .cells #[.slice A0_0 l0_0.length c0_0] 32 (0, 0)) (kq BK218.out) hb); replace HR235 := am (Kd.C_below (by repeat (first | (with_reducible exact HR235.out) | (with_reducible refine Kd.C_alloc ?_ _) | (with_reducible refine Kd.C_drewN ?_ _) | (with_reducible refine Kd.C_drew ?_) | exact HR235.out)) hb); replace HB := am (below_step (q44) hb); (try clear hb); (try clear hb2); (try clear hk); (try clear hi); (try clear ho0)))
       go_ret
       exact ⟨_, q0, by (with_reducible repeat (first | apply Kd.R_alloc | apply Kd.R_drewN | apply Kd.R_drew)); exact Kd.R_mono HO238.out (fun _ hk => trivial), q44⟩
      ·rw [if_neg c28] at H
       exact absurd H (by simp)
     ·rw [if_neg c27] at H
      exact absurd H (by simp)
 ·replace c6 := Bool.eq_false_iff.mpr c6
  subst c6
  have H1 : (some ([] : List Int)) = some r := by rw [if_neg (show ¬ (false = true) by decide)] at H; exact H
  clear H
  have H := H1
  clear H1
  obtain rfl := Option.some.inj H
  go_enter Try.func11, Try.ntmps11
  go_wp2_with (first | ((with_reducible refine gate_dst (N := 4) rfl ?_); refine bE (N := 4) (cs := #[.slice A0_0 l0_0.length c0_0]) (t := 32) ?_; intro gb218 hg w34 hbox hb; have BK218 := am (hbox); have GW218 := am ((by rw [hg]; exact (below_size (bq)) : w.heap.size ≤ gb218)); have GE218 := am ((by rw [hg]; exact (below_size (bq)) : w.heap.size ≤ gb218)); replace HB := am (below_step (bq) hb); clear hb hbox hg; have hcz35_0 := bc0 BK218.out; have hfz35_0 := blk_frozen BK218.out 0) | ((with_reducible refine gate_callee (f := 42) rfl ?_); refine goesL_ (some 15) rfl rfl Try.func42 (by kernel_rfl) rfl #[.agg #[.slice A0_0 l0_0.length c0_0], .slice A1 l1.length c1, .int .i64 a2, .int .i64 a3] rfl (aq) ?_; (with_reducible refine (spec_goodRaise.calls k _ _ l0_0 _ _ l1 a2 a3 false _ ?side1 ?side2 ?side3 ?side4 A5.out).mono ?_); (case side1 => exact cq (Kd.C_below HR0_0.out HB.out)); (case side2 => exact HC0_0.out); (case side3 => exact cq (Kd.C_below HR1.out HB.out)); (case side4 => exact HC1.out); rintro e w36 ⟨rfl, hb⟩; refine ⟨_, rfl, ?_⟩; replace BK218 := am (blk_below (g := gb218) (o := .cells #[.slice A0_0 l0_0.length c0_0] 32 (0, 0)) (kq BK218.out) hb); replace HB := am (below_step (q44) hb); (try clear hb); (try clear hb2); (try clear hk); (try clear hi)))
  go_ret
  exact ⟨_, q0, q49, q44⟩
def slices_Index_int_int.l0 : Nat → List Int → Int → Int → Int → Option (Int)
 | 0, _, _, _, _ => none
 | k + 1, x0, x1, x7, x8 => if x8 < x7 then (if 0 ≤ x8 then (if x8 < (x0.length : Int) then (if x1 = (rd x0 x8) then (some x8) else (slices_Index_int_int.l0 k x0 x1 x7 (wrap64 (x8 + 1)))) else (none)) else (none)) else (some (-1))
def slices_Index_int_int.f (k : Nat) (l0 : List Int) (a1 : Int) : Option (Int) := slices_Index_int_int.l0 k l0 a1 (l0.length : Int) 0
set_option maxHeartbeats 8000000 in
set_option maxRecDepth 100000 in
theorem slices_Index_int_int.calls (k : Nat) (A0 : Option Addr) (c0 : Nat) (l0 : List Int) (a1 : Int) (r : Int) (w : World) (hr0 : Kd.C (Kd.int .i64) w A0 l0.length l0) (hc0 : l0.length ≤ c0) (h : slices_Index_int_int.f k l0 a1 = some r) :
  Calls Try.prog 114 #[.slice A0 l0.length c0, .int .i64 a1] w fun e w' => e = .returned (.int .i64 r) ∧ Drawn0 w w' := by
 have HR0 := am hr0
 have HC0 := am hc0
 clear hr0 hc0
 have H : (slices_Index_int_int.l0 k l0 a1 (l0.length : Int) 0) = some r := h
 clear h
 have H' := am H
 clear H
 go_enter Try.func114, Try.ntmps114
 go_wp2
 go_loopg [8] k (fun kq v8 w' => ∃ (x8_1 : Int), v8 = .int .i64 x8_1 ∧ Aside0 (slices_Index_int_int.l0 kq l0 a1 (l0.length : Int) x8_1 = some r) ∧ Aside0 (kq ≤ k) ∧ Drawn0 w w')
 case atStart => exact ⟨(0), (sq), H', ⟨Nat.le_refl _⟩, q1⟩
 case round =>
  clear H'
  try clear c1
  try clear p2
  obtain ⟨x8_1, rfl, HA, HK1, ⟨m1, rfl⟩⟩ := hrel
  cases gk with
  | zero => exact absurd HA.out (by simp [slices_Index_int_int.l0])
  | succ k1 =>
   have H := HA.out
   clear HA
   simp only [slices_Index_int_int.l0] at H
   by_cases c3 : x8_1 < (l0.length : Int)
   ·rw [if_pos c3] at H
    have c3b0 : decide (x8_1 < (l0.length : Int)) = true := decide_eq_true c3
    clear c3
    by_cases c4 : 0 ≤ x8_1
    ·rw [if_pos c4] at H
     have c4b0 : decide (0 ≤ x8_1) = true := decide_eq_true c4
     clear c4
     by_cases c5 : x8_1 < (l0.length : Int)
     ·rw [if_pos c5] at H
      have c5b0 : decide (x8_1 < (l0.length : Int)) = true := decide_eq_true c5
      clear c5
      by_cases c6 : a1 = (rd l0 x8_1)
      ·rw [if_pos c6] at H
       have c6b0 : (a1 == (rd l0 x8_1)) = true := beq_iff_eq.mpr c6
       have c6b1 : (a1 != (rd l0 x8_1)) = false := bne_eq_false_iff_eq.mpr c6
       clear c6
       obtain rfl := Option.some.inj H
       have p345 : 0 ≤ (x8_1 : Int) := of_decide_eq_true (uq)
       have q345 : x8_1 < (l0.length : Int) := of_decide_eq_true (uq)
       obtain ⟨ad345, e345, hx345_0⟩ := Kd.at_int HR0.out x8_1 p345 q345
       cases e345
       replace p345 := eq_true p345
       replace q345 := eq_true q345
       go_wp2
       go_ret
       exact ⟨sq, q1⟩
      ·rw [if_neg c6] at H
       have c6b0 : (a1 == (rd l0 x8_1)) = false := beq_eq_false_iff_ne.mpr c6
       have c6b1 : (a1 != (rd l0 x8_1)) = true := bne_iff_ne.mpr c6
       have H' := am H
       clear H
       have p345 : 0 ≤ (x8_1 : Int) := of_decide_eq_true (uq)
       have q345 : x8_1 < (l0.length : Int) := of_decide_eq_true (uq)
       obtain ⟨ad345, e345, hx345_0⟩ := Kd.at_int HR0.out x8_1 p345 q345
       cases e345
       replace p345 := eq_true p345
       replace q345 := eq_true q345
       go_wp2
       go_roundg k1
       case measure => have := HK1.out; omega
       case rel => exact ⟨(wrap64 (x8_1 + 1)), (sq), H', ⟨by have := HK1.out; omega⟩, q1⟩
     ·rw [if_neg c5] at H
      exact absurd H (by simp)
    ·rw [if_neg c4] at H
     exact absurd H (by simp)
   ·rw [if_neg c3] at H
    have c3b0 : decide (x8_1 < (l0.length : Int)) = false := decide_eq_false c3
    clear c3
    obtain rfl := Option.some.inj H
    go_wp2
    go_ret
    exact ⟨sq, q1⟩
def slices_Contains_int_int.f (k : Nat) (l0 : List Int) (a1 : Int) : Option (Bool) := (slices_Index_int_int.f k l0 a1).bind fun t346 => (some (decide (t346 ≥ 0)))
set_option maxHeartbeats 8000000 in
set_option maxRecDepth 100000 in
theorem slices_Contains_int_int.calls (k : Nat) (A0 : Option Addr) (c0 : Nat) (l0 : List Int) (a1 : Int) (r : Bool) (w : World) (hr0 : Kd.C (Kd.int .i64) w A0 l0.length l0) (hc0 : l0.length ≤ c0) (h : slices_Contains_int_int.f k l0 a1 = some r) :
  Calls Try.prog 102 #[.slice A0 l0.length c0, .int .i64 a1] w fun e w' => e = .returned (.bool r) ∧ Drawn0 w w' := by
 have HR0 := am hr0
 have HC0 := am hc0
 clear hr0 hc0
 have H : ((slices_Index_int_int.f k l0 a1).bind fun t346 => (some (decide (t346 ≥ 0)))) = some r := h
 clear h
 replace H := Option.bind_eq_some_iff.mp H
 obtain ⟨t346, A30, H⟩ := H
 replace H : (some (decide (t346 ≥ 0))) = some r := H
 have A3 := am A30
 clear A30
 obtain rfl := Option.some.inj H
 go_enter Try.func102, Try.ntmps102
 go_wp2_with (first | ((with_reducible refine gate_callee (f := 114) rfl ?_); refine goesL_ (some 7) rfl rfl Try.func114 (by kernel_rfl) rfl #[.slice A0 l0.length c0, .int .i64 a1] rfl (aq) ?_; (with_reducible refine (slices_Index_int_int.calls k _ _ l0 a1 t346 _ ?side1 ?side2 A3.out).mono ?_); (case side1 => exact q28); (case side2 => exact HC0.out); rintro e w' ⟨rfl, ⟨nd, rfl⟩⟩; refine ⟨_, rfl, ?_⟩))
 go_ret
 exact ⟨sq, q1⟩
def impl_Tree_above.l0 : Nat → Int → List Int → List (S87) → Option (List Int)
 | 0, _, _, _ => none
 | k + 1, x1, x5, x348000 => if x1 ≥ 0 then (if x5.length < 17592186044416 then (if 0 ≤ x1 then (if x1 < (x348000.length : Int) then (impl_Tree_above.l0 k ((rd_T87 x348000 x1).f1) (x5 ++ [x1]) x348000) else (none)) else (none)) else (none)) else (some (x5))
def impl_Tree_above.f (k : Nat) (l0_0 : List (S87)) (a1 : Int) : Option (List Int) := if 0 ≤ (l0_0.length : Int) then (if ((l0_0.length : Int) : Int).toNat ≤ 35184372088832 then (impl_Tree_above.l0 k a1 (([] : List Int)) l0_0) else (none)) else (none)
set_option maxHeartbeats 8000000 in
set_option maxRecDepth 100000 in
theorem impl_Tree_above.calls (k : Nat) (A0_0 : Option Addr) (c0_0 : Nat) (l0_0 : List (S87)) (a1 : Int) (r : List Int) (w : World) (hr0_0 : Kd.C k87 w A0_0 l0_0.length l0_0) (hc0_0 : l0_0.length ≤ c0_0) (h : impl_Tree_above.f k l0_0 a1 = some r) :
  Calls Try.prog 103 #[.agg #[.slice A0_0 l0_0.length c0_0], .int .i64 a1] w fun e w' => ∃ v0_ : Value, e = .returned (v0_) ∧ Kd.R (Kd.int .i64) 3 w' w.heap.size (fun _ => True) v0_ r ∧ Below w.heap.size w w' := by
 have hu32 := Try.underlying32
 have HR0_0 := am hr0_0
 have HC0_0 := am hc0_0
 clear hr0_0 hc0_0
 have HB := am (Below.refl w.heap.size w)
 have H : (if 0 ≤ (l0_0.length : Int) then (if ((l0_0.length : Int) : Int).toNat ≤ 35184372088832 then (impl_Tree_above.l0 k a1 (([] : List Int)) l0_0) else (none)) else (none)) = some r := h
 clear h
 by_cases c3 : 0 ≤ (l0_0.length : Int)
 ·rw [if_pos c3] at H
  have c3b0 := eq_true c3
  have c3b1 : decide (0 ≤ (l0_0.length : Int)) = true := decide_eq_true c3
  clear c3
  by_cases c4 : ((l0_0.length : Int) : Int).toNat ≤ 35184372088832
  ·rw [if_pos c4] at H
   have c4b0 := eq_true c4
   have c4b1 : decide (((l0_0.length : Int) : Int).toNat ≤ 35184372088832) = true := decide_eq_true c4
   clear c4
   obtain ⟨y348, hy348⟩ : ∃ y_ : List Int, y_ = (([] : List Int)) := ⟨_, rfl⟩
   replace H : (impl_Tree_above.l0 k a1 y348 l0_0) = some r := by first | (rw [hy348]; with_reducible exact H) | (have H2_ := (Option.bind_some _ _).symm.trans H; rw [hy348]; with_reducible exact H2_) | (have H2_ := (Option.bind_some _ _).symm.trans H; with_reducible exact H2_) | with_reducible exact H | (rw [hy348]; exact H) | exact H
   have Ny348 := am hy348
   clear hy348
   have H' := am H
   clear H
   go_enter Try.func103, Try.ntmps103
   go_wp2_with (first | ((with_reducible refine gate_dst (N := 2) rfl ?_); refine bE (N := 2) (cs := #[.slice A0_0 l0_0.length c0_0]) (t := 32) ?_; intro gb347 hg w5 hbox hb; have BK347 := am (hbox); have GW347 := am ((by rw [hg]; exact (below_size (bq)) : w.heap.size ≤ gb347)); have GE347 := am ((by rw [hg]; exact (below_size (bq)) : w.heap.size ≤ gb347)); replace HB := am (below_step (bq) hb); clear hb hbox hg; have hcz6_0 := bc0 BK347.out; have hfz6_0 := blk_frozen BK347.out 0) | ((with_reducible refine gate_dst (N := 9) rfl ?_); refine Kd.R_mkcap (Kd.int .i64) _ 3 rfl (N := 9) rfl 28 _ _ rfl (l0_0.length : Int) rfl rfl Try.underlying28 (.int .i64 0) 8 info3 rfl (by decide) (by omega) (ok := fun _ => True) trivial (of_decide_eq_true (uq)) (Nat.le_trans (Nat.mul_le_mul_right _ (of_decide_eq_true (uq) : (l0_0.length : Int).toNat ≤ 35184372088832)) (by omega)) (Below.refl _ _) (Nat.le_refl _) ?_; intro v349 w7 ho8 hb hg_ hnew_; clear hg_ hnew_; (first | rw [← Ny348.out] at ho8 | (simp only [Int.reduceToNat] at ho8; rw [← Ny348.out] at ho8)); have HO350 := am (Kd.R_lower ho8 (below_size (q75))); replace BK347 := am (blk_below (g := gb347) (o := .cells #[.slice A0_0 l0_0.length c0_0] 32 (0, 0)) (kq BK347.out) hb); replace HB := am (below_step (q75) hb); clear hb ho8))
   go_loopg [1, 5] k (fun kq v1 v5 w' => ∃ (x1_1 : Int) (x5_1 : List Int), v1 = .int .i64 x1_1 ∧ Aside0 (impl_Tree_above.l0 kq x1_1 x5_1 l0_0 = some r) ∧ Aside0 (kq ≤ k) ∧ Aside0 (Kd.R (Kd.int .i64) 3 w' w.heap.size (fun _ => True) v5 x5_1) ∧ Aside0 (w'.heap[gb347]? = some (.cells #[(.slice A0_0 l0_0.length c0_0)] 32 (0, 0))) ∧ Aside0 (Below w.heap.size w w'))
   case atStart => exact ⟨(a1), (y348), (sq), H', ⟨Nat.le_refl _⟩, ⟨rq HO350.out⟩, ⟨kq BK347.out⟩, ⟨q75⟩⟩
   case round =>
    clear H'
    try clear c1
    try clear p2
    try clear c3
    try clear c3b0
    try clear c3b1
    try clear c4
    try clear c4b0
    try clear c4b1
    try clear hcz6_0
    try clear hfz6_0
    obtain ⟨x1_1, x5_1, rfl, HA, HK1, HO_5, BK347, HB⟩ := hrel
    cases gk with
    | zero => exact absurd HA.out (by simp [impl_Tree_above.l0])
    | succ k1 =>
     have H := HA.out
     clear HA
     simp only [impl_Tree_above.l0] at H
     by_cases c9 : x1_1 ≥ 0
     ·rw [if_pos c9] at H
      have c9b0 : decide (0 ≤ x1_1) = true := decide_eq_true c9
      clear c9
      by_cases c10 : x5_1.length < 17592186044416
      ·rw [if_pos c10] at H
       have LMc10 := am c10
       clear c10
       obtain ⟨y351, hy351⟩ : ∃ y_ : List Int, y_ = (x5_1 ++ [x1_1]) := ⟨_, rfl⟩
       replace H : (if 0 ≤ x1_1 then (if x1_1 < (l0_0.length : Int) then (impl_Tree_above.l0 k1 ((rd_T87 l0_0 x1_1).f1) y351 l0_0) else (none)) else (none)) = some r := by first | (rw [hy351]; with_reducible exact H) | (have H2_ := (Option.bind_some _ _).symm.trans H; rw [hy351]; with_reducible exact H2_) | (have H2_ := (Option.bind_some _ _).symm.trans H; with_reducible exact H2_) | with_reducible exact H | (rw [hy351]; exact H) | exact H
       have Ny351 := am hy351
       clear hy351
       by_cases c11 : 0 ≤ x1_1
       ·rw [if_pos c11] at H
        have c11b0 : decide (0 ≤ x1_1) = true := decide_eq_true c11
        clear c11
        by_cases c12 : x1_1 < (l0_0.length : Int)
        ·rw [if_pos c12] at H
         have c12b0 : decide (x1_1 < (l0_0.length : Int)) = true := decide_eq_true c12
         clear c12
         have H' := am H
         clear H
         go_wp2_with (first | ((with_reducible refine gate_builtin (b := .append) (xs := #[.tmp 18, .tmp 20]) rfl ?_); at_builtin; refine Kd.R_append (Kd.int .i64) (w0 := w) w.heap.size rfl (.tmp 18) (.tmp 20) 28 3 (.int .i64 0) 8 rfl Try.underlying28 info3 rfl (by decide) (by omega) u5 x5_1 x1_1 [.int .i64 x1_1] (fun _ => True) (fun _ => False) rfl rfl ?aP (fun _ hk => hk.elim) ?aF ?aO ?aB ?aS ?aL ?_; (case aP => exact rfl); (case aB => exact (q75)); (case aF => exact (fun _ _ => trivial)); (case aO => exact (rq HO_5.out)); (case aS => exact (below_size (q75))); (case aL => have := LMc10.out; omega); intro v352 w13 ho hb hg hat; rw [← Ny351.out] at ho; have n0_ := am (blk_grown (g := gb347) (o := .cells #[.slice A0_0 l0_0.length c0_0] 32 (0, 0)) (kq BK347.out) hg (Kd.R_ne HO_5.out BK347.out (by decide))); have n1_ := am (hb); have n2_ := am (ho); clear BK347 HB HO_5; have BK347 := n0_; have HB := n1_; have HO353 := n2_; clear n0_ n1_ n2_ ho hb hg hat; have hcz14_0 := bc0 BK347.out; have hfz14_0 := blk_frozen BK347.out 0; have p354 : 0 ≤ (x1_1 : Int) := of_decide_eq_true (uq); have q354 : x1_1 < (l0_0.length : Int) := of_decide_eq_true (uq); obtain ⟨ad354, e354, hx354_0, hx354_1⟩ := at_T87 HR0_0.out x1_1 p354 q354; cases e354; replace hx354_0 := cb HB.out hx354_0; replace hx354_1 := cb HB.out hx354_1; replace p354 := eq_true p354; replace q354 := eq_true q354))
         go_roundg k1
         case measure => have := HK1.out; omega
         case rel => exact ⟨((rd_T87 l0_0 x1_1).f1), (y351), (sq), H', ⟨by have := HK1.out; omega⟩, ⟨rq HO353.out⟩, ⟨kq BK347.out⟩, ⟨q75⟩⟩
        ·rw [if_neg c12] at H
         exact absurd H (by simp)
       ·rw [if_neg c11] at H
        exact absurd H (by simp)
      ·rw [if_neg c10] at H
       exact absurd H (by simp)
     ·rw [if_neg c9] at H
      have c9b0 : decide (0 ≤ x1_1) = false := decide_eq_false c9
      clear c9
      obtain ⟨y355, hy355⟩ : ∃ y_ : List Int, y_ = (x5_1) := ⟨_, rfl⟩
      replace H : (some y355) = some r := by first | (rw [hy355]; with_reducible exact H) | (have H2_ := (Option.bind_some _ _).symm.trans H; rw [hy355]; with_reducible exact H2_) | (have H2_ := (Option.bind_some _ _).symm.trans H; with_reducible exact H2_) | with_reducible exact H | (rw [hy355]; exact H) | exact H
      have Ny355 := am hy355
      clear hy355
      obtain rfl := Option.some.inj H
      obtain ⟨Ao15, co15, eo15⟩ := Kd.R_slice HO_5.out
      subst eo15
      obtain ⟨i016, hi016, _, hsz16, _⟩ := info_parts info3
      have hy16 : y355.length = x5_1.length := (by rw [Ny355.out])
      have hcut16 := cut_clip (P := Try.prog) 28 3 Try.underlying28 hi016 Ao15 _ co15 _ (Kd.R_reads' HO_5.out).2.1 hy16
      have hr16 := Kd.R_clip HO_5.out Ny355.out
      clear hy16 hi016 hsz16 HO_5
      have HO357 := am hr16
      clear hr16
      go_wp2
      go_ret
      exact ⟨_, q0, rq HO357.out, q75⟩
  ·rw [if_neg c4] at H
   exact absurd H (by simp)
 ·rw [if_neg c3] at H
  exact absurd H (by simp)
def impl_Tree_is.f (k : Nat) (l0_0 : List (S87)) (a1 : Int) (a2 : Int) : Option (Bool) := (impl_Tree_above.f k l0_0 a1).bind fun t359 => ((slices_Contains_int_int.f k t359 a2).bind fun t362 => (some t362))
set_option maxHeartbeats 8000000 in
set_option maxRecDepth 100000 in
theorem impl_Tree_is.calls (k : Nat) (A0_0 : Option Addr) (c0_0 : Nat) (l0_0 : List (S87)) (a1 : Int) (a2 : Int) (r : Bool) (w : World) (hr0_0 : Kd.C k87 w A0_0 l0_0.length l0_0) (hc0_0 : l0_0.length ≤ c0_0) (h : impl_Tree_is.f k l0_0 a1 a2 = some r) :
  Calls Try.prog 81 #[.agg #[.slice A0_0 l0_0.length c0_0], .int .i64 a1, .int .i64 a2] w fun e w' => e = .returned (.bool r) ∧ Below w.heap.size w w' := by
 have hu32 := Try.underlying32
 have HR0_0 := am hr0_0
 have HC0_0 := am hc0_0
 clear hr0_0 hc0_0
 have HB := am (Below.refl w.heap.size w)
 have H : ((impl_Tree_above.f k l0_0 a1).bind fun t359 => ((slices_Contains_int_int.f k t359 a2).bind fun t362 => (some t362))) = some r := h
 clear h
 replace H := Option.bind_eq_some_iff.mp H
 obtain ⟨t359, A40, H⟩ := H
 replace H : ((slices_Contains_int_int.f k t359 a2).bind fun t362 => (some t362)) = some r := H
 have A4 := am A40
 clear A40
 replace H := Option.bind_eq_some_iff.mp H
 obtain ⟨t362, A50, H⟩ := H
 replace H : (some t362) = some r := H
 have A5 := am A50
 clear A50
 obtain rfl := Option.some.inj H
 go_enter Try.func81, Try.ntmps81
 go_wp2_with (first | ((with_reducible refine gate_dst (N := 3) rfl ?_); refine bE (N := 3) (cs := #[.slice A0_0 l0_0.length c0_0]) (t := 32) ?_; intro gb358 hg w6 hbox hb; have BK358 := am (hbox); have GW358 := am ((by rw [hg]; exact (below_size (bq)) : w.heap.size ≤ gb358)); have GE358 := am ((by rw [hg]; exact (below_size (bq)) : w.heap.size ≤ gb358)); replace HB := am (below_step (bq) hb); clear hb hbox hg; have hcz7_0 := bc0 BK358.out; have hfz7_0 := blk_frozen BK358.out 0) | ((with_reducible refine gate_callee (f := 103) rfl ?_); refine goesL_ (some 9) rfl rfl Try.func103 (by kernel_rfl) rfl #[.agg #[.slice A0_0 l0_0.length c0_0], .int .i64 a1] rfl (aq) ?_; (with_reducible refine (impl_Tree_above.calls k _ _ l0_0 a1 t359 _ ?side1 ?side2 A4.out).mono ?_); (case side1 => exact cq (Kd.C_below HR0_0.out HB.out)); (case side2 => exact HC0_0.out); rintro e w8 ⟨v360, rfl, ho0, hb⟩; refine ⟨_, rfl, ?_⟩; have HO361 := am (Kd.R_lower ho0 (below_size (q113))); replace BK358 := am (blk_below (g := gb358) (o := .cells #[.slice A0_0 l0_0.length c0_0] 32 (0, 0)) (kq BK358.out) hb); replace HB := am (below_step (q113) hb); (try clear hb); (try clear hb2); (try clear hk); (try clear hi); (try clear ho0); obtain ⟨Ao9, co9, eo9⟩ := Kd.R_slice HO361.out; subst eo9) | ((with_reducible refine gate_callee (f := 102) rfl ?_); refine goesL_ (some 11) rfl rfl Try.func102 (by kernel_rfl) rfl #[.slice Ao9 t359.length co9, .int .i64 a2] rfl (aq) ?_; (with_reducible refine (slices_Contains_int_int.calls k _ _ t359 a2 t362 _ ?side1 ?side2 A5.out).mono ?_); (case side1 => exact cq (Kd.R_reads' HO361.out).2.2); (case side2 => exact (Kd.R_reads' HO361.out).2.1); rintro e w' ⟨rfl, ⟨nd, rfl⟩⟩; refine ⟨_, rfl, ?_⟩))
 go_ret
 exact ⟨q0, q113⟩
mutual
def impl_catcher.l0 : Nat → List (S52) → Int → List Int → Int → Int → List (S87) → Option (Int × Int)
 | 0, _, _, _, _, _, _ => none
 | k + 1, x1, x3, x16, x17, x18, x364000 => if x18 < x17 then (if 0 ≤ x18 then (if x18 < (x16.length : Int) then (if 0 ≤ (rd x16 x18) then (if (rd x16 x18) < (x1.length : Int) then (if ((rd_T52 x1 (rd x16 x18)).f1) = 11 then (if ((rd_T52 x1 (rd x16 x18)).f3) = 1 then (some (rd x16 x18, rd x16 x18)) else (impl_catcher.l0 k x1 x3 x16 x17 (wrap64 (x18 + 1)) x364000)) else (if ((rd_T52 x1 (rd x16 x18)).f1) = 7 then ((impl_tryFrom.f k x1 (rd x16 x18)).bind fun t370 => (impl_catcher.l1 k x1 x3 (rd x16 x18) x16 x17 x18 t370 (t370.length : Int) 0 x364000)) else (impl_catcher.l0 k x1 x3 x16 x17 (wrap64 (x18 + 1)) x364000))) else (none)) else (none)) else (none)) else (none)) else (some ((-1), (-1)))
def impl_catcher.l1 : Nat → List (S52) → Int → Int → List Int → Int → Int → List Int → Int → Int → List (S87) → Option (Int × Int)
 | 0, _, _, _, _, _, _, _, _, _, _ => none
 | k + 1, x1, x3, x11, x16, x17, x18, x41, x42, x43, x364000 => if x43 < x42 then (if 0 ≤ x43 then (if x43 < (x41.length : Int) then (if 0 ≤ (rd x41 x43) then (if (rd x41 x43) < (x1.length : Int) then (if ((rd_T52 x1 (rd x41 x43)).f1) = 8 then ((impl_Tree_is.f k x364000 x3 ((rd_T52 x1 (rd x41 x43)).f2)).bind fun t376 => (if t376 = true then (some (x11, rd x41 x43)) else (impl_catcher.l1 k x1 x3 x11 x16 x17 x18 x41 x42 (wrap64 (x43 + 1)) x364000))) else (impl_catcher.l1 k x1 x3 x11 x16 x17 x18 x41 x42 (wrap64 (x43 + 1)) x364000)) else (none)) else (none)) else (none)) else (none)) else (impl_catcher.l0 k x1 x3 x16 x17 (wrap64 (x18 + 1)) x364000)
end
def impl_catcher.f (k : Nat) (l0_0 : List (S87)) (l1 : List (S52)) (a2 : Int) (a3 : Int) : Option (Int × Int) := (impl_enclosing.f k l1 a2).bind fun t364 => (impl_catcher.l0 k l1 a3 t364 (t364.length : Int) 0 l0_0)
def impl_catcher.T12 : Bool × List (List Nat × List Nat) := (true, [([], []), ([], []), ([0, 1], [0, 1]), ([2], [2]), ([3], [3]), ([4], [4]), ([5], [5]), ([6], [6]), ([6], [6]), ([6], [6]), ([6], [6]), ([9, 10, 6], [6, 9, 10]), ([11, 6], [6, 11]), ([12, 6], [6, 12]), ([7, 8, 13, 6, 6], [6, 7, 8, 13]), ([6, 14], [6, 14])])
def impl_catcher.B12 : List Nat := [0, 0, 3, 7, 15, 31, 63, 127, 127, 127, 127, 1663, 3711, 7807, 16383, 32767]
theorem impl_catcher.tab12 : rtab .any (opsOf Try.f50 12) = impl_catcher.T12 := by kernel_rfl
theorem impl_catcher.bits12 : waitsOk impl_catcher.T12.2 impl_catcher.B12 = true := by kernel_rfl
set_option maxHeartbeats 8000000 in
set_option maxRecDepth 100000 in
theorem impl_catcher.calls (k : Nat) (A0_0 : Option Addr) (c0_0 : Nat) (l0_0 : List (S87)) (A1 : Option Addr) (c1 : Nat) (l1 : List (S52)) (a2 : Int) (a3 : Int) (r1 : Int) (r2 : Int) (w : World) (hr0_0 : Kd.C k87 w A0_0 l0_0.length l0_0) (hc0_0 : l0_0.length ≤ c0_0) (hr1 : Kd.C k52 w A1 l1.length l1) (hc1 : l1.length ≤ c1) (h : impl_catcher.f k l0_0 l1 a2 a3 = some (r1, r2)) :
  Calls Try.prog 50 #[.agg #[.slice A0_0 l0_0.length c0_0], .slice A1 l1.length c1, .int .i64 a2, .int .i64 a3] w fun e w' => e = .returned (.tuple #[.int .i64 r1, .int .i64 r2]) ∧ Below w.heap.size w w' := by
 have hu32 := Try.underlying32
 have HR0_0 := am hr0_0
 have HC0_0 := am hc0_0
 clear hr0_0 hc0_0
 have HR1 := am hr1
 have HC1 := am hc1
 clear hr1 hc1
 have HB := am (Below.refl w.heap.size w)
 have H : ((impl_enclosing.f k l1 a2).bind fun t364 => (impl_catcher.l0 k l1 a3 t364 (t364.length : Int) 0 l0_0)) = some (r1, r2) := h
 clear h
 replace H := Option.bind_eq_some_iff.mp H
 obtain ⟨t364, A50, H⟩ := H
 replace H : (impl_catcher.l0 k l1 a3 t364 (t364.length : Int) 0 l0_0) = some (r1, r2) := H
 have A5 := am A50
 clear A50
 have H' := am H
 clear H
 go_enter Try.func50, Try.ntmps50
 go_wp2_with (first | ((with_reducible refine gate_dst (N := 4) rfl ?_); refine bE (N := 4) (cs := #[.slice A0_0 l0_0.length c0_0]) (t := 32) ?_; intro gb363 hg w6 hbox hb; have BK363 := am (hbox); have GW363 := am ((by rw [hg]; exact (below_size (bq)) : w.heap.size ≤ gb363)); have GE363 := am ((by rw [hg]; exact (below_size (bq)) : w.heap.size ≤ gb363)); replace HB := am (below_step (bq) hb); clear hb hbox hg) | ((with_reducible refine gate_callee (f := 62) rfl ?_); refine goesL_ (some 16) rfl rfl Try.func62 (by kernel_rfl) rfl #[.slice A1 l1.length c1, .int .i64 a2] rfl (aq) ?_; (with_reducible refine (impl_enclosing.calls k _ _ l1 a2 t364 _ ?side1 ?side2 A5.out).mono ?_); (case side1 => exact cq (Kd.C_below HR1.out HB.out)); (case side2 => exact HC1.out); rintro e w7 ⟨v365, rfl, ho0, hb⟩; refine ⟨_, rfl, ?_⟩; have HO366 := am (Kd.R_lower ho0 (below_size (q37))); replace BK363 := am (blk_below (g := gb363) (o := .cells #[.slice A0_0 l0_0.length c0_0] 32 (0, 0)) (kq BK363.out) hb); replace HB := am (below_step (q37) hb); (try clear hb); (try clear hb2); (try clear hk); (try clear hi); (try clear ho0); obtain ⟨Ao8, co8, eo8⟩ := Kd.R_slice HO366.out; subst eo8))
 go_loopg [18] k (fun kq v18 w' => ∃ (x18_1 : Int), v18 = .int .i64 x18_1 ∧ Aside0 (impl_catcher.l0 kq l1 a3 t364 (t364.length : Int) x18_1 l0_0 = some (r1, r2)) ∧ Aside0 (kq ≤ k) ∧ Aside0 (Kd.R (Kd.int .i64) 3 w' w.heap.size (fun _ => True) (.slice Ao8 t364.length co8) t364) ∧ Aside0 (w'.heap[gb363]? = some (.cells #[(.slice A0_0 l0_0.length c0_0)] 32 (0, 0))) ∧ Aside0 (Below w.heap.size w w'))
 case atStart => exact ⟨(0), (sq), H', ⟨Nat.le_refl _⟩, ⟨rq HO366.out⟩, ⟨kq BK363.out⟩, ⟨q37⟩⟩
 case round =>
  clear H'
  try clear c1
  try clear p2
  try clear c5
  try clear c6
  obtain ⟨x18_1, rfl, HA, HK1, HO_16, BK363, HB⟩ := hrel
  cases gk with
  | zero => exact absurd HA.out (by simp [impl_catcher.l0])
  | succ k1 =>
   have H := HA.out
   clear HA
   simp only [impl_catcher.l0] at H
   by_cases c9 : x18_1 < (t364.length : Int)
   ·rw [if_pos c9] at H
    have c9b0 : decide (x18_1 < (t364.length : Int)) = true := decide_eq_true c9
    clear c9
    by_cases c10 : 0 ≤ x18_1
    ·rw [if_pos c10] at H
     have c10b0 : decide (0 ≤ x18_1) = true := decide_eq_true c10
     clear c10
     by_cases c11 : x18_1 < (t364.length : Int)
     ·rw [if_pos c11] at H
      have c11b0 : decide (x18_1 < (t364.length : Int)) = true := decide_eq_true c11
      clear c11
      by_cases c12 : 0 ≤ (rd t364 x18_1)
      ·rw [if_pos c12] at H
       have c12b0 : decide (0 ≤ (rd t364 x18_1)) = true := decide_eq_true c12
       clear c12
       by_cases c13 : (rd t364 x18_1) < (l1.length : Int)
       ·rw [if_pos c13] at H
        have c13b0 : decide ((rd t364 x18_1) < (l1.length : Int)) = true := decide_eq_true c13
        clear c13
        by_cases c14 : ((rd_T52 l1 (rd t364 x18_1)).f1) = 11
        ·rw [if_pos c14] at H
         have c14b0 : (((rd_T52 l1 (rd t364 x18_1)).f1) == 11) = true := beq_iff_eq.mpr c14
         have c14b1 : (((rd_T52 l1 (rd t364 x18_1)).f1) != 11) = false := bne_eq_false_iff_eq.mpr c14
         clear c14
         by_cases c15 : ((rd_T52 l1 (rd t364 x18_1)).f3) = 1
         ·rw [if_pos c15] at H
          have c15b0 : (((rd_T52 l1 (rd t364 x18_1)).f3) == 1) = true := beq_iff_eq.mpr c15
          have c15b1 : (((rd_T52 l1 (rd t364 x18_1)).f3) != 1) = false := bne_eq_false_iff_eq.mpr c15
          clear c15
          simp only [Option.some.injEq, Prod.mk.injEq] at H
          obtain ⟨rfl, rfl⟩ := H
          have p367 : 0 ≤ (x18_1 : Int) := of_decide_eq_true (uq)
          have q367 : x18_1 < (t364.length : Int) := of_decide_eq_true (uq)
          obtain ⟨ad367, e367, hx367_0⟩ := Kd.at_int (Kd.R_reads' HO_16.out).2.2 x18_1 p367 q367
          cases e367
          replace p367 := eq_true p367
          replace q367 := eq_true q367
          have p368 : 0 ≤ ((rd t364 x18_1) : Int) := of_decide_eq_true (uq)
          have q368 : (rd t364 x18_1) < (l1.length : Int) := of_decide_eq_true (uq)
          obtain ⟨ad368, e368, hx368_0, hx368_1, hx368_2, hx368_3⟩ := at_T52 HR1.out (rd t364 x18_1) p368 q368
          cases e368
          replace hx368_0 := cb HB.out hx368_0
          replace hx368_1 := cb HB.out hx368_1
          replace hx368_2 := cb HB.out hx368_2
          replace hx368_3 := cb HB.out hx368_3
          replace p368 := eq_true p368
          replace q368 := eq_true q368
          have p369 : 0 ≤ ((rd t364 x18_1) : Int) := of_decide_eq_true (uq)
          have q369 : (rd t364 x18_1) < (l1.length : Int) := of_decide_eq_true (uq)
          obtain ⟨ad369, e369, hx369_0, hx369_1, hx369_2, hx369_3⟩ := at_T52 HR1.out (rd t364 x18_1) p369 q369
          obtain rfl : ad368 = ad369 := (by injection e369)
          replace hx369_0 := cb HB.out hx369_0
          replace hx369_1 := cb HB.out hx369_1
          replace hx369_2 := cb HB.out hx369_2
          replace hx369_3 := cb HB.out hx369_3
          replace p369 := eq_true p369
          replace q369 := eq_true q369
          go_wp2
          go_ret2
          exact ⟨q0, q37⟩
         ·rw [if_neg c15] at H
          have c15b0 : (((rd_T52 l1 (rd t364 x18_1)).f3) == 1) = false := beq_eq_false_iff_ne.mpr c15
          have c15b1 : (((rd_T52 l1 (rd t364 x18_1)).f3) != 1) = true := bne_iff_ne.mpr c15
          have H' := am H
          clear H
          have p367 : 0 ≤ (x18_1 : Int) := of_decide_eq_true (uq)
          have q367 : x18_1 < (t364.length : Int) := of_decide_eq_true (uq)
          obtain ⟨ad367, e367, hx367_0⟩ := Kd.at_int (Kd.R_reads' HO_16.out).2.2 x18_1 p367 q367
          cases e367
          replace p367 := eq_true p367
          replace q367 := eq_true q367
          have p368 : 0 ≤ ((rd t364 x18_1) : Int) := of_decide_eq_true (uq)
          have q368 : (rd t364 x18_1) < (l1.length : Int) := of_decide_eq_true (uq)
          obtain ⟨ad368, e368, hx368_0, hx368_1, hx368_2, hx368_3⟩ := at_T52 HR1.out (rd t364 x18_1) p368 q368
          cases e368
          replace hx368_0 := cb HB.out hx368_0
          replace hx368_1 := cb HB.out hx368_1
          replace hx368_2 := cb HB.out hx368_2
          replace hx368_3 := cb HB.out hx368_3
          replace p368 := eq_true p368
          replace q368 := eq_true q368
          have p369 : 0 ≤ ((rd t364 x18_1) : Int) := of_decide_eq_true (uq)
          have q369 : (rd t364 x18_1) < (l1.length : Int) := of_decide_eq_true (uq)
          obtain ⟨ad369, e369, hx369_0, hx369_1, hx369_2, hx369_3⟩ := at_T52 HR1.out (rd t364 x18_1) p369 q369
          obtain rfl : ad368 = ad369 := (by injection e369)
          replace hx369_0 := cb HB.out hx369_0
          replace hx369_1 := cb HB.out hx369_1
          replace hx369_2 := cb HB.out hx369_2
          replace hx369_3 := cb HB.out hx369_3
          replace p369 := eq_true p369
          replace q369 := eq_true q369
          go_wp2
          go_roundg k1
          case measure => have := HK1.out; omega
          case rel => exact ⟨(wrap64 (x18_1 + 1)), (sq), H', ⟨by have := HK1.out; omega⟩, ⟨rq HO_16.out⟩, ⟨kq BK363.out⟩, ⟨q37⟩⟩
        ·rw [if_neg c14] at H
         have c14b0 : (((rd_T52 l1 (rd t364 x18_1)).f1) == 11) = false := beq_eq_false_iff_ne.mpr c14
         have c14b1 : (((rd_T52 l1 (rd t364 x18_1)).f1) != 11) = true := bne_iff_ne.mpr c14
         by_cases c16 : ((rd_T52 l1 (rd t364 x18_1)).f1) = 7
         ·rw [if_pos c16] at H
          have c16b0 : (((rd_T52 l1 (rd t364 x18_1)).f1) == 7) = true := beq_iff_eq.mpr c16
          have c16b1 : (((rd_T52 l1 (rd t364 x18_1)).f1) != 7) = false := bne_eq_false_iff_eq.mpr c16
          clear c16
          replace H := Option.bind_eq_some_iff.mp H
          obtain ⟨t370, A170, H⟩ := H
          replace H : (impl_catcher.l1 k1 l1 a3 (rd t364 x18_1) t364 (t364.length : Int) x18_1 t370 (t370.length : Int) 0 l0_0) = some (r1, r2) := H
          have A17 := am A170
          clear A170
          have H' := am H
          clear H
          have p367 : 0 ≤ (x18_1 : Int) := of_decide_eq_true (uq)
          have q367 : x18_1 < (t364.length : Int) := of_decide_eq_true (uq)
          obtain ⟨ad367, e367, hx367_0⟩ := Kd.at_int (Kd.R_reads' HO_16.out).2.2 x18_1 p367 q367
          cases e367
          replace p367 := eq_true p367
          replace q367 := eq_true q367
          have p368 : 0 ≤ ((rd t364 x18_1) : Int) := of_decide_eq_true (uq)
          have q368 : (rd t364 x18_1) < (l1.length : Int) := of_decide_eq_true (uq)
          obtain ⟨ad368, e368, hx368_0, hx368_1, hx368_2, hx368_3⟩ := at_T52 HR1.out (rd t364 x18_1) p368 q368
          cases e368
          replace hx368_0 := cb HB.out hx368_0
          replace hx368_1 := cb HB.out hx368_1
          replace hx368_2 := cb HB.out hx368_2
          replace hx368_3 := cb HB.out hx368_3
          replace p368 := eq_true p368
          replace q368 := eq_true q368
          go_wp2_with (first | ((with_reducible refine gate_callee (f := 80) rfl ?_); refine goesL_ (some 41) rfl rfl Try.func80 (by kernel_rfl) rfl #[.slice (some ad368) l1.length c1, .int .i64 (rd t364 x18_1)] rfl (aq) ?_; (with_reducible refine (impl_tryFrom.calls k1 _ _ l1 (rd t364 x18_1) t370 _ ?side1 ?side2 A17.out).mono ?_); (case side1 => exact cq (Kd.C_below HR1.out HB.out)); (case side2 => exact HC1.out); rintro e w18 ⟨v371, rfl, ho0, hb⟩; refine ⟨_, rfl, ?_⟩; have HO372 := am (Kd.R_lower (Kd.R_new' ho0 (Kd.R_lt (rq HO_16.out))) (below_size (q37))); replace HO_16 := am (Kd.R_elder' (rq HO_16.out) (Kd.R_base ho0) hb); replace BK363 := am (blk_below (g := gb363) (o := .cells #[.slice A0_0 l0_0.length c0_0] 32 (0, 0)) (kq BK363.out) hb); replace HB := am (below_step (q37) hb); (try clear hb); (try clear hb2); (try clear hk); (try clear hi); (try clear ho0); obtain ⟨Ao19, co19, eo19⟩ := Kd.R_slice HO372.out; subst eo19))
          go_loopg [43] k1 (fun kq v43 w' => ∃ (x43_2 : Int), v43 = .int .i64 x43_2 ∧ Aside0 (impl_catcher.l1 kq l1 a3 (rd t364 x18_1) t364 (t364.length : Int) x18_1 t370 (t370.length : Int) x43_2 l0_0 = some (r1, r2)) ∧ Aside0 (kq ≤ k1) ∧ Aside0 (Kd.R (Kd.int .i64) 3 w' w.heap.size (fun k_ => some k_ ≠ ((.slice Ao19 t370.length co19) : Value).ownBlock) (.slice (some ad367) t364.length co8) t364) ∧ Aside0 (Kd.R (Kd.int .i64) 3 w' w.heap.size (fun k_ => some k_ ≠ ((.slice (some ad367) t364.length co8) : Value).ownBlock) (.slice Ao19 t370.length co19) t370) ∧ Aside0 (w'.heap[gb363]? = some (.cells #[(.slice A0_0 l0_0.length c0_0)] 32 (0, 0))) ∧ Aside0 (Below w.heap.size w w'))
          case atStart => exact ⟨(0), (sq), H', ⟨Nat.le_refl _⟩, ⟨by (with_reducible repeat (first | apply Kd.R_alloc | apply Kd.R_drewN | apply Kd.R_drew)); exact Kd.R_mono HO_16.out (fun _ hk => hk.2)⟩, ⟨by (with_reducible repeat (first | apply Kd.R_alloc | apply Kd.R_drewN | apply Kd.R_drew)); exact Kd.R_mono HO372.out (fun _ hk => hk.2)⟩, ⟨kq BK363.out⟩, ⟨q37⟩⟩
          case round =>
           clear H'
           try clear c1
           try clear p2
           try clear p3
           try clear q3
           try clear hx3
           try clear c5
           try clear c6
           try clear p6
           try clear c8
           try clear c9
           try clear c9b0
           try clear c10
           try clear c10b0
           try clear c11
           try clear c11b0
           try clear c12
           try clear c12b0
           try clear c13
           try clear c13b0
           try clear c14
           try clear c14b0
           try clear c14b1
           try clear c15
           try clear c15b0
           try clear c15b1
           try clear c16
           try clear c16b0
           try clear c16b1
           try clear hx367_0
           try clear hx368_0
           try clear hx368_1
           try clear hx368_2
           try clear hx368_3
           try clear hx369_0
           try clear hx369_1
           try clear hx369_2
           try clear hx369_3
           try clear p2
           try clear p367
           try clear p368
           try clear p369
           try clear q367
           try clear q368
           try clear q369
           obtain ⟨x43_2, rfl, HA, HK2, HO_16, HO_41, BK363, HB⟩ := hrel
           cases gk with
           | zero => exact absurd HA.out (by simp [impl_catcher.l1])
           | succ k2 =>
            have H := HA.out
            clear HA
            simp only [impl_catcher.l1] at H
            by_cases c20 : x43_2 < (t370.length : Int)
            ·rw [if_pos c20] at H
             have c20b0 : decide (x43_2 < (t370.length : Int)) = true := decide_eq_true c20
             clear c20
             by_cases c21 : 0 ≤ x43_2
             ·rw [if_pos c21] at H
              have c21b0 : decide (0 ≤ x43_2) = true := decide_eq_true c21
              clear c21
              by_cases c22 : x43_2 < (t370.length : Int)
              ·rw [if_pos c22] at H
               have c22b0 : decide (x43_2 < (t370.length : Int)) = true := decide_eq_true c22
               clear c22
               by_cases c23 : 0 ≤ (rd t370 x43_2)
               ·rw [if_pos c23] at H
                have c23b0 : decide (0 ≤ (rd t370 x43_2)) = true := decide_eq_true c23
                clear c23
                by_cases c24 : (rd t370 x43_2) < (l1.length : Int)
                ·rw [if_pos c24] at H
                 have c24b0 : decide ((rd t370 x43_2) < (l1.length : Int)) = true := decide_eq_true c24
                 clear c24
                 by_cases c25 : ((rd_T52 l1 (rd t370 x43_2)).f1) = 8
                 ·rw [if_pos c25] at H
                  have c25b0 : (((rd_T52 l1 (rd t370 x43_2)).f1) == 8) = true := beq_iff_eq.mpr c25
                  have c25b1 : (((rd_T52 l1 (rd t370 x43_2)).f1) != 8) = false := bne_eq_false_iff_eq.mpr c25
                  clear c25
                  replace H := Option.bind_eq_some_iff.mp H
                  obtain ⟨t376, A260, H⟩ := H
                  replace H : (if t376 = true then (some ((rd t364 x18_1), rd t370 x43_2)) else (impl_catcher.l1 k2 l1 a3 (rd t364 x18_1) t364 (t364.length : Int) x18_1 t370 (t370.length : Int) (wrap64 (x43_2 + 1)) l0_0)) = some (r1, r2) := H
                  have A26 := am A260
                  clear A260
                  by_cases c27 : t376 = true
                  ·subst c27
                   have H1 : (some ((rd t364 x18_1), rd t370 x43_2)) = some (r1, r2) := by rw [if_pos rfl] at H; exact H
                   clear H
                   have H := H1
                   clear H1
                   simp only [Option.some.injEq, Prod.mk.injEq] at H
                   obtain ⟨rfl, rfl⟩ := H
                   have p373 : 0 ≤ (x43_2 : Int) := of_decide_eq_true (uq)
                   have q373 : x43_2 < (t370.length : Int) := of_decide_eq_true (uq)
                   obtain ⟨ad373, e373, hx373_0⟩ := Kd.at_int (Kd.R_reads' HO_41.out).2.2 x43_2 p373 q373
                   cases e373
                   replace p373 := eq_true p373
                   replace q373 := eq_true q373
                   try go_wp2
                   have n0_ := am (Kd.R_drew HO_16.out)
                   have n1_ := am (Kd.R_drew HO_41.out)
                   have n2_ := am (blk_drew BK363.out)
                   have n3_ := am (below_drew1 HB.out)
                   clear HO_16
                   clear HO_41
                   clear BK363
                   clear HB
                   have HO_16 := n0_
                   have HO_41 := n1_
                   have BK363 := n2_
                   have HB := n3_
                   clear n0_ n1_ n2_ n3_
                   have p374 : 0 ≤ ((rd t370 x43_2) : Int) := of_decide_eq_true (uq)
                   have q374 : (rd t370 x43_2) < (l1.length : Int) := of_decide_eq_true (uq)
                   obtain ⟨ad374, e374, hx374_0, hx374_1, hx374_2, hx374_3⟩ := at_T52 HR1.out (rd t370 x43_2) p374 q374
                   have hw374_3 := hx374_3
                   have hw374_2 := hx374_2
                   have hw374_1 := hx374_1
                   have hw374_0 := hx374_0
                   obtain rfl : ad368 = ad374 := (by injection e374)
                   replace hx374_0 := cb HB.out hx374_0
                   replace hx374_1 := cb HB.out hx374_1
                   replace hx374_2 := cb HB.out hx374_2
                   replace hx374_3 := cb HB.out hx374_3
                   replace p374 := eq_true p374
                   replace q374 := eq_true q374
                   have p375 : 0 ≤ ((rd t370 x43_2) : Int) := of_decide_eq_true (uq)
                   have q375 : (rd t370 x43_2) < (l1.length : Int) := of_decide_eq_true (uq)
                   obtain ⟨ad375, e375, hx375_0, hx375_1, hx375_2, hx375_3⟩ := at_T52 HR1.out (rd t370 x43_2) p375 q375
                   have hw375_3 := hx375_3
                   have hw375_2 := hx375_2
                   have hw375_1 := hx375_1
                   have hw375_0 := hx375_0
                   obtain rfl : ad368 = ad375 := (by injection e375)
                   replace hx375_0 := cb HB.out hx375_0
                   replace hx375_1 := cb HB.out hx375_1
                   replace hx375_2 := cb HB.out hx375_2
                   replace hx375_3 := cb HB.out hx375_3
                   replace p375 := eq_true p375
                   replace q375 := eq_true q375
                   refine start_ (n := 16) (S := fun w' => w'.cell? ⟨gb363, 0, none⟩ = some (.slice A0_0 l0_0.length c0_0) ∧ w'.cell? (ad368.add (((rd t370 x43_2)).toNat * 4)) = some (.int .i64 ((rd_T52 l1 (rd t370 x43_2)).f0)) ∧ w'.cell? ⟨(ad368.add (((rd t370 x43_2)).toNat * 4)).block, (ad368.add (((rd t370 x43_2)).toNat * 4)).off + 1, none⟩ = some (.int .i64 ((rd_T52 l1 (rd t370 x43_2)).f1)) ∧ w'.cell? ⟨(ad368.add (((rd t370 x43_2)).toNat * 4)).block, (ad368.add (((rd t370 x43_2)).toNat * 4)).off + 2, none⟩ = some (.int .i64 ((rd_T52 l1 (rd t370 x43_2)).f2)) ∧ w'.cell? ⟨(ad368.add (((rd t370 x43_2)).toNat * 4)).block, (ad368.add (((rd t370 x43_2)).toNat * 4)).off + 3, none⟩ = some (.int .i64 ((rd_T52 l1 (rd t370 x43_2)).f3)) ∧ w'.cell? (ad368.add (((rd t370 x43_2)).toNat * 4)) = some (.int .i64 ((rd_T52 l1 (rd t370 x43_2)).f0)) ∧ w'.cell? ⟨(ad368.add (((rd t370 x43_2)).toNat * 4)).block, (ad368.add (((rd t370 x43_2)).toNat * 4)).off + 1, none⟩ = some (.int .i64 ((rd_T52 l1 (rd t370 x43_2)).f1)) ∧ w'.cell? ⟨(ad368.add (((rd t370 x43_2)).toNat * 4)).block, (ad368.add (((rd t370 x43_2)).toNat * 4)).off + 2, none⟩ = some (.int .i64 ((rd_T52 l1 (rd t370 x43_2)).f2)) ∧ w'.cell? ⟨(ad368.add (((rd t370 x43_2)).toNat * 4)).block, (ad368.add (((rd t370 x43_2)).toNat * 4)).off + 3, none⟩ = some (.int .i64 ((rd_T52 l1 (rd t370 x43_2)).f3))) (ds := []) #[false, false, false, false, false, false, false, false, false, false, false, false, false, false, false, false] (by kernel_rfl) rfl rfl ⟨(blk_cell BK363.out 0).trans rfl, ((HB.out.cell (World.block_lt_of_cell? w _ hw374_0)).trans hw374_0), ((HB.out.cell (World.block_lt_of_cell? w _ hw374_1)).trans hw374_1), ((HB.out.cell (World.block_lt_of_cell? w _ hw374_2)).trans hw374_2), ((HB.out.cell (World.block_lt_of_cell? w _ hw374_3)).trans hw374_3), ((HB.out.cell (World.block_lt_of_cell? w _ hw375_0)).trans hw375_0), ((HB.out.cell (World.block_lt_of_cell? w _ hw375_1)).trans hw375_1), ((HB.out.cell (World.block_lt_of_cell? w _ hw375_2)).trans hw375_2), ((HB.out.cell (World.block_lt_of_cell? w _ hw375_3)).trans hw375_3)⟩ (fun hHeld => ?_); refine with_tabW impl_catcher.tab12 impl_catcher.bits12 (fun HT_ HW_ => ?_)
                   generalize wr.drew = w28 at HO_16 HO_41 BK363 HB hx374_0 hx374_1 hx374_2 hx374_3 hx375_0 hx375_1 hx375_2 hx375_3 hHeld ⊢
                   refine pure_ (i := 0) (N := some 47) (v := ?_) (a' := ?_) #[true, false, false, false, false, false, false, false, false, false, false, false, false, false, false, false] rfl rfl (any_of HT_.out (by kernel_rfl)) (fun _ _ _ h => h) (Or.inl ⟨by rfl, ?_⟩) ?_ ?_
                   rotate_left
                   ·intro w'
                    go_simp
                    with_reducible rfl
                   rotate_left
                   ·simp only [Act.put, List.setIfInBounds_toArray, List.set_cons_zero, List.set_cons_succ, i64_w, i32_w]
                    rfl
                   refine pure_ (i := 1) (N := some 48) (v := ?_) (a' := ?_) #[true, true, false, false, false, false, false, false, false, false, false, false, false, false, false, false] rfl rfl (any_of HT_.out (by kernel_rfl)) (fun _ _ _ h => h) (Or.inl ⟨by rfl, ?_⟩) ?_ ?_
                   rotate_left
                   ·intro w'
                    go_simp
                    with_reducible rfl
                   rotate_left
                   ·simp only [Act.put, List.setIfInBounds_toArray, List.set_cons_zero, List.set_cons_succ, i64_w, i32_w]
                    rfl
                   refine pure_ (i := 2) (N := some 49) (v := ?_) (a' := ?_) #[true, true, true, false, false, false, false, false, false, false, false, false, false, false, false, false] rfl rfl (any_of HT_.out (by kernel_rfl)) (fun _ _ _ h => h) (Or.inl ⟨by rfl, ?_⟩) ?_ ?_
                   rotate_left
                   ·intro w'
                    go_simp
                    with_reducible rfl
                   rotate_left
                   ·simp only [Act.put, List.setIfInBounds_toArray, List.set_cons_zero, List.set_cons_succ, i64_w, i32_w]
                    rfl
                   refine pure_ (i := 3) (N := some 50) (v := ?_) (a' := ?_) #[true, true, true, true, false, false, false, false, false, false, false, false, false, false, false, false] rfl rfl (any_of HT_.out (by kernel_rfl)) (fun _ _ _ h => h) (Or.inl ⟨by rfl, ?_⟩) ?_ ?_
                   rotate_left
                   ·intro w'
                    go_simp
                    with_reducible rfl
                   rotate_left
                   ·simp only [Act.put, List.setIfInBounds_toArray, List.set_cons_zero, List.set_cons_succ, i64_w, i32_w]
                    rfl
                   refine take_ (i := 4) (N := some 51) (v := ?_) (a' := ?_) #[true, true, true, true, true, false, false, false, false, false, false, false, false, false, false, false] rfl rfl (take_ofW HT_.out HW_.out (by kernel_rfl)) (fun _ _ _ h => h) (Or.inl ⟨by rfl, ?_⟩) hHeld ?_ ?_
                   rotate_left
                   ·rintro w' ⟨s0, s1, s2, s3, s4, s5, s6, s7, s8⟩
                    go_simp
                    with_reducible rfl
                   rotate_left
                   ·simp only [Act.put, List.setIfInBounds_toArray, List.set_cons_zero, List.set_cons_succ, i64_w, i32_w]
                    rfl
                   refine pure_ (i := 5) (N := some 52) (v := ?_) (a' := ?_) #[true, true, true, true, true, true, false, false, false, false, false, false, false, false, false, false] rfl rfl (any_of HT_.out (by kernel_rfl)) (fun _ _ _ h => h) (Or.inl ⟨by rfl, ?_⟩) ?_ ?_
                   rotate_left
                   ·intro w'
                    go_simp
                    with_reducible rfl
                   rotate_left
                   ·simp only [Act.put, List.setIfInBounds_toArray, List.set_cons_zero, List.set_cons_succ, i64_w, i32_w]
                    rfl
                   refine pure_ (i := 6) (N := some 53) (v := ?_) (a' := ?_) #[true, true, true, true, true, true, true, false, false, false, false, false, false, false, false, false] rfl rfl (any_of HT_.out (by kernel_rfl)) (fun _ _ _ h => h) (Or.inl ⟨by rfl, ?_⟩) ?_ ?_
                   rotate_left
                   ·intro w'
                    go_simp
                    with_reducible rfl
                   rotate_left
                   ·simp only [Act.put, List.setIfInBounds_toArray, List.set_cons_zero, List.set_cons_succ, i64_w, i32_w]
                    rfl
                   refine pure_ (i := 8) (N := some 55) (v := ?_) (a' := ?_) #[true, true, true, true, true, true, true, false, true, false, false, false, false, false, false, false] rfl rfl (any_of HT_.out (by kernel_rfl)) (fun _ _ _ h => h) (Or.inl ⟨by rfl, ?_⟩) ?_ ?_
                   rotate_left
                   ·intro w'
                    go_simp
                    with_reducible rfl
                   rotate_left
                   ·simp only [Act.put, List.setIfInBounds_toArray, List.set_cons_zero, List.set_cons_succ, i64_w, i32_w]
                    rfl
                   refine pure_ (i := 9) (N := some 56) (v := ?_) (a' := ?_) #[true, true, true, true, true, true, true, false, true, true, false, false, false, false, false, false] rfl rfl (any_of HT_.out (by kernel_rfl)) (fun _ _ _ h => h) (Or.inl ⟨by rfl, ?_⟩) ?_ ?_
                   rotate_left
                   ·intro w'
                    go_simp
                    with_reducible rfl
                   rotate_left
                   ·simp only [Act.put, List.setIfInBounds_toArray, List.set_cons_zero, List.set_cons_succ, i64_w, i32_w]
                    rfl
                   refine pure_ (i := 10) (N := some 57) (v := ?_) (a' := ?_) #[true, true, true, true, true, true, true, false, true, true, true, false, false, false, false, false] rfl rfl (any_of HT_.out (by kernel_rfl)) (fun _ _ _ h => h) (Or.inl ⟨by rfl, ?_⟩) ?_ ?_
                   rotate_left
                   ·intro w'
                    go_simp
                    with_reducible rfl
                   rotate_left
                   ·simp only [Act.put, List.setIfInBounds_toArray, List.set_cons_zero, List.set_cons_succ, i64_w, i32_w]
                    rfl
                   refine pure_ (i := 11) (N := some 58) (v := ?_) (a' := ?_) #[true, true, true, true, true, true, true, false, true, true, true, true, false, false, false, false] rfl rfl (any_of HT_.out (by kernel_rfl)) (fun _ _ _ h => h) (Or.inl ⟨by rfl, ?_⟩) ?_ ?_
                   rotate_left
                   ·intro w'
                    go_simp
                    with_reducible rfl
                   rotate_left
                   ·simp only [Act.put, List.setIfInBounds_toArray, List.set_cons_zero, List.set_cons_succ, i64_w, i32_w]
                    rfl
                   refine pure_ (i := 12) (N := some 59) (v := ?_) (a' := ?_) #[true, true, true, true, true, true, true, false, true, true, true, true, true, false, false, false] rfl rfl (any_of HT_.out (by kernel_rfl)) (fun _ _ _ h => h) (Or.inl ⟨by rfl, ?_⟩) ?_ ?_
                   rotate_left
                   ·intro w'
                    go_simp
                    with_reducible rfl
                   rotate_left
                   ·simp only [Act.put, List.setIfInBounds_toArray, List.set_cons_zero, List.set_cons_succ, i64_w, i32_w]
                    rfl
                   refine take_ (i := 7) (N := some 54) (v := ?_) (a' := ?_) #[true, true, true, true, true, true, true, true, true, true, true, true, true, false, false, false] rfl rfl (take_ofW HT_.out HW_.out (by kernel_rfl)) (fun _ _ _ h => h) (Or.inl ⟨by rfl, ?_⟩) hHeld ?_ ?_
                   rotate_left
                   ·rintro w' ⟨s0, s1, s2, s3, s4, s5, s6, s7, s8⟩
                    go_simp
                    with_reducible rfl
                   rotate_left
                   ·simp only [Act.put, List.setIfInBounds_toArray, List.set_cons_zero, List.set_cons_succ, i64_w, i32_w]
                    rfl
                   refine take_ (i := 13) (N := some 60) (v := ?_) (a' := ?_) #[true, true, true, true, true, true, true, true, true, true, true, true, true, true, false, false] rfl rfl (take_ofW HT_.out HW_.out (by kernel_rfl)) (fun _ _ _ h => h) (Or.inl ⟨by rfl, ?_⟩) hHeld ?_ ?_
                   rotate_left
                   ·rintro w' ⟨s0, s1, s2, s3, s4, s5, s6, s7, s8⟩
                    go_simp
                    with_reducible rfl
                   rotate_left
                   ·simp only [Act.put, List.setIfInBounds_toArray, List.set_cons_zero, List.set_cons_succ, i64_w, i32_w]
                    rfl
                   refine one_ (i := 14) (N := some 61) #[true, true, true, true, true, true, true, true, true, true, true, true, true, true, true, false] rfl rfl (one_of HT_.out (by kernel_rfl)) (by decide) (fun K hK => ?_)
                   refine goes_ Try.func81 (by kernel_rfl) rfl #[.agg #[.slice A0_0 l0_0.length c0_0], .int .i64 a3, .int .i64 ((rd_T52 l1 (rd t370 x43_2)).f2)] (by rfl) rfl rfl (aq) ?_
                   with_reducible refine (impl_Tree_is.calls k2 _ _ l0_0 a3 ((rd_T52 l1 (rd t370 x43_2)).f2) true _ ?side1 ?side2 A26.out).mono ?_
                   (case side1 => exact cq (Kd.C_below HR0_0.out HB.out))
                   (case side2 => exact HC0_0.out)
                   rintro e w29 ⟨rfl, hb⟩
                   refine ⟨_, rfl, ?_⟩
                   have n0_ := am (Kd.R_below (rq HO_16.out) hb)
                   have n1_ := am (Kd.R_below (rq HO_41.out) hb)
                   have n2_ := am (blk_below (g := gb363) (o := .cells #[.slice A0_0 l0_0.length c0_0] 32 (0, 0)) (kq BK363.out) hb)
                   have n3_ := am (below_step (q37) hb)
                   clear HO_16
                   clear HO_41
                   clear BK363
                   clear HB
                   have HO_16 := n0_
                   have HO_41 := n1_
                   have BK363 := n2_
                   have HB := n3_
                   clear n0_ n1_ n2_ n3_
                   (try clear hb)
                   (try clear hb2)
                   (try clear hk)
                   (try clear hi)
                   refine hK.out _ _ ⟨(blk_cell BK363.out 0).trans rfl, ((HB.out.cell (World.block_lt_of_cell? w _ hw374_0)).trans hw374_0), ((HB.out.cell (World.block_lt_of_cell? w _ hw374_1)).trans hw374_1), ((HB.out.cell (World.block_lt_of_cell? w _ hw374_2)).trans hw374_2), ((HB.out.cell (World.block_lt_of_cell? w _ hw374_3)).trans hw374_3), ((HB.out.cell (World.block_lt_of_cell? w _ hw375_0)).trans hw375_0), ((HB.out.cell (World.block_lt_of_cell? w _ hw375_1)).trans hw375_1), ((HB.out.cell (World.block_lt_of_cell? w _ hw375_2)).trans hw375_2), ((HB.out.cell (World.block_lt_of_cell? w _ hw375_3)).trans hw375_3)⟩ (fun hHeld => ?_)
                   clear hK K
                   refine norm_ (a' := ?_) ?_ ?_
                   rotate_left
                   ·show Act.put _ (some 61) _ = _
                    simp only [Act.put, List.setIfInBounds_toArray, List.set_cons_zero, List.set_cons_succ, i64_w, i32_w]
                    rfl
                   refine pure_ (i := 15) (N := some 62) (v := ?_) (a' := ?_) #[true, true, true, true, true, true, true, true, true, true, true, true, true, true, true, true] rfl rfl (any_of HT_.out (by kernel_rfl)) (fun _ _ _ h => h) (Or.inl ⟨by rfl, ?_⟩) ?_ ?_
                   rotate_left
                   ·intro w'
                    go_simp
                    with_reducible rfl
                   rotate_left
                   ·simp only [Act.put, List.setIfInBounds_toArray, List.set_cons_zero, List.set_cons_succ, i64_w, i32_w]
                    rfl
                   refine done_ (done_of HT_.out (by kernel_rfl)) ?_
                   try go_wp2
                   go_ret2
                   exact ⟨q0, q37⟩
                  ·replace c27 := Bool.eq_false_iff.mpr c27
                   subst c27
                   have H1 : (impl_catcher.l1 k2 l1 a3 (rd t364 x18_1) t364 (t364.length : Int) x18_1 t370 (t370.length : Int) (wrap64 (x43_2 + 1)) l0_0) = some (r1, r2) := by rw [if_neg (show ¬ (false = true) by decide)] at H; exact H
                   clear H
                   have H := H1
                   clear H1
                   have H' := am H
                   clear H
                   have p373 : 0 ≤ (x43_2 : Int) := of_decide_eq_true (uq)
                   have q373 : x43_2 < (t370.length : Int) := of_decide_eq_true (uq)
                   obtain ⟨ad373, e373, hx373_0⟩ := Kd.at_int (Kd.R_reads' HO_41.out).2.2 x43_2 p373 q373
                   cases e373
                   replace p373 := eq_true p373
                   replace q373 := eq_true q373
                   try go_wp2
                   have n0_ := am (Kd.R_drew HO_16.out)
                   have n1_ := am (Kd.R_drew HO_41.out)
                   have n2_ := am (blk_drew BK363.out)
                   have n3_ := am (below_drew1 HB.out)
                   clear HO_16
                   clear HO_41
                   clear BK363
                   clear HB
                   have HO_16 := n0_
                   have HO_41 := n1_
                   have BK363 := n2_
                   have HB := n3_
                   clear n0_ n1_ n2_ n3_
                   have p374 : 0 ≤ ((rd t370 x43_2) : Int) := of_decide_eq_true (uq)
                   have q374 : (rd t370 x43_2) < (l1.length : Int) := of_decide_eq_true (uq)
                   obtain ⟨ad374, e374, hx374_0, hx374_1, hx374_2, hx374_3⟩ := at_T52 HR1.out (rd t370 x43_2) p374 q374
                   have hw374_3 := hx374_3
                   have hw374_2 := hx374_2
                   have hw374_1 := hx374_1
                   have hw374_0 := hx374_0
                   obtain rfl : ad368 = ad374 := (by injection e374)
                   replace hx374_0 := cb HB.out hx374_0
                   replace hx374_1 := cb HB.out hx374_1
                   replace hx374_2 := cb HB.out hx374_2
                   replace hx374_3 := cb HB.out hx374_3
                   replace p374 := eq_true p374
                   replace q374 := eq_true q374
                   have p375 : 0 ≤ ((rd t370 x43_2) : Int) := of_decide_eq_true (uq)
                   have q375 : (rd t370 x43_2) < (l1.length : Int) := of_decide_eq_true (uq)
                   obtain ⟨ad375, e375, hx375_0, hx375_1, hx375_2, hx375_3⟩ := at_T52 HR1.out (rd t370 x43_2) p375 q375
                   have hw375_3 := hx375_3
                   have hw375_2 := hx375_2
                   have hw375_1 := hx375_1
                   have hw375_0 := hx375_0
                   obtain rfl : ad368 = ad375 := (by injection e375)
                   replace hx375_0 := cb HB.out hx375_0
                   replace hx375_1 := cb HB.out hx375_1
                   replace hx375_2 := cb HB.out hx375_2
                   replace hx375_3 := cb HB.out hx375_3
                   replace p375 := eq_true p375
                   replace q375 := eq_true q375
                   refine start_ (n := 16) (S := fun w' => w'.cell? ⟨gb363, 0, none⟩ = some (.slice A0_0 l0_0.length c0_0) ∧ w'.cell? (ad368.add (((rd t370 x43_2)).toNat * 4)) = some (.int .i64 ((rd_T52 l1 (rd t370 x43_2)).f0)) ∧ w'.cell? ⟨(ad368.add (((rd t370 x43_2)).toNat * 4)).block, (ad368.add (((rd t370 x43_2)).toNat * 4)).off + 1, none⟩ = some (.int .i64 ((rd_T52 l1 (rd t370 x43_2)).f1)) ∧ w'.cell? ⟨(ad368.add (((rd t370 x43_2)).toNat * 4)).block, (ad368.add (((rd t370 x43_2)).toNat * 4)).off + 2, none⟩ = some (.int .i64 ((rd_T52 l1 (rd t370 x43_2)).f2)) ∧ w'.cell? ⟨(ad368.add (((rd t370 x43_2)).toNat * 4)).block, (ad368.add (((rd t370 x43_2)).toNat * 4)).off + 3, none⟩ = some (.int .i64 ((rd_T52 l1 (rd t370 x43_2)).f3)) ∧ w'.cell? (ad368.add (((rd t370 x43_2)).toNat * 4)) = some (.int .i64 ((rd_T52 l1 (rd t370 x43_2)).f0)) ∧ w'.cell? ⟨(ad368.add (((rd t370 x43_2)).toNat * 4)).block, (ad368.add (((rd t370 x43_2)).toNat * 4)).off + 1, none⟩ = some (.int .i64 ((rd_T52 l1 (rd t370 x43_2)).f1)) ∧ w'.cell? ⟨(ad368.add (((rd t370 x43_2)).toNat * 4)).block, (ad368.add (((rd t370 x43_2)).toNat * 4)).off + 2, none⟩ = some (.int .i64 ((rd_T52 l1 (rd t370 x43_2)).f2)) ∧ w'.cell? ⟨(ad368.add (((rd t370 x43_2)).toNat * 4)).block, (ad368.add (((rd t370 x43_2)).toNat * 4)).off + 3, none⟩ = some (.int .i64 ((rd_T52 l1 (rd t370 x43_2)).f3))) (ds := []) #[false, false, false, false, false, false, false, false, false, false, false, false, false, false, false, false] (by kernel_rfl) rfl rfl ⟨(blk_cell BK363.out 0).trans rfl, ((HB.out.cell (World.block_lt_of_cell? w _ hw374_0)).trans hw374_0), ((HB.out.cell (World.block_lt_of_cell? w _ hw374_1)).trans hw374_1), ((HB.out.cell (World.block_lt_of_cell? w _ hw374_2)).trans hw374_2), ((HB.out.cell (World.block_lt_of_cell? w _ hw374_3)).trans hw374_3), ((HB.out.cell (World.block_lt_of_cell? w _ hw375_0)).trans hw375_0), ((HB.out.cell (World.block_lt_of_cell? w _ hw375_1)).trans hw375_1), ((HB.out.cell (World.block_lt_of_cell? w _ hw375_2)).trans hw375_2), ((HB.out.cell (World.block_lt_of_cell? w _ hw375_3)).trans hw375_3)⟩ (fun hHeld => ?_); refine with_tabW impl_catcher.tab12 impl_catcher.bits12 (fun HT_ HW_ => ?_)
                   generalize wr.drew = w30 at HO_16 HO_41 BK363 HB hx374_0 hx374_1 hx374_2 hx374_3 hx375_0 hx375_1 hx375_2 hx375_3 hHeld ⊢
                   refine pure_ (i := 0) (N := some 47) (v := ?_) (a' := ?_) #[true, false, false, false, false, false, false, false, false, false, false, false, false, false, false, false] rfl rfl (any_of HT_.out (by kernel_rfl)) (fun _ _ _ h => h) (Or.inl ⟨by rfl, ?_⟩) ?_ ?_
                   rotate_left
                   ·intro w'
                    go_simp
                    with_reducible rfl
                   rotate_left
                   ·simp only [Act.put, List.setIfInBounds_toArray, List.set_cons_zero, List.set_cons_succ, i64_w, i32_w]
                    rfl
                   refine pure_ (i := 1) (N := some 48) (v := ?_) (a' := ?_) #[true, true, false, false, false, false, false, false, false, false, false, false, false, false, false, false] rfl rfl (any_of HT_.out (by kernel_rfl)) (fun _ _ _ h => h) (Or.inl ⟨by rfl, ?_⟩) ?_ ?_
                   rotate_left
                   ·intro w'
                    go_simp
                    with_reducible rfl
                   rotate_left
                   ·simp only [Act.put, List.setIfInBounds_toArray, List.set_cons_zero, List.set_cons_succ, i64_w, i32_w]
                    rfl
                   refine pure_ (i := 2) (N := some 49) (v := ?_) (a' := ?_) #[true, true, true, false, false, false, false, false, false, false, false, false, false, false, false, false] rfl rfl (any_of HT_.out (by kernel_rfl)) (fun _ _ _ h => h) (Or.inl ⟨by rfl, ?_⟩) ?_ ?_
                   rotate_left
                   ·intro w'
                    go_simp
                    with_reducible rfl
                   rotate_left
                   ·simp only [Act.put, List.setIfInBounds_toArray, List.set_cons_zero, List.set_cons_succ, i64_w, i32_w]
                    rfl
                   refine pure_ (i := 3) (N := some 50) (v := ?_) (a' := ?_) #[true, true, true, true, false, false, false, false, false, false, false, false, false, false, false, false] rfl rfl (any_of HT_.out (by kernel_rfl)) (fun _ _ _ h => h) (Or.inl ⟨by rfl, ?_⟩) ?_ ?_
                   rotate_left
                   ·intro w'
                    go_simp
                    with_reducible rfl
                   rotate_left
                   ·simp only [Act.put, List.setIfInBounds_toArray, List.set_cons_zero, List.set_cons_succ, i64_w, i32_w]
                    rfl
                   refine take_ (i := 4) (N := some 51) (v := ?_) (a' := ?_) #[true, true, true, true, true, false, false, false, false, false, false, false, false, false, false, false] rfl rfl (take_ofW HT_.out HW_.out (by kernel_rfl)) (fun _ _ _ h => h) (Or.inl ⟨by rfl, ?_⟩) hHeld ?_ ?_
                   rotate_left
                   ·rintro w' ⟨s0, s1, s2, s3, s4, s5, s6, s7, s8⟩
                    go_simp
                    with_reducible rfl
                   rotate_left
                   ·simp only [Act.put, List.setIfInBounds_toArray, List.set_cons_zero, List.set_cons_succ, i64_w, i32_w]
                    rfl
                   refine pure_ (i := 5) (N := some 52) (v := ?_) (a' := ?_) #[true, true, true, true, true, true, false, false, false, false, false, false, false, false, false, false] rfl rfl (any_of HT_.out (by kernel_rfl)) (fun _ _ _ h => h) (Or.inl ⟨by rfl, ?_⟩) ?_ ?_
                   rotate_left
                   ·intro w'
                    go_simp
                    with_reducible rfl
                   rotate_left
                   ·simp only [Act.put, List.setIfInBounds_toArray, List.set_cons_zero, List.set_cons_succ, i64_w, i32_w]
                    rfl
                   refine pure_ (i := 6) (N := some 53) (v := ?_) (a' := ?_) #[true, true, true, true, true, true, true, false, false, false, false, false, false, false, false, false] rfl rfl (any_of HT_.out (by kernel_rfl)) (fun _ _ _ h => h) (Or.inl ⟨by rfl, ?_⟩) ?_ ?_
                   rotate_left
                   ·intro w'
                    go_simp
                    with_reducible rfl
                   rotate_left
                   ·simp only [Act.put, List.setIfInBounds_toArray, List.set_cons_zero, List.set_cons_succ, i64_w, i32_w]
                    rfl
                   refine pure_ (i := 8) (N := some 55) (v := ?_) (a' := ?_) #[true, true, true, true, true, true, true, false, true, false, false, false, false, false, false, false] rfl rfl (any_of HT_.out (by kernel_rfl)) (fun _ _ _ h => h) (Or.inl ⟨by rfl, ?_⟩) ?_ ?_
                   rotate_left
                   ·intro w'
                    go_simp
                    with_reducible rfl
                   rotate_left
                   ·simp only [Act.put, List.setIfInBounds_toArray, List.set_cons_zero, List.set_cons_succ, i64_w, i32_w]
                    rfl
                   refine pure_ (i := 9) (N := some 56) (v := ?_) (a' := ?_) #[true, true, true, true, true, true, true, false, true, true, false, false, false, false, false, false] rfl rfl (any_of HT_.out (by kernel_rfl)) (fun _ _ _ h => h) (Or.inl ⟨by rfl, ?_⟩) ?_ ?_
                   rotate_left
                   ·intro w'
                    go_simp
                    with_reducible rfl
                   rotate_left
                   ·simp only [Act.put, List.setIfInBounds_toArray, List.set_cons_zero, List.set_cons_succ, i64_w, i32_w]
                    rfl
                   refine pure_ (i := 10) (N := some 57) (v := ?_) (a' := ?_) #[true, true, true, true, true, true, true, false, true, true, true, false, false, false, false, false] rfl rfl (any_of HT_.out (by kernel_rfl)) (fun _ _ _ h => h) (Or.inl ⟨by rfl, ?_⟩) ?_ ?_
                   rotate_left
                   ·intro w'
                    go_simp
                    with_reducible rfl
                   rotate_left
                   ·simp only [Act.put, List.setIfInBounds_toArray, List.set_cons_zero, List.set_cons_succ, i64_w, i32_w]
                    rfl
                   refine pure_ (i := 11) (N := some 58) (v := ?_) (a' := ?_) #[true, true, true, true, true, true, true, false, true, true, true, true, false, false, false, false] rfl rfl (any_of HT_.out (by kernel_rfl)) (fun _ _ _ h => h) (Or.inl ⟨by rfl, ?_⟩) ?_ ?_
                   rotate_left
                   ·intro w'
                    go_simp
                    with_reducible rfl
                   rotate_left
                   ·simp only [Act.put, List.setIfInBounds_toArray, List.set_cons_zero, List.set_cons_succ, i64_w, i32_w]
                    rfl
                   refine pure_ (i := 12) (N := some 59) (v := ?_) (a' := ?_) #[true, true, true, true, true, true, true, false, true, true, true, true, true, false, false, false] rfl rfl (any_of HT_.out (by kernel_rfl)) (fun _ _ _ h => h) (Or.inl ⟨by rfl, ?_⟩) ?_ ?_
                   rotate_left
                   ·intro w'
                    go_simp
                    with_reducible rfl
                   rotate_left
                   ·simp only [Act.put, List.setIfInBounds_toArray, List.set_cons_zero, List.set_cons_succ, i64_w, i32_w]
                    rfl
                   refine take_ (i := 7) (N := some 54) (v := ?_) (a' := ?_) #[true, true, true, true, true, true, true, true, true, true, true, true, true, false, false, false] rfl rfl (take_ofW HT_.out HW_.out (by kernel_rfl)) (fun _ _ _ h => h) (Or.inl ⟨by rfl, ?_⟩) hHeld ?_ ?_
                   rotate_left
                   ·rintro w' ⟨s0, s1, s2, s3, s4, s5, s6, s7, s8⟩
                    go_simp
                    with_reducible rfl
                   rotate_left
                   ·simp only [Act.put, List.setIfInBounds_toArray, List.set_cons_zero, List.set_cons_succ, i64_w, i32_w]
                    rfl
                   refine take_ (i := 13) (N := some 60) (v := ?_) (a' := ?_) #[true, true, true, true, true, true, true, true, true, true, true, true, true, true, false, false] rfl rfl (take_ofW HT_.out HW_.out (by kernel_rfl)) (fun _ _ _ h => h) (Or.inl ⟨by rfl, ?_⟩) hHeld ?_ ?_
                   rotate_left
                   ·rintro w' ⟨s0, s1, s2, s3, s4, s5, s6, s7, s8⟩
                    go_simp
                    with_reducible rfl
                   rotate_left
                   ·simp only [Act.put, List.setIfInBounds_toArray, List.set_cons_zero, List.set_cons_succ, i64_w, i32_w]
                    rfl
                   refine one_ (i := 14) (N := some 61) #[true, true, true, true, true, true, true, true, true, true, true, true, true, true, true, false] rfl rfl (one_of HT_.out (by kernel_rfl)) (by decide) (fun K hK => ?_)
                   refine goes_ Try.func81 (by kernel_rfl) rfl #[.agg #[.slice A0_0 l0_0.length c0_0], .int .i64 a3, .int .i64 ((rd_T52 l1 (rd t370 x43_2)).f2)] (by rfl) rfl rfl (aq) ?_
                   with_reducible refine (impl_Tree_is.calls k2 _ _ l0_0 a3 ((rd_T52 l1 (rd t370 x43_2)).f2) false _ ?side1 ?side2 A26.out).mono ?_
                   (case side1 => exact cq (Kd.C_below HR0_0.out HB.out))
                   (case side2 => exact HC0_0.out)
                   rintro e w31 ⟨rfl, hb⟩
                   refine ⟨_, rfl, ?_⟩
                   have n0_ := am (Kd.R_below (rq HO_16.out) hb)
                   have n1_ := am (Kd.R_below (rq HO_41.out) hb)
                   have n2_ := am (blk_below (g := gb363) (o := .cells #[.slice A0_0 l0_0.length c0_0] 32 (0, 0)) (kq BK363.out) hb)
                   have n3_ := am (below_step (q37) hb)
                   clear HO_16
                   clear HO_41
                   clear BK363
                   clear HB
                   have HO_16 := n0_
                   have HO_41 := n1_
                   have BK363 := n2_
                   have HB := n3_
                   clear n0_ n1_ n2_ n3_
                   (try clear hb)
                   (try clear hb2)
                   (try clear hk)
                   (try clear hi)
                   refine hK.out _ _ ⟨(blk_cell BK363.out 0).trans rfl, ((HB.out.cell (World.block_lt_of_cell? w _ hw374_0)).trans hw374_0), ((HB.out.cell (World.block_lt_of_cell? w _ hw374_1)).trans hw374_1), ((HB.out.cell (World.block_lt_of_cell? w _ hw374_2)).trans hw374_2), ((HB.out.cell (World.block_lt_of_cell? w _ hw374_3)).trans hw374_3), ((HB.out.cell (World.block_lt_of_cell? w _ hw375_0)).trans hw375_0), ((HB.out.cell (World.block_lt_of_cell? w _ hw375_1)).trans hw375_1), ((HB.out.cell (World.block_lt_of_cell? w _ hw375_2)).trans hw375_2), ((HB.out.cell (World.block_lt_of_cell? w _ hw375_3)).trans hw375_3)⟩ (fun hHeld => ?_)
                   clear hK K
                   refine norm_ (a' := ?_) ?_ ?_
                   rotate_left
                   ·show Act.put _ (some 61) _ = _
                    simp only [Act.put, List.setIfInBounds_toArray, List.set_cons_zero, List.set_cons_succ, i64_w, i32_w]
                    rfl
                   refine pure_ (i := 15) (N := some 62) (v := ?_) (a' := ?_) #[true, true, true, true, true, true, true, true, true, true, true, true, true, true, true, true] rfl rfl (any_of HT_.out (by kernel_rfl)) (fun _ _ _ h => h) (Or.inl ⟨by rfl, ?_⟩) ?_ ?_
                   rotate_left
                   ·intro w'
                    go_simp
                    with_reducible rfl
                   rotate_left
                   ·simp only [Act.put, List.setIfInBounds_toArray, List.set_cons_zero, List.set_cons_succ, i64_w, i32_w]
                    rfl
                   refine done_ (done_of HT_.out (by kernel_rfl)) ?_
                   try go_wp2
                   go_roundg k2
                   case measure => have := HK1.out; have := HK2.out; omega
                   case rel => exact ⟨(wrap64 (x43_2 + 1)), (sq), H', ⟨by have := HK1.out; have := HK2.out; omega⟩, ⟨rq HO_16.out⟩, ⟨rq HO_41.out⟩, ⟨kq BK363.out⟩, ⟨q37⟩⟩
                 ·rw [if_neg c25] at H
                  have c25b0 : (((rd_T52 l1 (rd t370 x43_2)).f1) == 8) = false := beq_eq_false_iff_ne.mpr c25
                  have c25b1 : (((rd_T52 l1 (rd t370 x43_2)).f1) != 8) = true := bne_iff_ne.mpr c25
                  have H' := am H
                  clear H
                  have p373 : 0 ≤ (x43_2 : Int) := of_decide_eq_true (uq)
                  have q373 : x43_2 < (t370.length : Int) := of_decide_eq_true (uq)
                  obtain ⟨ad373, e373, hx373_0⟩ := Kd.at_int (Kd.R_reads' HO_41.out).2.2 x43_2 p373 q373
                  cases e373
                  replace p373 := eq_true p373
                  replace q373 := eq_true q373
                  try go_wp2
                  have n0_ := am (Kd.R_drew HO_16.out)
                  have n1_ := am (Kd.R_drew HO_41.out)
                  have n2_ := am (blk_drew BK363.out)
                  have n3_ := am (below_drew1 HB.out)
                  clear HO_16
                  clear HO_41
                  clear BK363
                  clear HB
                  have HO_16 := n0_
                  have HO_41 := n1_
                  have BK363 := n2_
                  have HB := n3_
                  clear n0_ n1_ n2_ n3_
                  have p374 : 0 ≤ ((rd t370 x43_2) : Int) := of_decide_eq_true (uq)
                  have q374 : (rd t370 x43_2) < (l1.length : Int) := of_decide_eq_true (uq)
                  obtain ⟨ad374, e374, hx374_0, hx374_1, hx374_2, hx374_3⟩ := at_T52 HR1.out (rd t370 x43_2) p374 q374
                  have hw374_3 := hx374_3
                  have hw374_2 := hx374_2
                  have hw374_1 := hx374_1
                  have hw374_0 := hx374_0
                  obtain rfl : ad368 = ad374 := (by injection e374)
                  replace hx374_0 := cb HB.out hx374_0
                  replace hx374_1 := cb HB.out hx374_1
                  replace hx374_2 := cb HB.out hx374_2
                  replace hx374_3 := cb HB.out hx374_3
                  replace p374 := eq_true p374
                  replace q374 := eq_true q374
                  refine start_ (n := 16) (S := fun w' => w'.cell? (ad368.add (((rd t370 x43_2)).toNat * 4)) = some (.int .i64 ((rd_T52 l1 (rd t370 x43_2)).f0)) ∧ w'.cell? ⟨(ad368.add (((rd t370 x43_2)).toNat * 4)).block, (ad368.add (((rd t370 x43_2)).toNat * 4)).off + 1, none⟩ = some (.int .i64 ((rd_T52 l1 (rd t370 x43_2)).f1)) ∧ w'.cell? ⟨(ad368.add (((rd t370 x43_2)).toNat * 4)).block, (ad368.add (((rd t370 x43_2)).toNat * 4)).off + 2, none⟩ = some (.int .i64 ((rd_T52 l1 (rd t370 x43_2)).f2)) ∧ w'.cell? ⟨(ad368.add (((rd t370 x43_2)).toNat * 4)).block, (ad368.add (((rd t370 x43_2)).toNat * 4)).off + 3, none⟩ = some (.int .i64 ((rd_T52 l1 (rd t370 x43_2)).f3))) (ds := []) #[false, false, false, false, false, false, false, false, false, false, false, false, false, false, false, false] (by kernel_rfl) rfl rfl ⟨((HB.out.cell (World.block_lt_of_cell? w _ hw374_0)).trans hw374_0), ((HB.out.cell (World.block_lt_of_cell? w _ hw374_1)).trans hw374_1), ((HB.out.cell (World.block_lt_of_cell? w _ hw374_2)).trans hw374_2), ((HB.out.cell (World.block_lt_of_cell? w _ hw374_3)).trans hw374_3)⟩ (fun hHeld => ?_); refine with_tabW impl_catcher.tab12 impl_catcher.bits12 (fun HT_ HW_ => ?_)
                  generalize wr.drew = w32 at HO_16 HO_41 BK363 HB hx374_0 hx374_1 hx374_2 hx374_3 hHeld ⊢
                  refine pure_ (i := 0) (N := some 47) (v := ?_) (a' := ?_) #[true, false, false, false, false, false, false, false, false, false, false, false, false, false, false, false] rfl rfl (any_of HT_.out (by kernel_rfl)) (fun _ _ _ h => h) (Or.inl ⟨by rfl, ?_⟩) ?_ ?_
                  rotate_left
                  ·intro w'
                   go_simp
                   with_reducible rfl
                  rotate_left
                  ·simp only [Act.put, List.setIfInBounds_toArray, List.set_cons_zero, List.set_cons_succ, i64_w, i32_w]
                   rfl
                  refine pure_ (i := 1) (N := some 48) (v := ?_) (a' := ?_) #[true, true, false, false, false, false, false, false, false, false, false, false, false, false, false, false] rfl rfl (any_of HT_.out (by kernel_rfl)) (fun _ _ _ h => h) (Or.inl ⟨by rfl, ?_⟩) ?_ ?_
                  rotate_left
                  ·intro w'
                   go_simp
                   with_reducible rfl
                  rotate_left
                  ·simp only [Act.put, List.setIfInBounds_toArray, List.set_cons_zero, List.set_cons_succ, i64_w, i32_w]
                   rfl
                  refine pure_ (i := 2) (N := some 49) (v := ?_) (a' := ?_) #[true, true, true, false, false, false, false, false, false, false, false, false, false, false, false, false] rfl rfl (any_of HT_.out (by kernel_rfl)) (fun _ _ _ h => h) (Or.inl ⟨by rfl, ?_⟩) ?_ ?_
                  rotate_left
                  ·intro w'
                   go_simp
                   with_reducible rfl
                  rotate_left
                  ·simp only [Act.put, List.setIfInBounds_toArray, List.set_cons_zero, List.set_cons_succ, i64_w, i32_w]
                   rfl
                  refine pure_ (i := 3) (N := some 50) (v := ?_) (a' := ?_) #[true, true, true, true, false, false, false, false, false, false, false, false, false, false, false, false] rfl rfl (any_of HT_.out (by kernel_rfl)) (fun _ _ _ h => h) (Or.inl ⟨by rfl, ?_⟩) ?_ ?_
                  rotate_left
                  ·intro w'
                   go_simp
                   with_reducible rfl
                  rotate_left
                  ·simp only [Act.put, List.setIfInBounds_toArray, List.set_cons_zero, List.set_cons_succ, i64_w, i32_w]
                   rfl
                  refine take_ (i := 4) (N := some 51) (v := ?_) (a' := ?_) #[true, true, true, true, true, false, false, false, false, false, false, false, false, false, false, false] rfl rfl (take_ofW HT_.out HW_.out (by kernel_rfl)) (fun _ _ _ h => h) (Or.inl ⟨by rfl, ?_⟩) hHeld ?_ ?_
                  rotate_left
                  ·rintro w' ⟨s0, s1, s2, s3⟩
                   go_simp
                   with_reducible rfl
                  rotate_left
                  ·simp only [Act.put, List.setIfInBounds_toArray, List.set_cons_zero, List.set_cons_succ, i64_w, i32_w]
                   rfl
                  refine pure_ (i := 5) (N := some 52) (v := ?_) (a' := ?_) #[true, true, true, true, true, true, false, false, false, false, false, false, false, false, false, false] rfl rfl (any_of HT_.out (by kernel_rfl)) (fun _ _ _ h => h) (Or.inl ⟨by rfl, ?_⟩) ?_ ?_
                  rotate_left
                  ·intro w'
                   go_simp
                   with_reducible rfl
                  rotate_left
                  ·simp only [Act.put, List.setIfInBounds_toArray, List.set_cons_zero, List.set_cons_succ, i64_w, i32_w]
                   rfl
                  refine pure_ (i := 6) (N := some 53) (v := ?_) (a' := ?_) #[true, true, true, true, true, true, true, false, false, false, false, false, false, false, false, false] rfl rfl (any_of HT_.out (by kernel_rfl)) (fun _ _ _ h => h) (Or.inl ⟨by rfl, ?_⟩) ?_ ?_
                  rotate_left
                  ·intro w'
                   go_simp
                   with_reducible rfl
                  rotate_left
                  ·simp only [Act.put, List.setIfInBounds_toArray, List.set_cons_zero, List.set_cons_succ, i64_w, i32_w]
                   rfl
                  refine pure_ (i := 7) (N := some 54) (v := undef) (a' := ?_) #[true, true, true, true, true, true, true, true, false, false, false, false, false, false, false, false] rfl rfl (any_of HT_.out (by kernel_rfl)) (fun _ _ _ h => h) (Or.inr ⟨by rfl, rfl⟩) ?_ ?_
                  rotate_left
                  ·simp only [Act.put, List.setIfInBounds_toArray, List.set_cons_zero, List.set_cons_succ, i64_w, i32_w]
                   rfl
                  refine pure_ (i := 8) (N := some 55) (v := undef) (a' := ?_) #[true, true, true, true, true, true, true, true, true, false, false, false, false, false, false, false] rfl rfl (any_of HT_.out (by kernel_rfl)) (fun _ _ _ h => h) (Or.inr ⟨by rfl, rfl⟩) ?_ ?_
                  rotate_left
                  ·simp only [Act.put, List.setIfInBounds_toArray, List.set_cons_zero, List.set_cons_succ, i64_w, i32_w]
                   rfl
                  refine pure_ (i := 9) (N := some 56) (v := undef) (a' := ?_) #[true, true, true, true, true, true, true, true, true, true, false, false, false, false, false, false] rfl rfl (any_of HT_.out (by kernel_rfl)) (fun _ _ _ h => h) (Or.inr ⟨by rfl, rfl⟩) ?_ ?_
                  rotate_left
                  ·simp only [Act.put, List.setIfInBounds_toArray, List.set_cons_zero, List.set_cons_succ, i64_w, i32_w]
                   rfl
                  refine pure_ (i := 10) (N := some 57) (v := undef) (a' := ?_) #[true, true, true, true, true, true, true, true, true, true, true, false, false, false, false, false] rfl rfl (any_of HT_.out (by kernel_rfl)) (fun _ _ _ h => h) (Or.inr ⟨by rfl, rfl⟩) ?_ ?_
                  rotate_left
                  ·simp only [Act.put, List.setIfInBounds_toArray, List.set_cons_zero, List.set_cons_succ, i64_w, i32_w]
                   rfl
                  refine pure_ (i := 11) (N := some 58) (v := undef) (a' := ?_) #[true, true, true, true, true, true, true, true, true, true, true, true, false, false, false, false] rfl rfl (any_of HT_.out (by kernel_rfl)) (fun _ _ _ h => h) (Or.inr ⟨by rfl, rfl⟩) ?_ ?_
                  rotate_left
                  ·simp only [Act.put, List.setIfInBounds_toArray, List.set_cons_zero, List.set_cons_succ, i64_w, i32_w]
                   rfl
                  refine pure_ (i := 12) (N := some 59) (v := undef) (a' := ?_) #[true, true, true, true, true, true, true, true, true, true, true, true, true, false, false, false] rfl rfl (any_of HT_.out (by kernel_rfl)) (fun _ _ _ h => h) (Or.inr ⟨by rfl, rfl⟩) ?_ ?_
                  rotate_left
                  ·simp only [Act.put, List.setIfInBounds_toArray, List.set_cons_zero, List.set_cons_succ, i64_w, i32_w]
                   rfl
                  refine pure_ (i := 13) (N := some 60) (v := undef) (a' := ?_) #[true, true, true, true, true, true, true, true, true, true, true, true, true, true, false, false] rfl rfl (any_of HT_.out (by kernel_rfl)) (fun _ _ _ h => h) (Or.inr ⟨by rfl, rfl⟩) ?_ ?_
                  rotate_left
                  ·simp only [Act.put, List.setIfInBounds_toArray, List.set_cons_zero, List.set_cons_succ, i64_w, i32_w]
                   rfl
                  refine pure_ (i := 14) (N := some 61) (v := undef) (a' := ?_) #[true, true, true, true, true, true, true, true, true, true, true, true, true, true, true, false] rfl rfl (any_of HT_.out (by kernel_rfl)) (fun _ _ _ h => h) (Or.inr ⟨by rfl, rfl⟩) ?_ ?_
                  rotate_left
                  ·simp only [Act.put, List.setIfInBounds_toArray, List.set_cons_zero, List.set_cons_succ, i64_w, i32_w]
                   rfl
                  refine pure_ (i := 15) (N := some 62) (v := ?_) (a' := ?_) #[true, true, true, true, true, true, true, true, true, true, true, true, true, true, true, true] rfl rfl (any_of HT_.out (by kernel_rfl)) (fun _ _ _ h => h) (Or.inl ⟨by rfl, ?_⟩) ?_ ?_
                  rotate_left
                  ·intro w'
                   go_simp
                   with_reducible rfl
                  rotate_left
                  ·simp only [Act.put, List.setIfInBounds_toArray, List.set_cons_zero, List.set_cons_succ, i64_w, i32_w]
                   rfl
                  refine done_ (done_of HT_.out (by kernel_rfl)) ?_
                  try go_wp2
                  go_roundg k2
                  case measure => have := HK1.out; have := HK2.out; omega
                  case rel => exact ⟨(wrap64 (x43_2 + 1)), (sq), H', ⟨by have := HK1.out; have := HK2.out; omega⟩, ⟨rq HO_16.out⟩, ⟨rq HO_41.out⟩, ⟨kq BK363.out⟩, ⟨q37⟩⟩
                ·rw [if_neg c24] at H
                 exact absurd H (by simp)
               ·rw [if_neg c23] at H
                exact absurd H (by simp)
              ·rw [if_neg c22] at H
               exact absurd H (by simp)
             ·rw [if_neg c21] at H
              exact absurd H (by simp)
            ·rw [if_neg c20] at H
             have c20b0 : decide (x43_2 < (t370.length : Int)) = false := decide_eq_false c20
             clear c20
             have H' := am H
             clear H
             go_wp2
             go_roundg k2
             case measure => have := HK1.out; have := HK2.out; omega
             case rel => exact ⟨(wrap64 (x18_1 + 1)), (sq), H', ⟨by have := HK1.out; have := HK2.out; omega⟩, ⟨by (with_reducible repeat (first | apply Kd.R_alloc | apply Kd.R_drewN | apply Kd.R_drew)); exact Kd.R_mono HO_16.out (fun _ hk => trivial)⟩, ⟨kq BK363.out⟩, ⟨q37⟩⟩
         ·rw [if_neg c16] at H
          have c16b0 : (((rd_T52 l1 (rd t364 x18_1)).f1) == 7) = false := beq_eq_false_iff_ne.mpr c16
          have c16b1 : (((rd_T52 l1 (rd t364 x18_1)).f1) != 7) = true := bne_iff_ne.mpr c16
          have H' := am H
          clear H
          have p367 : 0 ≤ (x18_1 : Int) := of_decide_eq_true (uq)
          have q367 : x18_1 < (t364.length : Int) := of_decide_eq_true (uq)
          obtain ⟨ad367, e367, hx367_0⟩ := Kd.at_int (Kd.R_reads' HO_16.out).2.2 x18_1 p367 q367
          cases e367
          replace p367 := eq_true p367
          replace q367 := eq_true q367
          have p368 : 0 ≤ ((rd t364 x18_1) : Int) := of_decide_eq_true (uq)
          have q368 : (rd t364 x18_1) < (l1.length : Int) := of_decide_eq_true (uq)
          obtain ⟨ad368, e368, hx368_0, hx368_1, hx368_2, hx368_3⟩ := at_T52 HR1.out (rd t364 x18_1) p368 q368
          cases e368
          replace hx368_0 := cb HB.out hx368_0
          replace hx368_1 := cb HB.out hx368_1
          replace hx368_2 := cb HB.out hx368_2
          replace hx368_3 := cb HB.out hx368_3
          replace p368 := eq_true p368
          replace q368 := eq_true q368
          go_wp2
          go_roundg k1
          case measure => have := HK1.out; omega
          case rel => exact ⟨(wrap64 (x18_1 + 1)), (sq), H', ⟨by have := HK1.out; omega⟩, ⟨rq HO_16.out⟩, ⟨kq BK363.out⟩, ⟨q37⟩⟩
       ·rw [if_neg c13] at H
        exact absurd H (by simp)
      ·rw [if_neg c12] at H
       exact absurd H (by simp)
     ·rw [if_neg c11] at H
      exact absurd H (by simp)
    ·rw [if_neg c10] at H
     exact absurd H (by simp)
   ·rw [if_neg c9] at H
    have c9b0 : decide (x18_1 < (t364.length : Int)) = false := decide_eq_false c9
    clear c9
    simp only [Option.some.injEq, Prod.mk.injEq] at H
    obtain ⟨rfl, rfl⟩ := H
    go_wp2
    go_ret2
    exact ⟨q0, q37⟩
end Go.Proofs.Ytkokajljeebgdaa.P
end
