/- One part of the proofs on this program: functions of the program as plain functions, that the code comes to them, and facts on them. -/
import Derived.Test.YtkokajljeebgdaaYACDE1
import Derived.Test.YtkokajljeebgdaaYAll1
import Derived.Test.YtkokajljeebgdaaYAll3
import Derived.Test.YtkokajljeebgdaaYCD1
import Derived.Test.YtkokajljeebgdaaYCDE1
import Derived.Test.YtkokajljeebgdaaYCDE4
import Derived.Test.YtkokajljeebgdaaYDE1
import Derived.Test.YtkokajljeebgdaaYWAuto
section
namespace Go.Proofs.Ytkokajljeebgdaa.P
open Go.RowKit Go.Proofs.YtkokajljeebgdaaW.PrintWords Go.Proofs.YtkokajljeebgdaaW.PrintLast Go.Proofs.YtkokajljeebgdaaW.PrintMore
attribute [local go_sem] max2_int min2_int max_two min_two max_three min_three max_four min_four isSome_cell_setCell
set_option linter.unusedVariables false
set_option linter.unusedSimpArgs false
def spec_DrawLoopOf.f (k : Nat) (l0 : List Int) : Option ((List (S87)) × (List (S52)) × Int) := (spec_newReader.f l0).bind fun bt1004 => ((spec_lineIn.f k bt1004.1 bt1004.2).bind fun bt1007 => (some (bt1007.1, bt1007.2.1, bt1007.2.2.1)))
set_option maxHeartbeats 8000000 in
set_option maxRecDepth 100000 in
theorem spec_DrawLoopOf.calls (k : Nat) (A0 : Option Addr) (c0 : Nat) (l0 : List Int) (r1 : List (S87)) (r2 : List (S52)) (r3 : Int) (w : World) (hr0 : Kd.C (Kd.int .u8) w A0 l0.length l0) (hc0 : l0.length ≤ c0) (h : spec_DrawLoopOf.f k l0 = some (r1, r2, r3)) :
  Calls Try.prog 30 #[.slice A0 l0.length c0] w fun e w' => ∃ v0_ v1_ : Value, e = .returned (.tuple #[.agg #[v0_], v1_, .int .i64 r3]) ∧ Kd.R k87 87 w' w.heap.size (fun _ => True) v0_ r1 ∧ Kd.Q k52 52 w' w.heap.size (fun _ => True) v1_ r2 ∧ Below w.heap.size w w' := by
 have hu32 := Try.underlying32
 have HR0 := am hr0
 have HC0 := am hc0
 clear hr0 hc0
 have HB := am (Below.refl w.heap.size w)
 have H : ((spec_newReader.f l0).bind fun bt1004 => ((spec_lineIn.f k bt1004.1 bt1004.2).bind fun bt1007 => (some (bt1007.1, bt1007.2.1, bt1007.2.2.1)))) = some (r1, r2, r3) := h
 clear h
 replace H := Option.bind_eq_some_iff.mp H
 obtain ⟨⟨t1004, t1005⟩, A20, H⟩ := H
 replace H : ((spec_lineIn.f k t1004 t1005).bind fun bt1007 => (some (bt1007.1, bt1007.2.1, bt1007.2.2.1))) = some (r1, r2, r3) := H
 have A2 := am A20
 clear A20
 replace H := Option.bind_eq_some_iff.mp H
 obtain ⟨⟨t1007, t1010, t1013, t1014⟩, A30, H⟩ := H
 replace H : (some (t1007, t1010, t1013)) = some (r1, r2, r3) := H
 have A3 := am A30
 clear A30
 simp only [Option.some.injEq, Prod.mk.injEq] at H
 obtain ⟨rfl, rfl, rfl⟩ := H
 go_enter Try.func30, Try.ntmps30
 go_wp2_with (first | ((with_reducible refine gate_dst (N := 2) rfl ?_); refine bE (N := 2) (cs := #[.slice none 0 0]) (t := 32) ?_; intro gb1003 hg w4 hbox hb; have BK1003 := am (hbox); have GW1003 := am ((by rw [hg]; exact (below_size (bq)) : w.heap.size ≤ gb1003)); have GE1003 := am ((by rw [hg]; exact (below_size (bq)) : w.heap.size ≤ gb1003)); replace HB := am (below_step (bq) hb); clear hb hbox hg) | ((with_reducible refine gate_callee (f := 61) rfl ?_); refine goesL_ (some 6) rfl rfl Try.func61 (by kernel_rfl) rfl #[.slice A0 l0.length c0] rfl (aq) ?_; (with_reducible refine (spec_newReader.calls _ _ l0 t1004 t1005 w _ ?side1 ?side2 ?side3 A2.out).mono ?_); (case side1 => repeat (first | (with_reducible first | exact HB.out | apply below_alloc | apply pw_below_drewN | apply below_drew1 | refine below_set ?_ GE1003.out) | exact HB.out)); (case side2 => exact HR0.out); (case side3 => exact HC0.out); rintro e w5 ⟨g1006, rfl, hi, hb, hb2⟩; refine ⟨_, rfl, ?_⟩; have HI1006 := am (hi); have NB1006_1003 := am (IsS97.ne_blk hi (blk_below (g := gb1003) (o := .cells #[.slice none 0 0] 32 (0, 0)) (kq BK1003.out) hb2) (by decide)); have NB1003_1006 := am (Ne.symm (IsS97.ne_blk hi (blk_below (g := gb1003) (o := .cells #[.slice none 0 0] 32 (0, 0)) (kq BK1003.out) hb2) (by decide))); replace BK1003 := am (blk_below (g := gb1003) (o := .cells #[.slice none 0 0] 32 (0, 0)) (kq BK1003.out) hb2); replace HB := am (hb); (try clear hb); (try clear hb2); (try clear hk); (try clear hi)) | ((with_reducible refine gate_callee (f := 60) rfl ?_); refine goesL_ (some 7) rfl rfl Try.func60 (by kernel_rfl) rfl #[.pointer (some ⟨g1006, 0, none⟩)] rfl (aq) ?_; (with_reducible refine (spec_lineIn.calls k g1006 t1004 t1005 t1007 t1010 t1013 t1014 w _ ?side1 ?side2 A3.out).mono ?_); (case side1 => repeat (first | (with_reducible first | exact HI1006.out | apply IsS97.alloc | apply IsS97.drewN | apply IsS97.drew | apply IsS97.set_1 | refine IsS97.far ?_ NB1006_1003.out _) | exact HI1006.out)); (case side2 => exact q100); rintro e w6 ⟨v1008, v1011, rfl, ho0, ho1, hi, hb, hk⟩; refine ⟨_, rfl, ?_⟩; have HO1009 := am (Kd.R_lower ho0 (below_size (q100))); have HO1012 := am (Kd.Q_lower ho1 (below_size (q100))); replace BK1003 := am (KeepBut.blk hk (g' := gb1003) (o := .cells #[.slice none 0 0] 32 (0, 0)) (kq BK1003.out) NB1003_1006.out (by simp)); replace HB := am (hb); replace HI1006 := am (hi); (try clear hb); (try clear hb2); (try clear hk); (try clear hi); (try clear ho0); (try clear ho1); obtain ⟨Ao7, co7, eo7⟩ := Kd.R_slice HO1009.out; subst eo7; have hnb8 := NB1003_1006.out; have hnc8 := NB1006_1003.out; have hcz9_0 := bc0 BK1003.out; have hfz9_0 := blk_frozen BK1003.out 0))
 refine bodyPost_ret (results_ctt rfl _ _ gb1003 32 #[.slice Ao7 t1007.length co7] (0, 0) _ rfl (by (with_reducible repeat (first | refine blk_drewN ?_ _ | refine blk_drew ?_ | refine blk_alloc ?_ _)); refine blk_put (cs := #[.slice none 0 0]) ?_ 0 _ rfl; (with_reducible repeat (first | refine blk_drewN ?_ _ | refine blk_drew ?_ | refine blk_alloc ?_ _)); exact BK1003.out) Try.underlying32 rfl (by kernel_rfl)) rfl ?_
 exact ⟨_, _, q0, by (with_reducible repeat (first | apply Kd.R_alloc | apply Kd.R_drewN | apply Kd.R_drew)); exact Kd.R_mono (Kd.R_far (p := ⟨gb1003, 0, none⟩) (Kd.R_types HO1009.out BK1003.out (by decide)) (fun _ hk => hk.2) (.slice Ao7 t1007.length co7)) (fun _ hk => trivial), by (with_reducible repeat (first | apply Kd.Q_alloc | apply Kd.Q_drewN | apply Kd.Q_drew)); exact Kd.Q_mono (Kd.Q_far (p := ⟨gb1003, 0, none⟩) (Kd.Q_types HO1012.out BK1003.out (by decide)) (fun _ hk => hk.2) (.slice Ao7 t1007.length co7)) (fun _ hk => trivial), q100⟩
def impl_loopOf.l0 : Nat → List (S52) → List Int → Int → Int → Option (Int)
 | 0, _, _, _, _ => none
 | k + 1, x0, x9, x10, x11 => if x11 < x10 then (if 0 ≤ x11 then (if x11 < (x9.length : Int) then (if 0 ≤ (rd x9 x11) then (if (rd x9 x11) < (x0.length : Int) then (if ((rd_T52 x0 (rd x9 x11)).f1) = 12 then (some (rd x9 x11)) else (impl_loopOf.l0 k x0 x9 x10 (wrap64 (x11 + 1)))) else (none)) else (none)) else (none)) else (none)) else (some (-1))
def impl_loopOf.f (k : Nat) (l0 : List (S52)) (a1 : Int) : Option (Int) := (impl_enclosing.f k l0 a1).bind fun t1015 => (impl_loopOf.l0 k l0 t1015 (t1015.length : Int) 0)
set_option maxHeartbeats 8000000 in
set_option maxRecDepth 100000 in
theorem impl_loopOf.calls (k : Nat) (A0 : Option Addr) (c0 : Nat) (l0 : List (S52)) (a1 : Int) (r : Int) (w : World) (hr0 : Kd.C k52 w A0 l0.length l0) (hc0 : l0.length ≤ c0) (h : impl_loopOf.f k l0 a1 = some r) :
  Calls Try.prog 69 #[.slice A0 l0.length c0, .int .i64 a1] w fun e w' => e = .returned (.int .i64 r) ∧ Below w.heap.size w w' := by
 have HR0 := am hr0
 have HC0 := am hc0
 clear hr0 hc0
 have HB := am (Below.refl w.heap.size w)
 have H : ((impl_enclosing.f k l0 a1).bind fun t1015 => (impl_loopOf.l0 k l0 t1015 (t1015.length : Int) 0)) = some r := h
 clear h
 replace H := Option.bind_eq_some_iff.mp H
 obtain ⟨t1015, A30, H⟩ := H
 replace H : (impl_loopOf.l0 k l0 t1015 (t1015.length : Int) 0) = some r := H
 have A3 := am A30
 clear A30
 have H' := am H
 clear H
 go_enter Try.func69, Try.ntmps69
 go_wp2_with (first | ((with_reducible refine gate_callee (f := 62) rfl ?_); refine goesL_ (some 9) rfl rfl Try.func62 (by kernel_rfl) rfl #[.slice A0 l0.length c0, .int .i64 a1] rfl (aq) ?_; (with_reducible refine (impl_enclosing.calls k _ _ l0 a1 t1015 _ ?side1 ?side2 A3.out).mono ?_); (case side1 => exact q28); (case side2 => exact HC0.out); rintro e w4 ⟨v1016, rfl, ho0, hb⟩; refine ⟨_, rfl, ?_⟩; have HO1017 := am (Kd.R_lower ho0 (below_size (bq))); replace HB := am (below_step (bq) hb); (try clear hb); (try clear hb2); (try clear hk); (try clear hi); (try clear ho0); obtain ⟨Ao5, co5, eo5⟩ := Kd.R_slice HO1017.out; subst eo5))
 go_loopg [11] k (fun kq v11 w' => ∃ (x11_1 : Int), v11 = .int .i64 x11_1 ∧ Aside0 (impl_loopOf.l0 kq l0 t1015 (t1015.length : Int) x11_1 = some r) ∧ Aside0 (kq ≤ k) ∧ Aside0 (Kd.R (Kd.int .i64) 3 w' w.heap.size (fun _ => True) (.slice Ao5 t1015.length co5) t1015) ∧ Aside0 (Below w.heap.size w w'))
 case atStart => exact ⟨(0), (sq), H', ⟨Nat.le_refl _⟩, ⟨rq HO1017.out⟩, ⟨bq⟩⟩
 case round =>
  clear H'
  try clear p2
  obtain ⟨x11_1, rfl, HA, HK1, HO_9, HB⟩ := hrel
  cases gk with
  | zero => exact absurd HA.out (by simp [impl_loopOf.l0])
  | succ k1 =>
   have H := HA.out
   clear HA
   simp only [impl_loopOf.l0] at H
   by_cases c6 : x11_1 < (t1015.length : Int)
   ·rw [if_pos c6] at H
    have c6b0 : decide (x11_1 < (t1015.length : Int)) = true := decide_eq_true c6
    clear c6
    by_cases c7 : 0 ≤ x11_1
    ·rw [if_pos c7] at H
     have c7b0 : decide (0 ≤ x11_1) = true := decide_eq_true c7
     clear c7
     by_cases c8 : x11_1 < (t1015.length : Int)
     ·rw [if_pos c8] at H
      have c8b0 : decide (x11_1 < (t1015.length : Int)) = true := decide_eq_true c8
      clear c8
      by_cases c9 : 0 ≤ (rd t1015 x11_1)
      ·rw [if_pos c9] at H
       have c9b0 : decide (0 ≤ (rd t1015 x11_1)) = true := decide_eq_true c9
       clear c9
       by_cases c10 : (rd t1015 x11_1) < (l0.length : Int)
       ·rw [if_pos c10] at H
        have c10b0 : decide ((rd t1015 x11_1) < (l0.length : Int)) = true := decide_eq_true c10
        clear c10
        by_cases c11 : ((rd_T52 l0 (rd t1015 x11_1)).f1) = 12
        ·rw [if_pos c11] at H
         have c11b0 : (((rd_T52 l0 (rd t1015 x11_1)).f1) == 12) = true := beq_iff_eq.mpr c11
         have c11b1 : (((rd_T52 l0 (rd t1015 x11_1)).f1) != 12) = false := bne_eq_false_iff_eq.mpr c11
         clear c11
         obtain rfl := Option.some.inj H
         have p1018 : 0 ≤ (x11_1 : Int) := of_decide_eq_true (uq)
         have q1018 : x11_1 < (t1015.length : Int) := of_decide_eq_true (uq)
         obtain ⟨ad1018, e1018, hx1018_0⟩ := Kd.at_int (Kd.R_reads' HO_9.out).2.2 x11_1 p1018 q1018
         cases e1018
         replace p1018 := eq_true p1018
         replace q1018 := eq_true q1018
         have p1019 : 0 ≤ ((rd t1015 x11_1) : Int) := of_decide_eq_true (uq)
         have q1019 : (rd t1015 x11_1) < (l0.length : Int) := of_decide_eq_true (uq)
         obtain ⟨ad1019, e1019, hx1019_0, hx1019_1, hx1019_2, hx1019_3⟩ := at_T52 HR0.out (rd t1015 x11_1) p1019 q1019
         cases e1019
         replace hx1019_0 := cb HB.out hx1019_0
         replace hx1019_1 := cb HB.out hx1019_1
         replace hx1019_2 := cb HB.out hx1019_2
         replace hx1019_3 := cb HB.out hx1019_3
         replace p1019 := eq_true p1019
         replace q1019 := eq_true q1019
         go_wp2
         go_ret
         exact ⟨q0, bq⟩
        ·rw [if_neg c11] at H
         have c11b0 : (((rd_T52 l0 (rd t1015 x11_1)).f1) == 12) = false := beq_eq_false_iff_ne.mpr c11
         have c11b1 : (((rd_T52 l0 (rd t1015 x11_1)).f1) != 12) = true := bne_iff_ne.mpr c11
         have H' := am H
         clear H
         have p1018 : 0 ≤ (x11_1 : Int) := of_decide_eq_true (uq)
         have q1018 : x11_1 < (t1015.length : Int) := of_decide_eq_true (uq)
         obtain ⟨ad1018, e1018, hx1018_0⟩ := Kd.at_int (Kd.R_reads' HO_9.out).2.2 x11_1 p1018 q1018
         cases e1018
         replace p1018 := eq_true p1018
         replace q1018 := eq_true q1018
         have p1019 : 0 ≤ ((rd t1015 x11_1) : Int) := of_decide_eq_true (uq)
         have q1019 : (rd t1015 x11_1) < (l0.length : Int) := of_decide_eq_true (uq)
         obtain ⟨ad1019, e1019, hx1019_0, hx1019_1, hx1019_2, hx1019_3⟩ := at_T52 HR0.out (rd t1015 x11_1) p1019 q1019
         cases e1019
         replace hx1019_0 := cb HB.out hx1019_0
         replace hx1019_1 := cb HB.out hx1019_1
         replace hx1019_2 := cb HB.out hx1019_2
         replace hx1019_3 := cb HB.out hx1019_3
         replace p1019 := eq_true p1019
         replace q1019 := eq_true q1019
         go_wp2
         go_roundg k1
         case measure => have := HK1.out; omega
         case rel => exact ⟨(wrap64 (x11_1 + 1)), (sq), H', ⟨by have := HK1.out; omega⟩, ⟨rq HO_9.out⟩, ⟨bq⟩⟩
       ·rw [if_neg c10] at H
        exact absurd H (by simp)
      ·rw [if_neg c9] at H
       exact absurd H (by simp)
     ·rw [if_neg c8] at H
      exact absurd H (by simp)
    ·rw [if_neg c7] at H
     exact absurd H (by simp)
   ·rw [if_neg c6] at H
    have c6b0 : decide (x11_1 < (t1015.length : Int)) = false := decide_eq_false c6
    clear c6
    obtain rfl := Option.some.inj H
    go_wp2
    go_ret
    exact ⟨q0, bq⟩
def impl_LoopOf.f (k : Nat) (l0_0 : List (S87)) (l1 : List (S52)) (a2 : Int) : Option (Int) := (impl_lineIn.f k l0_0 l1 a2).bind fun t1021 => (if t1021 = true then ((impl_loopOf.f k l1 a2).bind fun t1022 => (some t1022)) else (some (-1)))
set_option maxHeartbeats 8000000 in
set_option maxRecDepth 100000 in
theorem impl_LoopOf.calls (k : Nat) (A0_0 : Option Addr) (c0_0 : Nat) (l0_0 : List (S87)) (A1 : Option Addr) (c1 : Nat) (l1 : List (S52)) (a2 : Int) (r : Int) (w : World) (hr0_0 : Kd.C k87 w A0_0 l0_0.length l0_0) (hc0_0 : l0_0.length ≤ c0_0) (hr1 : Kd.C k52 w A1 l1.length l1) (hc1 : l1.length ≤ c1) (h : impl_LoopOf.f k l0_0 l1 a2 = some r) :
  Calls Try.prog 31 #[.agg #[.slice A0_0 l0_0.length c0_0], .slice A1 l1.length c1, .int .i64 a2] w fun e w' => e = .returned (.int .i64 r) ∧ Below w.heap.size w w' := by
 have hu32 := Try.underlying32
 have HR0_0 := am hr0_0
 have HC0_0 := am hc0_0
 clear hr0_0 hc0_0
 have HR1 := am hr1
 have HC1 := am hc1
 clear hr1 hc1
 have HB := am (Below.refl w.heap.size w)
 have H : ((impl_lineIn.f k l0_0 l1 a2).bind fun t1021 => (if t1021 = true then ((impl_loopOf.f k l1 a2).bind fun t1022 => (some t1022)) else (some (-1)))) = some r := h
 clear h
 replace H := Option.bind_eq_some_iff.mp H
 obtain ⟨t1021, A40, H⟩ := H
 replace H : (if t1021 = true then ((impl_loopOf.f k l1 a2).bind fun t1022 => (some t1022)) else (some (-1))) = some r := H
 have A4 := am A40
 clear A40
 by_cases c5 : t1021 = true
 ·subst c5
  have H1 : ((impl_loopOf.f k l1 a2).bind fun t1022 => (some t1022)) = some r := by rw [if_pos rfl] at H; exact H
  clear H
  have H := H1
  clear H1
  replace H := Option.bind_eq_some_iff.mp H
  obtain ⟨t1022, A60, H⟩ := H
  replace H : (some t1022) = some r := H
  have A6 := am A60
  clear A60
  obtain rfl := Option.some.inj H
  go_enter Try.func31, Try.ntmps31
  go_wp2_with (first | ((with_reducible refine gate_dst (N := 3) rfl ?_); refine bE (N := 3) (cs := #[.slice A0_0 l0_0.length c0_0]) (t := 32) ?_; intro gb1020 hg w7 hbox hb; have BK1020 := am (hbox); have GW1020 := am ((by rw [hg]; exact (below_size (bq)) : w.heap.size ≤ gb1020)); have GE1020 := am ((by rw [hg]; exact (below_size (bq)) : w.heap.size ≤ gb1020)); replace HB := am (below_step (bq) hb); clear hb hbox hg; have hcz8_0 := bc0 BK1020.out; have hfz8_0 := blk_frozen BK1020.out 0) | ((with_reducible refine gate_callee (f := 48) rfl ?_); refine goesL_ (some 10) rfl rfl Try.func48 (by kernel_rfl) rfl #[.agg #[.slice A0_0 l0_0.length c0_0], .slice A1 l1.length c1, .int .i64 a2] rfl (aq) ?_; (with_reducible refine (impl_lineIn.calls k _ _ l0_0 _ _ l1 a2 true _ ?side1 ?side2 ?side3 ?side4 A4.out).mono ?_); (case side1 => exact cq (Kd.C_below HR0_0.out HB.out)); (case side2 => exact HC0_0.out); (case side3 => exact cq (Kd.C_below HR1.out HB.out)); (case side4 => exact HC1.out); rintro e w9 ⟨rfl, hb⟩; refine ⟨_, rfl, ?_⟩; replace BK1020 := am (blk_below (g := gb1020) (o := .cells #[.slice A0_0 l0_0.length c0_0] 32 (0, 0)) (kq BK1020.out) hb); replace HB := am (below_step (q90) hb); (try clear hb); (try clear hb2); (try clear hk); (try clear hi)) | ((with_reducible refine gate_callee (f := 69) rfl ?_); refine goesL_ (some 14) rfl rfl Try.func69 (by kernel_rfl) rfl #[.slice A1 l1.length c1, .int .i64 a2] rfl (aq) ?_; (with_reducible refine (impl_loopOf.calls k _ _ l1 a2 t1022 _ ?side1 ?side2 A6.out).mono ?_); (case side1 => exact cq (Kd.C_below HR1.out HB.out)); (case side2 => exact HC1.out); rintro e w10 ⟨rfl, hb⟩; refine ⟨_, rfl, ?_⟩; replace BK1020 := am (blk_below (g := gb1020) (o := .cells #[.slice A0_0 l0_0.length c0_0] 32 (0, 0)) (kq BK1020.out) hb); replace HB := am (below_step (q90) hb); (try clear hb); (try clear hb2); (try clear hk); (try clear hi)))
  go_ret
  exact ⟨q0, q90⟩
 ·replace c5 := Bool.eq_false_iff.mpr c5
  subst c5
  have H1 : (some (-1)) = some r := by rw [if_neg (show ¬ (false = true) by decide)] at H; exact H
  clear H
  have H := H1
  clear H1
  obtain rfl := Option.some.inj H
  go_enter Try.func31, Try.ntmps31
  go_wp2_with (first | ((with_reducible refine gate_dst (N := 3) rfl ?_); refine bE (N := 3) (cs := #[.slice A0_0 l0_0.length c0_0]) (t := 32) ?_; intro gb1020 hg w11 hbox hb; have BK1020 := am (hbox); have GW1020 := am ((by rw [hg]; exact (below_size (bq)) : w.heap.size ≤ gb1020)); have GE1020 := am ((by rw [hg]; exact (below_size (bq)) : w.heap.size ≤ gb1020)); replace HB := am (below_step (bq) hb); clear hb hbox hg; have hcz12_0 := bc0 BK1020.out; have hfz12_0 := blk_frozen BK1020.out 0) | ((with_reducible refine gate_callee (f := 48) rfl ?_); refine goesL_ (some 10) rfl rfl Try.func48 (by kernel_rfl) rfl #[.agg #[.slice A0_0 l0_0.length c0_0], .slice A1 l1.length c1, .int .i64 a2] rfl (aq) ?_; (with_reducible refine (impl_lineIn.calls k _ _ l0_0 _ _ l1 a2 false _ ?side1 ?side2 ?side3 ?side4 A4.out).mono ?_); (case side1 => exact cq (Kd.C_below HR0_0.out HB.out)); (case side2 => exact HC0_0.out); (case side3 => exact cq (Kd.C_below HR1.out HB.out)); (case side4 => exact HC1.out); rintro e w13 ⟨rfl, hb⟩; refine ⟨_, rfl, ?_⟩; replace BK1020 := am (blk_below (g := gb1020) (o := .cells #[.slice A0_0 l0_0.length c0_0] 32 (0, 0)) (kq BK1020.out) hb); replace HB := am (below_step (q90) hb); (try clear hb); (try clear hb2); (try clear hk); (try clear hi)))
  go_ret
  exact ⟨q0, q90⟩
def spec_LoopOf.l0 : Nat → List (S52) → List Int → Int → Option (Int)
 | 0, _, _, _ => none
 | k + 1, x1, x7, x8 => if x8 < (x7.length : Int) then (if 0 ≤ x8 then (if 0 ≤ (rd x7 x8) then (if (rd x7 x8) < (x1.length : Int) then (if ((rd_T52 x1 (rd x7 x8)).f1) = 12 then (some (rd x7 x8)) else (spec_LoopOf.l0 k x1 x7 (wrap64 (x8 + 1)))) else (none)) else (none)) else (none)) else (some (-1))
def spec_LoopOf.f (k : Nat) (l0_0 : List (S87)) (l1 : List (S52)) (a2 : Int) : Option (Int) := (spec_goodLine.f k l0_0 l1 a2).bind fun t1024 => (if t1024 = true then ((spec_enclosing.f k l1 a2).bind fun t1025 => (spec_LoopOf.l0 k l1 t1025 0)) else (some (-1)))
set_option maxHeartbeats 8000000 in
set_option maxRecDepth 100000 in
theorem spec_LoopOf.calls (k : Nat) (A0_0 : Option Addr) (c0_0 : Nat) (l0_0 : List (S87)) (A1 : Option Addr) (c1 : Nat) (l1 : List (S52)) (a2 : Int) (r : Int) (w : World) (hr0_0 : Kd.C k87 w A0_0 l0_0.length l0_0) (hc0_0 : l0_0.length ≤ c0_0) (hr1 : Kd.C k52 w A1 l1.length l1) (hc1 : l1.length ≤ c1) (h : spec_LoopOf.f k l0_0 l1 a2 = some r) :
  Calls Try.prog 32 #[.agg #[.slice A0_0 l0_0.length c0_0], .slice A1 l1.length c1, .int .i64 a2] w fun e w' => e = .returned (.int .i64 r) ∧ Below w.heap.size w w' := by
 have hu32 := Try.underlying32
 have HR0_0 := am hr0_0
 have HC0_0 := am hc0_0
 clear hr0_0 hc0_0
 have HR1 := am hr1
 have HC1 := am hc1
 clear hr1 hc1
 have HB := am (Below.refl w.heap.size w)
 have H : ((spec_goodLine.f k l0_0 l1 a2).bind fun t1024 => (if t1024 = true then ((spec_enclosing.f k l1 a2).bind fun t1025 => (spec_LoopOf.l0 k l1 t1025 0)) else (some (-1)))) = some r := h
 clear h
 replace H := Option.bind_eq_some_iff.mp H
 obtain ⟨t1024, A40, H⟩ := H
 replace H : (if t1024 = true then ((spec_enclosing.f k l1 a2).bind fun t1025 => (spec_LoopOf.l0 k l1 t1025 0)) else (some (-1))) = some r := H
 have A4 := am A40
 clear A40
 by_cases c5 : t1024 = true
 ·subst c5
  have H1 : ((spec_enclosing.f k l1 a2).bind fun t1025 => (spec_LoopOf.l0 k l1 t1025 0)) = some r := by rw [if_pos rfl] at H; exact H
  clear H
  have H := H1
  clear H1
  replace H := Option.bind_eq_some_iff.mp H
  obtain ⟨t1025, A60, H⟩ := H
  replace H : (spec_LoopOf.l0 k l1 t1025 0) = some r := H
  have A6 := am A60
  clear A60
  have H' := am H
  clear H
  go_enter Try.func32, Try.ntmps32
  go_wp2_with (first | ((with_reducible refine gate_dst (N := 3) rfl ?_); refine bE (N := 3) (cs := #[.slice A0_0 l0_0.length c0_0]) (t := 32) ?_; intro gb1023 hg w7 hbox hb; have BK1023 := am (hbox); have GW1023 := am ((by rw [hg]; exact (below_size (bq)) : w.heap.size ≤ gb1023)); have GE1023 := am ((by rw [hg]; exact (below_size (bq)) : w.heap.size ≤ gb1023)); replace HB := am (below_step (bq) hb); clear hb hbox hg; have hcz8_0 := bc0 BK1023.out; have hfz8_0 := blk_frozen BK1023.out 0) | ((with_reducible refine gate_callee (f := 63) rfl ?_); refine goesL_ (some 12) rfl rfl Try.func63 (by kernel_rfl) rfl #[.agg #[.slice A0_0 l0_0.length c0_0], .slice A1 l1.length c1, .int .i64 a2] rfl (aq) ?_; (with_reducible refine (spec_goodLine.calls k _ _ l0_0 _ _ l1 a2 true _ ?side1 ?side2 ?side3 ?side4 A4.out).mono ?_); (case side1 => exact cq (Kd.C_below HR0_0.out HB.out)); (case side2 => exact HC0_0.out); (case side3 => exact cq (Kd.C_below HR1.out HB.out)); (case side4 => exact HC1.out); rintro e w9 ⟨rfl, hb⟩; refine ⟨_, rfl, ?_⟩; replace BK1023 := am (blk_below (g := gb1023) (o := .cells #[.slice A0_0 l0_0.length c0_0] 32 (0, 0)) (kq BK1023.out) hb); replace HB := am (below_step (q64) hb); (try clear hb); (try clear hb2); (try clear hk); (try clear hi)) | ((with_reducible refine gate_callee (f := 43) rfl ?_); refine goesL_ (some 16) rfl rfl Try.func43 (by kernel_rfl) rfl #[.slice A1 l1.length c1, .int .i64 a2] rfl (aq) ?_; (with_reducible refine (spec_enclosing.calls k _ _ l1 a2 t1025 _ ?side1 ?side2 A6.out).mono ?_); (case side1 => exact cq (Kd.C_below HR1.out HB.out)); (case side2 => exact HC1.out); rintro e w10 ⟨v1026, rfl, ho0, hb⟩; refine ⟨_, rfl, ?_⟩; have HO1027 := am (Kd.R_lower ho0 (below_size (q64))); replace BK1023 := am (blk_below (g := gb1023) (o := .cells #[.slice A0_0 l0_0.length c0_0] 32 (0, 0)) (kq BK1023.out) hb); replace HB := am (below_step (q64) hb); (try clear hb); (try clear hb2); (try clear hk); (try clear hi); (try clear ho0)))
  go_loopg [8] k (fun kq v8 w' => ∃ (x8_1 : Int), v8 = .int .i64 x8_1 ∧ Aside0 (spec_LoopOf.l0 kq l1 t1025 x8_1 = some r) ∧ Aside0 (kq ≤ k) ∧ Aside0 (Kd.R (Kd.int .i64) 3 w' w.heap.size (fun _ => True) v1026 t1025) ∧ Aside0 (w'.heap[gb1023]? = some (.cells #[(.slice A0_0 l0_0.length c0_0)] 32 (0, 0))) ∧ Aside0 (Below w.heap.size w w'))
  case atStart => exact ⟨(0), (sq), H', ⟨Nat.le_refl _⟩, ⟨rq HO1027.out⟩, ⟨kq BK1023.out⟩, ⟨q64⟩⟩
  case round =>
   clear H'
   try clear c1
   try clear p2
   try clear c3
   try clear c4
   try clear c5
   try clear c6
   try clear hcz8_0
   try clear hfz8_0
   obtain ⟨x8_1, rfl, HA, HK1, HO_7, BK1023, HB⟩ := hrel
   cases gk with
   | zero => exact absurd HA.out (by simp [spec_LoopOf.l0])
   | succ k1 =>
    have H := HA.out
    clear HA
    simp only [spec_LoopOf.l0] at H
    by_cases c11 : x8_1 < (t1025.length : Int)
    ·rw [if_pos c11] at H
     have c11b0 : decide (x8_1 < (t1025.length : Int)) = true := decide_eq_true c11
     clear c11
     by_cases c12 : 0 ≤ x8_1
     ·rw [if_pos c12] at H
      have c12b0 : decide (0 ≤ x8_1) = true := decide_eq_true c12
      clear c12
      by_cases c13 : 0 ≤ (rd t1025 x8_1)
      ·rw [if_pos c13] at H
       have c13b0 : decide (0 ≤ (rd t1025 x8_1)) = true := decide_eq_true c13
       clear c13
       by_cases c14 : (rd t1025 x8_1) < (l1.length : Int)
       ·rw [if_pos c14] at H
        have c14b0 : decide ((rd t1025 x8_1) < (l1.length : Int)) = true := decide_eq_true c14
        clear c14
        by_cases c15 : ((rd_T52 l1 (rd t1025 x8_1)).f1) = 12
        ·rw [if_pos c15] at H
         have c15b0 : (((rd_T52 l1 (rd t1025 x8_1)).f1) == 12) = true := beq_iff_eq.mpr c15
         have c15b1 : (((rd_T52 l1 (rd t1025 x8_1)).f1) != 12) = false := bne_eq_false_iff_eq.mpr c15
         clear c15
         obtain rfl := Option.some.inj H
         obtain ⟨Ao16, co16, eo16⟩ := Kd.R_slice HO_7.out
         subst eo16
         have p1028 : 0 ≤ (x8_1 : Int) := of_decide_eq_true (uq)
         have q1028 : x8_1 < (t1025.length : Int) := of_decide_eq_true (uq)
         obtain ⟨ad1028, e1028, hx1028_0⟩ := Kd.at_int (Kd.R_reads' HO_7.out).2.2 x8_1 p1028 q1028
         cases e1028
         replace p1028 := eq_true p1028
         replace q1028 := eq_true q1028
         have p1029 : 0 ≤ ((rd t1025 x8_1) : Int) := of_decide_eq_true (uq)
         have q1029 : (rd t1025 x8_1) < (l1.length : Int) := of_decide_eq_true (uq)
         obtain ⟨ad1029, e1029, hx1029_0, hx1029_1, hx1029_2, hx1029_3⟩ := at_T52 HR1.out (rd t1025 x8_1) p1029 q1029
         cases e1029
         replace hx1029_0 := cb HB.out hx1029_0
         replace hx1029_1 := cb HB.out hx1029_1
         replace hx1029_2 := cb HB.out hx1029_2
         replace hx1029_3 := cb HB.out hx1029_3
         replace p1029 := eq_true p1029
         replace q1029 := eq_true q1029
         have p1030 : 0 ≤ (x8_1 : Int) := of_decide_eq_true (uq)
         have q1030 : x8_1 < (t1025.length : Int) := of_decide_eq_true (uq)
         obtain ⟨ad1030, e1030, hx1030_0⟩ := Kd.at_int (Kd.R_reads' HO_7.out).2.2 x8_1 p1030 q1030
         obtain rfl : ad1028 = ad1030 := (by injection e1030)
         replace p1030 := eq_true p1030
         replace q1030 := eq_true q1030
         go_wp2
         go_ret
         exact ⟨q0, q64⟩
        ·rw [if_neg c15] at H
         have c15b0 : (((rd_T52 l1 (rd t1025 x8_1)).f1) == 12) = false := beq_eq_false_iff_ne.mpr c15
         have c15b1 : (((rd_T52 l1 (rd t1025 x8_1)).f1) != 12) = true := bne_iff_ne.mpr c15
         have H' := am H
         clear H
         obtain ⟨Ao17, co17, eo17⟩ := Kd.R_slice HO_7.out
         subst eo17
         have p1028 : 0 ≤ (x8_1 : Int) := of_decide_eq_true (uq)
         have q1028 : x8_1 < (t1025.length : Int) := of_decide_eq_true (uq)
         obtain ⟨ad1028, e1028, hx1028_0⟩ := Kd.at_int (Kd.R_reads' HO_7.out).2.2 x8_1 p1028 q1028
         cases e1028
         replace p1028 := eq_true p1028
         replace q1028 := eq_true q1028
         have p1029 : 0 ≤ ((rd t1025 x8_1) : Int) := of_decide_eq_true (uq)
         have q1029 : (rd t1025 x8_1) < (l1.length : Int) := of_decide_eq_true (uq)
         obtain ⟨ad1029, e1029, hx1029_0, hx1029_1, hx1029_2, hx1029_3⟩ := at_T52 HR1.out (rd t1025 x8_1) p1029 q1029
         cases e1029
         replace hx1029_0 := cb HB.out hx1029_0
         replace hx1029_1 := cb HB.out hx1029_1
         replace hx1029_2 := cb HB.out hx1029_2
         replace hx1029_3 := cb HB.out hx1029_3
         replace p1029 := eq_true p1029
         replace q1029 := eq_true q1029
         go_wp2
         go_roundg k1
         case measure => have := HK1.out; omega
         case rel => exact ⟨(wrap64 (x8_1 + 1)), (sq), H', ⟨by have := HK1.out; omega⟩, ⟨rq HO_7.out⟩, ⟨kq BK1023.out⟩, ⟨q64⟩⟩
       ·rw [if_neg c14] at H
        exact absurd H (by simp)
      ·rw [if_neg c13] at H
       exact absurd H (by simp)
     ·rw [if_neg c12] at H
      exact absurd H (by simp)
    ·rw [if_neg c11] at H
     have c11b0 : decide (x8_1 < (t1025.length : Int)) = false := decide_eq_false c11
     clear c11
     obtain rfl := Option.some.inj H
     obtain ⟨Ao18, co18, eo18⟩ := Kd.R_slice HO_7.out
     subst eo18
     go_wp2
     go_ret
     exact ⟨q0, q64⟩
 ·replace c5 := Bool.eq_false_iff.mpr c5
  subst c5
  have H1 : (some (-1)) = some r := by rw [if_neg (show ¬ (false = true) by decide)] at H; exact H
  clear H
  have H := H1
  clear H1
  obtain rfl := Option.some.inj H
  go_enter Try.func32, Try.ntmps32
  go_wp2_with (first | ((with_reducible refine gate_dst (N := 3) rfl ?_); refine bE (N := 3) (cs := #[.slice A0_0 l0_0.length c0_0]) (t := 32) ?_; intro gb1023 hg w19 hbox hb; have BK1023 := am (hbox); have GW1023 := am ((by rw [hg]; exact (below_size (bq)) : w.heap.size ≤ gb1023)); have GE1023 := am ((by rw [hg]; exact (below_size (bq)) : w.heap.size ≤ gb1023)); replace HB := am (below_step (bq) hb); clear hb hbox hg; have hcz20_0 := bc0 BK1023.out; have hfz20_0 := blk_frozen BK1023.out 0) | ((with_reducible refine gate_callee (f := 63) rfl ?_); refine goesL_ (some 12) rfl rfl Try.func63 (by kernel_rfl) rfl #[.agg #[.slice A0_0 l0_0.length c0_0], .slice A1 l1.length c1, .int .i64 a2] rfl (aq) ?_; (with_reducible refine (spec_goodLine.calls k _ _ l0_0 _ _ l1 a2 false _ ?side1 ?side2 ?side3 ?side4 A4.out).mono ?_); (case side1 => exact cq (Kd.C_below HR0_0.out HB.out)); (case side2 => exact HC0_0.out); (case side3 => exact cq (Kd.C_below HR1.out HB.out)); (case side4 => exact HC1.out); rintro e w21 ⟨rfl, hb⟩; refine ⟨_, rfl, ?_⟩; replace BK1023 := am (blk_below (g := gb1023) (o := .cells #[.slice A0_0 l0_0.length c0_0] 32 (0, 0)) (kq BK1023.out) hb); replace HB := am (below_step (q64) hb); (try clear hb); (try clear hb2); (try clear hk); (try clear hi)))
  go_ret
  exact ⟨q0, q64⟩
def laws_FnLoopOf.j0 : Nat → List (S52) → Int → Int → Bool → List (S87) → Option (Bool)
 | 0, _, _, _, _, _ => none
 | k + 1, x4, x5, x6, x41, x1040000 => if x41 = true then ((spec_LoopOf.f k x1040000 x4 x5).bind fun t1043 => (some (x6 == t1043))) else (if x6 < 0 then (if 0 ≤ x5 then (if x5 < (x4.length : Int) then (if ((rd_T52 x4 x5).f1) = 5 then (some false) else (some (((rd_T52 x4 x5).f1) != 6))) else (none)) else (none)) else ((impl_EnclosingOf.f k x1040000 x4 x5).bind fun t1046 => ((laws_isIn.f k t1046 x6).bind fun t1049 => (if t1049 = true then (if 0 ≤ x6 then (if x6 < (x4.length : Int) then (some (((rd_T52 x4 x6).f1) == 12)) else (none)) else (none)) else (some false)))))
def laws_FnLoopOf.f (k : Nat) (l0 : List Int) : Option (Bool) := if (l0.length : Int) > 1048576 then (some true) else ((spec_DrawLoopOf.f k l0).bind fun bt1032 => ((impl_LoopOf.f k bt1032.1 bt1032.2.1 bt1032.2.2).bind fun t1040 => ((spec_LoopOf.f k bt1032.1 bt1032.2.1 bt1032.2.2).bind fun t1041 => (if t1040 = t1041 then ((impl_ValidProgram.f k bt1032.1 bt1032.2.1).bind fun t1042 => (if t1042 = true then (if bt1032.2.2 < 0 then (laws_FnLoopOf.j0 k bt1032.2.1 bt1032.2.2 t1040 true bt1032.1) else (laws_FnLoopOf.j0 k bt1032.2.1 bt1032.2.2 t1040 (decide (bt1032.2.2 ≥ (bt1032.2.1.length : Int))) bt1032.1)) else (laws_FnLoopOf.j0 k bt1032.2.1 bt1032.2.2 t1040 true bt1032.1))) else (laws_FnLoopOf.j0 k bt1032.2.1 bt1032.2.2 t1040 true bt1032.1)))))
set_option maxHeartbeats 8000000 in
set_option maxRecDepth 100000 in
theorem laws_FnLoopOf.calls (k : Nat) (A0 : Option Addr) (c0 : Nat) (l0 : List Int) (r : Bool) (w : World) (hr0 : Kd.C (Kd.int .u8) w A0 l0.length l0) (hc0 : l0.length ≤ c0) (hT : r = true) (h : laws_FnLoopOf.f k l0 = some r) :
  Calls Try.prog 6 #[.slice A0 l0.length c0] w fun e w' => e = .returned (.bool r) ∧ Below w.heap.size w w' := by
 have hu32 := Try.underlying32
 have HR0 := am hr0
 have HC0 := am hc0
 clear hr0 hc0
 have HB := am (Below.refl w.heap.size w)
 have H : (if (l0.length : Int) > 1048576 then (some true) else ((spec_DrawLoopOf.f k l0).bind fun bt1032 => ((impl_LoopOf.f k bt1032.1 bt1032.2.1 bt1032.2.2).bind fun t1040 => ((spec_LoopOf.f k bt1032.1 bt1032.2.1 bt1032.2.2).bind fun t1041 => (if t1040 = t1041 then ((impl_ValidProgram.f k bt1032.1 bt1032.2.1).bind fun t1042 => (if t1042 = true then (if bt1032.2.2 < 0 then (laws_FnLoopOf.j0 k bt1032.2.1 bt1032.2.2 t1040 true bt1032.1) else (laws_FnLoopOf.j0 k bt1032.2.1 bt1032.2.2 t1040 (decide (bt1032.2.2 ≥ (bt1032.2.1.length : Int))) bt1032.1)) else (laws_FnLoopOf.j0 k bt1032.2.1 bt1032.2.2 t1040 true bt1032.1))) else (laws_FnLoopOf.j0 k bt1032.2.1 bt1032.2.2 t1040 true bt1032.1)))))) = some r := h
 clear h
 by_cases c2 : (l0.length : Int) > 1048576
 ·rw [if_pos c2] at H
  have c2b0 : decide (1048576 < (l0.length : Int)) = true := decide_eq_true c2
  have c2b1 : decide (1048576 < l0.length) = true := decide_eq_true (by omega)
  clear c2
  obtain rfl := Option.some.inj H
  go_enter Try.func6, Try.ntmps6
  go_wp2
  go_ret
  exact ⟨q0, bq⟩
 ·rw [if_neg c2] at H
  have c2b0 : decide (1048576 < (l0.length : Int)) = false := decide_eq_false c2
  have c2b1 : decide (1048576 < l0.length) = false := decide_eq_false (by omega)
  clear c2
  replace H := Option.bind_eq_some_iff.mp H
  obtain ⟨⟨t1032, t1035, t1038⟩, A30, H⟩ := H
  replace H : ((impl_LoopOf.f k t1032 t1035 t1038).bind fun t1040 => ((spec_LoopOf.f k t1032 t1035 t1038).bind fun t1041 => (if t1040 = t1041 then ((impl_ValidProgram.f k t1032 t1035).bind fun t1042 => (if t1042 = true then (if t1038 < 0 then (laws_FnLoopOf.j0 k t1035 t1038 t1040 true t1032) else (laws_FnLoopOf.j0 k t1035 t1038 t1040 (decide (t1038 ≥ (t1035.length : Int))) t1032)) else (laws_FnLoopOf.j0 k t1035 t1038 t1040 true t1032))) else (laws_FnLoopOf.j0 k t1035 t1038 t1040 true t1032)))) = some r := H
  have A3 := am A30
  clear A30
  replace H := Option.bind_eq_some_iff.mp H
  obtain ⟨t1040, A40, H⟩ := H
  replace H : ((spec_LoopOf.f k t1032 t1035 t1038).bind fun t1041 => (if t1040 = t1041 then ((impl_ValidProgram.f k t1032 t1035).bind fun t1042 => (if t1042 = true then (if t1038 < 0 then (laws_FnLoopOf.j0 k t1035 t1038 t1040 true t1032) else (laws_FnLoopOf.j0 k t1035 t1038 t1040 (decide (t1038 ≥ (t1035.length : Int))) t1032)) else (laws_FnLoopOf.j0 k t1035 t1038 t1040 true t1032))) else (laws_FnLoopOf.j0 k t1035 t1038 t1040 true t1032))) = some r := H
  have A4 := am A40
  clear A40
  have HC5 := am H
  clear H
  go_enter Try.func6, Try.ntmps6
  go_upto_region 5 with (first | ((with_reducible refine gate_callee (f := 30) rfl ?_); refine goesL_ (some 12) rfl rfl Try.func30 (by kernel_rfl) rfl #[.slice A0 l0.length c0] rfl (aq) ?_; (with_reducible refine (spec_DrawLoopOf.calls k _ _ l0 t1032 t1035 t1038 _ ?side1 ?side2 A3.out).mono ?_); (case side1 => exact q28); (case side2 => exact HC0.out); rintro e w6 ⟨v1033, v1036, rfl, ho0, ho1, hb⟩; refine ⟨_, rfl, ?_⟩; have HO1034 := am (Kd.R_lower ho0 (below_size (bq))); have HO1037 := am (Kd.Q_lower ho1 (below_size (bq))); replace HB := am (below_step (bq) hb); (try clear hb); (try clear hb2); (try clear hk); (try clear hi); (try clear ho0); (try clear ho1)) | ((with_reducible refine gate_dst (N := 3) rfl ?_); (try (refine gate_guard (by rfl) ?_; dsimp only)); refine box_event ?hg (N := 3) ?hd (cs := #[.slice none 0 0]) (t := 32) ?hr ?_; (case hd => rfl); (case hg => rfl); (case hr => exact q2); intro gb1039 hg w7 hbox hb; have BK1039 := am (hbox); have GW1039 := am ((by rw [hg]; exact (below_size (bq)) : w.heap.size ≤ gb1039)); have GE1039 := am ((by rw [hg]; exact (below_size (bq)) : w.heap.size ≤ gb1039)); replace HO1034 := am (Kd.R_below (rq HO1034.out) hb); replace HO1037 := am (Kd.Q_below (by (with_reducible repeat (first | apply Kd.Q_alloc | apply Kd.Q_drewN | apply Kd.Q_drew)); exact HO1037.out) hb); replace HB := am (below_step (bq) hb); clear hb hbox hg; obtain ⟨Ao8, co8, eo8⟩ := Kd.R_slice HO1034.out; subst eo8; have hcz9_0 := bc0 BK1039.out; have hfz9_0 := blk_frozen BK1039.out 0; obtain ⟨Ao10, co10, eo10, _⟩ := Kd.Q_slice HO1037.out; subst eo10) | ((with_reducible refine gate_callee (f := 31) rfl ?_); refine goesL_ (some 19) rfl rfl Try.func31 (by kernel_rfl) rfl #[.agg #[.slice Ao8 t1032.length co8], .slice Ao10 t1035.length co10, .int .i64 t1038] rfl (aq) ?_; (with_reducible refine (impl_LoopOf.calls k _ _ t1032 _ _ t1035 t1038 t1040 _ ?side1 ?side2 ?side3 ?side4 A4.out).mono ?_); (case side1 => refine (Kd.R_reads' (e := 87) (base := w.heap.size) (ok := fun k_ => True) (n := t1032.length) (c := co8) ?_).2.2; exact (by (with_reducible repeat (first | apply Kd.R_alloc | apply Kd.R_drewN | apply Kd.R_drew)); exact (Kd.R_mono (Kd.R_far (p := ⟨gb1039, 0, none⟩) (Kd.R_types HO1034.out BK1039.out (by decide)) (fun _ hk => hk.2) (.slice Ao8 t1032.length co8)) (fun _ h_ => h_.1)))); (case side2 => exact (Kd.R_reads' HO1034.out).2.1); (case side3 => refine (Kd.Q_reads' (e := 52) (base := w.heap.size) (ok := fun k_ => True) (n := t1035.length) (c := co10) ?_).2.2; exact (by (with_reducible repeat (first | apply Kd.Q_alloc | apply Kd.Q_drewN | apply Kd.Q_drew)); exact (Kd.Q_mono (Kd.Q_far (p := ⟨gb1039, 0, none⟩) (Kd.Q_types HO1037.out BK1039.out (by decide)) (fun _ hk => hk.2) (.slice Ao8 t1032.length co8)) (fun _ h_ => h_.1)))); (case side4 => exact (Kd.Q_reads' HO1037.out).2.1); rintro e w11 ⟨rfl, hb⟩; refine ⟨_, rfl, ?_⟩; replace HO1034 := am (Kd.R_below (by (with_reducible repeat (first | apply Kd.R_alloc | apply Kd.R_drewN | apply Kd.R_drew)); exact (Kd.R_mono (Kd.R_far (p := ⟨gb1039, 0, none⟩) (Kd.R_types HO1034.out BK1039.out (by decide)) (fun _ hk => hk.2) (.slice Ao8 t1032.length co8)) (fun _ h_ => h_.1))) hb); replace HO1037 := am (Kd.Q_below (by (with_reducible repeat (first | apply Kd.Q_alloc | apply Kd.Q_drewN | apply Kd.Q_drew)); exact (Kd.Q_mono (Kd.Q_far (p := ⟨gb1039, 0, none⟩) (Kd.Q_types HO1037.out BK1039.out (by decide)) (fun _ hk => hk.2) (.slice Ao8 t1032.length co8)) (fun _ h_ => h_.1))) hb); replace BK1039 := am (blk_below (g := gb1039) (o := .cells #[.slice Ao8 t1032.length co8] 32 (0, 0)) (by (with_reducible repeat (first | refine blk_drewN ?_ _ | refine blk_drew ?_ | refine blk_alloc ?_ _)); refine blk_put (cs := #[.slice none 0 0]) ?_ 0 _ rfl; (with_reducible repeat (first | refine blk_drewN ?_ _ | refine blk_drew ?_ | refine blk_alloc ?_ _)); exact BK1039.out) hb); replace HB := am (below_step (q33) hb); (try clear hb); (try clear hb2); (try clear hk); (try clear hi)))
  (try simp only [Act.put, List.setIfInBounds_toArray, List.set_cons_zero, List.set_cons_succ])
  go_cut [41] (fun v41 wc => ∃ (kq : Nat) (x41_4 : Bool), v41 = .bool x41_4 ∧ Aside0 (laws_FnLoopOf.j0 kq t1035 t1038 t1040 x41_4 t1032 = some r) ∧ Aside0 (kq ≤ k) ∧ Aside0 (Kd.Q k52 52 wc w.heap.size (fun _ => True) (.slice Ao10 t1035.length co10) t1035) ∧ Aside0 (Kd.R k87 87 wc w.heap.size (fun _ => True) (.slice Ao8 t1032.length co8) t1032) ∧ Aside0 (wc.heap[gb1039]? = some (.cells #[(.slice Ao8 t1032.length co8)] 32 (0, 0))) ∧ Aside0 (Below w.heap.size w wc))
  case first =>
   have H := HC5.out
   clear HC5
   replace H := Option.bind_eq_some_iff.mp H
   obtain ⟨t1041, A120, H⟩ := H
   replace H : (if t1040 = t1041 then ((impl_ValidProgram.f k t1032 t1035).bind fun t1042 => (if t1042 = true then (if t1038 < 0 then (laws_FnLoopOf.j0 k t1035 t1038 t1040 true t1032) else (laws_FnLoopOf.j0 k t1035 t1038 t1040 (decide (t1038 ≥ (t1035.length : Int))) t1032)) else (laws_FnLoopOf.j0 k t1035 t1038 t1040 true t1032))) else (laws_FnLoopOf.j0 k t1035 t1038 t1040 true t1032)) = some r := H
   have A12 := am A120
   clear A120
   by_cases c13 : t1040 = t1041
   ·rw [if_pos c13] at H
    have c13b0 : (t1040 == t1041) = true := beq_iff_eq.mpr c13
    have c13b1 : (t1040 != t1041) = false := bne_eq_false_iff_eq.mpr c13
    clear c13
    (first | rw [c13b0] | (simp only [i64_w, i32_w]; rw [c13b0]) | skip)
    replace H := Option.bind_eq_some_iff.mp H
    obtain ⟨t1042, A140, H⟩ := H
    replace H : (if t1042 = true then (if t1038 < 0 then (laws_FnLoopOf.j0 k t1035 t1038 t1040 true t1032) else (laws_FnLoopOf.j0 k t1035 t1038 t1040 (decide (t1038 ≥ (t1035.length : Int))) t1032)) else (laws_FnLoopOf.j0 k t1035 t1038 t1040 true t1032)) = some r := H
    have A14 := am A140
    clear A140
    by_cases c15 : t1042 = true
    ·subst c15
     have H1 : (if t1038 < 0 then (laws_FnLoopOf.j0 k t1035 t1038 t1040 true t1032) else (laws_FnLoopOf.j0 k t1035 t1038 t1040 (decide (t1038 ≥ (t1035.length : Int))) t1032)) = some r := by rw [if_pos rfl] at H; exact H
     clear H
     have H := H1
     clear H1
     by_cases c16 : t1038 < 0
     ·rw [if_pos c16] at H
      have c16b0 : decide (t1038 < 0) = true := decide_eq_true c16
      clear c16
      have H' := am H
      clear H
      have hcz17_0 := bc0 BK1039.out
      have hfz17_0 := blk_frozen BK1039.out 0
      go_wp2_with (first | ((with_reducible refine gate_callee (f := 32) rfl ?_); refine goesL_ (some 24) rfl rfl Try.func32 (by kernel_rfl) rfl #[.agg #[.slice Ao8 t1032.length co8], .slice Ao10 t1035.length co10, .int .i64 t1038] rfl (aq) ?_; (with_reducible refine (spec_LoopOf.calls k _ _ t1032 _ _ t1035 t1038 t1041 _ ?side1 ?side2 ?side3 ?side4 A12.out).mono ?_); (case side1 => exact cq (Kd.R_reads' HO1034.out).2.2); (case side2 => exact (Kd.R_reads' HO1034.out).2.1); (case side3 => exact cq (Kd.Q_reads' HO1037.out).2.2); (case side4 => exact (Kd.Q_reads' HO1037.out).2.1); rintro e w18 ⟨rfl, hb⟩; refine ⟨_, rfl, ?_⟩; replace HO1034 := am (Kd.R_below (rq HO1034.out) hb); replace HO1037 := am (Kd.Q_below (by (with_reducible repeat (first | apply Kd.Q_alloc | apply Kd.Q_drewN | apply Kd.Q_drew)); exact HO1037.out) hb); replace BK1039 := am (blk_below (g := gb1039) (o := .cells #[.slice Ao8 t1032.length co8] 32 (0, 0)) (kq BK1039.out) hb); replace HB := am (below_step (q33) hb); (try clear hb); (try clear hb2); (try clear hk); (try clear hi); have hcz19_0 := bc0 BK1039.out; have hfz19_0 := blk_frozen BK1039.out 0) | (go_at_call 29; (with_reducible refine (impl_ValidProgram.calls k _ _ t1032 _ _ t1035 true _ ?side1 ?side2 ?side3 ?side4 A14.out).mono ?_); (case side1 => exact cq (Kd.R_reads' HO1034.out).2.2); (case side2 => exact (Kd.R_reads' HO1034.out).2.1); (case side3 => exact cq (Kd.Q_reads' HO1037.out).2.2); (case side4 => exact (Kd.Q_reads' HO1037.out).2.1); rintro e w20 ⟨rfl, hb⟩; replace HO1034 := am (Kd.R_below (rq HO1034.out) hb); replace HO1037 := am (Kd.Q_below (by (with_reducible repeat (first | apply Kd.Q_alloc | apply Kd.Q_drewN | apply Kd.Q_drew)); exact HO1037.out) hb); replace BK1039 := am (blk_below (g := gb1039) (o := .cells #[.slice Ao8 t1032.length co8] 32 (0, 0)) (kq BK1039.out) hb); replace HB := am (below_step (q33) hb); (try clear hb); (try clear hb2); (try clear hk); (try clear hi)))
      go_meet
      case rel => exact ⟨_, (true), (sq), H', ⟨q16⟩, ⟨by (with_reducible repeat (first | apply Kd.Q_alloc | apply Kd.Q_drewN | apply Kd.Q_drew)); exact HO1037.out⟩, ⟨rq HO1034.out⟩, ⟨kq BK1039.out⟩, ⟨q33⟩⟩
     ·rw [if_neg c16] at H
      have c16b0 : decide (t1038 < 0) = false := decide_eq_false c16
      clear c16
      have H' := am H
      clear H
      have hcz21_0 := bc0 BK1039.out
      have hfz21_0 := blk_frozen BK1039.out 0
      go_wp2_with (first | ((with_reducible refine gate_callee (f := 32) rfl ?_); refine goesL_ (some 24) rfl rfl Try.func32 (by kernel_rfl) rfl #[.agg #[.slice Ao8 t1032.length co8], .slice Ao10 t1035.length co10, .int .i64 t1038] rfl (aq) ?_; (with_reducible refine (spec_LoopOf.calls k _ _ t1032 _ _ t1035 t1038 t1041 _ ?side1 ?side2 ?side3 ?side4 A12.out).mono ?_); (case side1 => exact cq (Kd.R_reads' HO1034.out).2.2); (case side2 => exact (Kd.R_reads' HO1034.out).2.1); (case side3 => exact cq (Kd.Q_reads' HO1037.out).2.2); (case side4 => exact (Kd.Q_reads' HO1037.out).2.1); rintro e w22 ⟨rfl, hb⟩; refine ⟨_, rfl, ?_⟩; replace HO1034 := am (Kd.R_below (rq HO1034.out) hb); replace HO1037 := am (Kd.Q_below (by (with_reducible repeat (first | apply Kd.Q_alloc | apply Kd.Q_drewN | apply Kd.Q_drew)); exact HO1037.out) hb); replace BK1039 := am (blk_below (g := gb1039) (o := .cells #[.slice Ao8 t1032.length co8] 32 (0, 0)) (kq BK1039.out) hb); replace HB := am (below_step (q33) hb); (try clear hb); (try clear hb2); (try clear hk); (try clear hi); have hcz23_0 := bc0 BK1039.out; have hfz23_0 := blk_frozen BK1039.out 0) | (go_at_call 29; (with_reducible refine (impl_ValidProgram.calls k _ _ t1032 _ _ t1035 true _ ?side1 ?side2 ?side3 ?side4 A14.out).mono ?_); (case side1 => exact cq (Kd.R_reads' HO1034.out).2.2); (case side2 => exact (Kd.R_reads' HO1034.out).2.1); (case side3 => exact cq (Kd.Q_reads' HO1037.out).2.2); (case side4 => exact (Kd.Q_reads' HO1037.out).2.1); rintro e w24 ⟨rfl, hb⟩; replace HO1034 := am (Kd.R_below (rq HO1034.out) hb); replace HO1037 := am (Kd.Q_below (by (with_reducible repeat (first | apply Kd.Q_alloc | apply Kd.Q_drewN | apply Kd.Q_drew)); exact HO1037.out) hb); replace BK1039 := am (blk_below (g := gb1039) (o := .cells #[.slice Ao8 t1032.length co8] 32 (0, 0)) (kq BK1039.out) hb); replace HB := am (below_step (q33) hb); (try clear hb); (try clear hb2); (try clear hk); (try clear hi)))
      go_meet
      case rel => exact ⟨_, (decide (t1038 ≥ (t1035.length : Int))), (sq), H', ⟨q16⟩, ⟨by (with_reducible repeat (first | apply Kd.Q_alloc | apply Kd.Q_drewN | apply Kd.Q_drew)); exact HO1037.out⟩, ⟨rq HO1034.out⟩, ⟨kq BK1039.out⟩, ⟨q33⟩⟩
    ·replace c15 := Bool.eq_false_iff.mpr c15
     subst c15
     have H1 : (laws_FnLoopOf.j0 k t1035 t1038 t1040 true t1032) = some r := by rw [if_neg (show ¬ (false = true) by decide)] at H; exact H
     clear H
     have H := H1
     clear H1
     have H' := am H
     clear H
     have hcz25_0 := bc0 BK1039.out
     have hfz25_0 := blk_frozen BK1039.out 0
     go_wp2_with (first | ((with_reducible refine gate_callee (f := 32) rfl ?_); refine goesL_ (some 24) rfl rfl Try.func32 (by kernel_rfl) rfl #[.agg #[.slice Ao8 t1032.length co8], .slice Ao10 t1035.length co10, .int .i64 t1038] rfl (aq) ?_; (with_reducible refine (spec_LoopOf.calls k _ _ t1032 _ _ t1035 t1038 t1041 _ ?side1 ?side2 ?side3 ?side4 A12.out).mono ?_); (case side1 => exact cq (Kd.R_reads' HO1034.out).2.2); (case side2 => exact (Kd.R_reads' HO1034.out).2.1); (case side3 => exact cq (Kd.Q_reads' HO1037.out).2.2); (case side4 => exact (Kd.Q_reads' HO1037.out).2.1); rintro e w26 ⟨rfl, hb⟩; refine ⟨_, rfl, ?_⟩; replace HO1034 := am (Kd.R_below (rq HO1034.out) hb); replace HO1037 := am (Kd.Q_below (by (with_reducible repeat (first | apply Kd.Q_alloc | apply Kd.Q_drewN | apply Kd.Q_drew)); exact HO1037.out) hb); replace BK1039 := am (blk_below (g := gb1039) (o := .cells #[.slice Ao8 t1032.length co8] 32 (0, 0)) (kq BK1039.out) hb); replace HB := am (below_step (q33) hb); (try clear hb); (try clear hb2); (try clear hk); (try clear hi); have hcz27_0 := bc0 BK1039.out; have hfz27_0 := blk_frozen BK1039.out 0) | (go_at_call 29; (with_reducible refine (impl_ValidProgram.calls k _ _ t1032 _ _ t1035 false _ ?side1 ?side2 ?side3 ?side4 A14.out).mono ?_); (case side1 => exact cq (Kd.R_reads' HO1034.out).2.2); (case side2 => exact (Kd.R_reads' HO1034.out).2.1); (case side3 => exact cq (Kd.Q_reads' HO1037.out).2.2); (case side4 => exact (Kd.Q_reads' HO1037.out).2.1); rintro e w28 ⟨rfl, hb⟩; replace HO1034 := am (Kd.R_below (rq HO1034.out) hb); replace HO1037 := am (Kd.Q_below (by (with_reducible repeat (first | apply Kd.Q_alloc | apply Kd.Q_drewN | apply Kd.Q_drew)); exact HO1037.out) hb); replace BK1039 := am (blk_below (g := gb1039) (o := .cells #[.slice Ao8 t1032.length co8] 32 (0, 0)) (kq BK1039.out) hb); replace HB := am (below_step (q33) hb); (try clear hb); (try clear hb2); (try clear hk); (try clear hi)))
     go_meet
     case rel => exact ⟨_, (true), (sq), H', ⟨q16⟩, ⟨by (with_reducible repeat (first | apply Kd.Q_alloc | apply Kd.Q_drewN | apply Kd.Q_drew)); exact HO1037.out⟩, ⟨rq HO1034.out⟩, ⟨kq BK1039.out⟩, ⟨q33⟩⟩
   ·rw [if_neg c13] at H
    have c13b0 : (t1040 == t1041) = false := beq_eq_false_iff_ne.mpr c13
    have c13b1 : (t1040 != t1041) = true := bne_iff_ne.mpr c13
    (first | rw [c13b0] | (simp only [i64_w, i32_w]; rw [c13b0]) | skip)
    have H' := am H
    clear H
    have hcz29_0 := bc0 BK1039.out
    have hfz29_0 := blk_frozen BK1039.out 0
    go_wp2_with (first | ((with_reducible refine gate_callee (f := 32) rfl ?_); refine goesL_ (some 24) rfl rfl Try.func32 (by kernel_rfl) rfl #[.agg #[.slice Ao8 t1032.length co8], .slice Ao10 t1035.length co10, .int .i64 t1038] rfl (aq) ?_; (with_reducible refine (spec_LoopOf.calls k _ _ t1032 _ _ t1035 t1038 t1041 _ ?side1 ?side2 ?side3 ?side4 A12.out).mono ?_); (case side1 => exact cq (Kd.R_reads' HO1034.out).2.2); (case side2 => exact (Kd.R_reads' HO1034.out).2.1); (case side3 => exact cq (Kd.Q_reads' HO1037.out).2.2); (case side4 => exact (Kd.Q_reads' HO1037.out).2.1); rintro e w30 ⟨rfl, hb⟩; refine ⟨_, rfl, ?_⟩; replace HO1034 := am (Kd.R_below (rq HO1034.out) hb); replace HO1037 := am (Kd.Q_below (by (with_reducible repeat (first | apply Kd.Q_alloc | apply Kd.Q_drewN | apply Kd.Q_drew)); exact HO1037.out) hb); replace BK1039 := am (blk_below (g := gb1039) (o := .cells #[.slice Ao8 t1032.length co8] 32 (0, 0)) (kq BK1039.out) hb); replace HB := am (below_step (q33) hb); (try clear hb); (try clear hb2); (try clear hk); (try clear hi)))
    go_meet
    case rel => exact ⟨_, (true), (sq), H', ⟨q16⟩, ⟨by (with_reducible repeat (first | apply Kd.Q_alloc | apply Kd.Q_drewN | apply Kd.Q_drew)); exact HO1037.out⟩, ⟨rq HO1034.out⟩, ⟨kq BK1039.out⟩, ⟨q33⟩⟩
  case rest =>
   clear HC5
   try clear c1
   try clear c2
   try clear c2b0
   try clear c2b1
   try clear p2
   try clear c3
   try clear c6
   try clear c13
   try clear c13b0
   try clear c13b1
   try clear c15
   try clear c16
   try clear c16b0
   try clear c30
   try clear hcz17_0
   try clear hcz19_0
   try clear hcz21_0
   try clear hcz23_0
   try clear hcz25_0
   try clear hcz27_0
   try clear hcz29_0
   try clear hcz9_0
   try clear hfz17_0
   try clear hfz19_0
   try clear hfz21_0
   try clear hfz23_0
   try clear hfz25_0
   try clear hfz27_0
   try clear hfz29_0
   try clear hfz9_0
   obtain ⟨kq, x41_4, rfl, HA, HJ4, HO_4, HO_1040000, BK1039, HB⟩ := hcut
   cases kq with
   | zero => exact absurd HA.out (by simp [laws_FnLoopOf.j0])
   | succ kj4 =>
    have H := HA.out
    clear HA
    simp only [laws_FnLoopOf.j0] at H
    by_cases c31 : x41_4 = true
    ·subst c31
     have H1 : ((spec_LoopOf.f kj4 t1032 t1035 t1038).bind fun t1043 => (some (t1040 == t1043))) = some r := by rw [if_pos rfl] at H; exact H
     clear H
     have H := H1
     clear H1
     replace H := Option.bind_eq_some_iff.mp H
     obtain ⟨t1043, A320, H⟩ := H
     replace H : (some (t1040 == t1043)) = some r := H
     have A32 := am A320
     clear A320
     obtain rfl := Option.some.inj H
     have hcz33_0 := bc0 BK1039.out
     have hfz33_0 := blk_frozen BK1039.out 0
     go_wp2_with (first | ((with_reducible refine gate_callee (f := 32) rfl ?_); refine goesL_ (some 46) rfl rfl Try.func32 (by kernel_rfl) rfl #[.agg #[.slice Ao8 t1032.length co8], .slice Ao10 t1035.length co10, .int .i64 t1038] rfl (aq) ?_; (with_reducible refine (spec_LoopOf.calls kj4 _ _ t1032 _ _ t1035 t1038 t1043 _ ?side1 ?side2 ?side3 ?side4 A32.out).mono ?_); (case side1 => exact cq (Kd.R_reads' HO_1040000.out).2.2); (case side2 => exact (Kd.R_reads' HO_1040000.out).2.1); (case side3 => exact cq (Kd.Q_reads' HO_4.out).2.2); (case side4 => exact (Kd.Q_reads' HO_4.out).2.1); rintro e w34 ⟨rfl, hb⟩; refine ⟨_, rfl, ?_⟩; replace HO_4 := am (Kd.Q_below (by (with_reducible repeat (first | apply Kd.Q_alloc | apply Kd.Q_drewN | apply Kd.Q_drew)); exact HO_4.out) hb); replace HO_1040000 := am (Kd.R_below (rq HO_1040000.out) hb); replace BK1039 := am (blk_below (g := gb1039) (o := .cells #[.slice Ao8 t1032.length co8] 32 (0, 0)) (kq BK1039.out) hb); replace HB := am (below_step (q33) hb); (try clear hb); (try clear hb2); (try clear hk); (try clear hi)))
     go_ret
     exact ⟨q0, q33⟩
    ·replace c31 := Bool.eq_false_iff.mpr c31
     subst c31
     have H1 : (if t1040 < 0 then (if 0 ≤ t1038 then (if t1038 < (t1035.length : Int) then (if ((rd_T52 t1035 t1038).f1) = 5 then (some false) else (some (((rd_T52 t1035 t1038).f1) != 6))) else (none)) else (none)) else ((impl_EnclosingOf.f kj4 t1032 t1035 t1038).bind fun t1046 => ((laws_isIn.f kj4 t1046 t1040).bind fun t1049 => (if t1049 = true then (if 0 ≤ t1040 then (if t1040 < (t1035.length : Int) then (some (((rd_T52 t1035 t1040).f1) == 12)) else (none)) else (none)) else (some false))))) = some r := by rw [if_neg (show ¬ (false = true) by decide)] at H; exact H
     clear H
     have H := H1
     clear H1
     by_cases c35 : t1040 < 0
     ·rw [if_pos c35] at H
      have c35b0 : decide (t1040 < 0) = true := decide_eq_true c35
      clear c35
      by_cases c36 : 0 ≤ t1038
      ·rw [if_pos c36] at H
       have c36b0 : decide (0 ≤ t1038) = true := decide_eq_true c36
       clear c36
       by_cases c37 : t1038 < (t1035.length : Int)
       ·rw [if_pos c37] at H
        have c37b0 : decide (t1038 < (t1035.length : Int)) = true := decide_eq_true c37
        clear c37
        by_cases c38 : ((rd_T52 t1035 t1038).f1) = 5
        ·rw [if_pos c38] at H
         have c38b0 : (((rd_T52 t1035 t1038).f1) == 5) = true := beq_iff_eq.mpr c38
         have c38b1 : (((rd_T52 t1035 t1038).f1) != 5) = false := bne_eq_false_iff_eq.mpr c38
         clear c38
         exact absurd ((Option.some.inj H).trans hT) Bool.false_ne_true
        ·rw [if_neg c38] at H
         have c38b0 : (((rd_T52 t1035 t1038).f1) == 5) = false := beq_eq_false_iff_ne.mpr c38
         have c38b1 : (((rd_T52 t1035 t1038).f1) != 5) = true := bne_iff_ne.mpr c38
         obtain rfl := Option.some.inj H
         have p1044 : 0 ≤ (t1038 : Int) := of_decide_eq_true (uq)
         have q1044 : t1038 < (t1035.length : Int) := of_decide_eq_true (uq)
         obtain ⟨ad1044, e1044, hx1044_0, hx1044_1, hx1044_2, hx1044_3⟩ := at_T52 (Kd.Q_reads' HO_4.out).2.2 t1038 p1044 q1044
         cases e1044
         replace p1044 := eq_true p1044
         replace q1044 := eq_true q1044
         have p1045 : 0 ≤ (t1038 : Int) := of_decide_eq_true (uq)
         have q1045 : t1038 < (t1035.length : Int) := of_decide_eq_true (uq)
         obtain ⟨ad1045, e1045, hx1045_0, hx1045_1, hx1045_2, hx1045_3⟩ := at_T52 (Kd.Q_reads' HO_4.out).2.2 t1038 p1045 q1045
         obtain rfl : ad1044 = ad1045 := (by injection e1045)
         replace p1045 := eq_true p1045
         replace q1045 := eq_true q1045
         go_wp2
         go_ret
         exact ⟨q0, q33⟩
       ·rw [if_neg c37] at H
        exact absurd H (by simp)
      ·rw [if_neg c36] at H
       exact absurd H (by simp)
     ·rw [if_neg c35] at H
      have c35b0 : decide (t1040 < 0) = false := decide_eq_false c35
      clear c35
      replace H := Option.bind_eq_some_iff.mp H
      obtain ⟨t1046, A390, H⟩ := H
      replace H : ((laws_isIn.f kj4 t1046 t1040).bind fun t1049 => (if t1049 = true then (if 0 ≤ t1040 then (if t1040 < (t1035.length : Int) then (some (((rd_T52 t1035 t1040).f1) == 12)) else (none)) else (none)) else (some false))) = some r := H
      have A39 := am A390
      clear A390
      replace H := Option.bind_eq_some_iff.mp H
      obtain ⟨t1049, A400, H⟩ := H
      replace H : (if t1049 = true then (if 0 ≤ t1040 then (if t1040 < (t1035.length : Int) then (some (((rd_T52 t1035 t1040).f1) == 12)) else (none)) else (none)) else (some false)) = some r := H
      have A40 := am A400
      clear A400
      by_cases c41 : t1049 = true
      ·subst c41
       have H1 : (if 0 ≤ t1040 then (if t1040 < (t1035.length : Int) then (some (((rd_T52 t1035 t1040).f1) == 12)) else (none)) else (none)) = some r := by rw [if_pos rfl] at H; exact H
       clear H
       have H := H1
       clear H1
       by_cases c42 : 0 ≤ t1040
       ·rw [if_pos c42] at H
        have c42b0 : decide (0 ≤ t1040) = true := decide_eq_true c42
        clear c42
        by_cases c43 : t1040 < (t1035.length : Int)
        ·rw [if_pos c43] at H
         have c43b0 : decide (t1040 < (t1035.length : Int)) = true := decide_eq_true c43
         clear c43
         obtain rfl := Option.some.inj H
         have hcz44_0 := bc0 BK1039.out
         have hfz44_0 := blk_frozen BK1039.out 0
         go_wp2_with (first | ((with_reducible refine gate_callee (f := 26) rfl ?_); refine goesL_ (some 67) rfl rfl Try.func26 (by kernel_rfl) rfl #[.agg #[.slice Ao8 t1032.length co8], .slice Ao10 t1035.length co10, .int .i64 t1038] rfl (aq) ?_; (with_reducible refine (impl_EnclosingOf.calls kj4 _ _ t1032 _ _ t1035 t1038 t1046 _ ?side1 ?side2 ?side3 ?side4 A39.out).mono ?_); (case side1 => exact cq (Kd.R_reads' HO_1040000.out).2.2); (case side2 => exact (Kd.R_reads' HO_1040000.out).2.1); (case side3 => exact cq (Kd.Q_reads' HO_4.out).2.2); (case side4 => exact (Kd.Q_reads' HO_4.out).2.1); rintro e w45 ⟨v1047, rfl, ho0, hb⟩; refine ⟨_, rfl, ?_⟩; have HO1048 := am (Kd.R_lower ho0 (below_size (q33))); replace HO_4 := am (Kd.Q_below (by (with_reducible repeat (first | apply Kd.Q_alloc | apply Kd.Q_drewN | apply Kd.Q_drew)); exact HO_4.out) hb); replace HO_1040000 := am (Kd.R_below (rq HO_1040000.out) hb); replace BK1039 := am (blk_below (g := gb1039) (o := .cells #[.slice Ao8 t1032.length co8] 32 (0, 0)) (kq BK1039.out) hb); replace HB := am (below_step (q33) hb); (try clear hb); (try clear hb2); (try clear hk); (try clear hi); (try clear ho0); obtain ⟨Ao46, co46, eo46⟩ := Kd.R_slice HO1048.out; subst eo46) | ((with_reducible refine gate_callee (f := 33) rfl ?_); refine goesL_ (some 69) rfl rfl Try.func33 (by kernel_rfl) rfl #[.slice Ao46 t1046.length co46, .int .i64 t1040] rfl (aq) ?_; (with_reducible refine (laws_isIn.calls kj4 _ _ t1046 t1040 true _ ?side1 ?side2 A40.out).mono ?_); (case side1 => exact cq (Kd.R_reads' HO1048.out).2.2); (case side2 => exact (Kd.R_reads' HO1048.out).2.1); rintro e w' ⟨rfl, ⟨nd, rfl⟩⟩; refine ⟨_, rfl, ?_⟩; have p1050 : 0 ≤ (t1040 : Int) := of_decide_eq_true (uq); have q1050 : t1040 < (t1035.length : Int) := of_decide_eq_true (uq); obtain ⟨ad1050, e1050, hx1050_0, hx1050_1, hx1050_2, hx1050_3⟩ := at_T52 (Kd.Q_reads' HO_4.out).2.2 t1040 p1050 q1050; cases e1050; replace p1050 := eq_true p1050; replace q1050 := eq_true q1050))
         go_ret
         exact ⟨q0, q33⟩
        ·rw [if_neg c43] at H
         exact absurd H (by simp)
       ·rw [if_neg c42] at H
        exact absurd H (by simp)
      ·replace c41 := Bool.eq_false_iff.mpr c41
       subst c41
       have H1 : (some false) = some r := by rw [if_neg (show ¬ (false = true) by decide)] at H; exact H
       clear H
       have H := H1
       clear H1
       exact absurd ((Option.some.inj H).trans hT) Bool.false_ne_true
def laws_FnLoopOf.Pure : Prop := ∀ (l0 : List Int), l0.length ≤ maxLen → l0.length * 1 ≤ 140737488351232 → (∀ x ∈ l0, (Lit.int .u8 x).wf = true) → ∃ k, laws_FnLoopOf.f k l0 = some true
theorem laws_FnLoopOf.walk (P : laws_FnLoopOf.Pure) (a0 : Option Addr) (len0 cap0 : Nat) (z0 : List Int) (w : World) (w0 : (a0 = none ∧ len0 = 0 ∧ cap0 = 0 ∧ z0 = []) ∨ ∃ x, a0 = some x ∧ len0 ≤ cap0 ∧ cap0 ≤ maxLen ∧ z0.length = cap0 ∧ (∀ i, i < z0.length → w.cell? (x.add i) = some (.int .u8 (z0.getD i 0))) ∧ ∀ n ∈ z0, (Lit.int .u8 n).wf = true) (y0 : len0 * 1 ≤ 140737488351232) :
  Calls Try.prog 6 #[.slice a0 len0 cap0] w fun e w' => e = .returned (.bool true) ∧ Below w.heap.size w w' := by
 obtain ⟨l0, rfl, hr0, hm0, hw0, hc0⟩ := ReadsInt.ofRowC w0
 obtain ⟨k, h⟩ := P l0 hm0 y0 hw0
 refine (laws_FnLoopOf.calls k _ _ l0 true w (Kd.C_of_reads (d := (0 : Int)) (h1 := fun _ => rfl) hr0) hc0 rfl h).mono ?_
 rintro e w' ⟨rfl, hd⟩
 exact ⟨rfl, hd⟩
end Go.Proofs.Ytkokajljeebgdaa.P
end
