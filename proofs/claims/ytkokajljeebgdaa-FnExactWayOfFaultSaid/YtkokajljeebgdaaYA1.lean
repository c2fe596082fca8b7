/- One part of the proofs on this program: functions of the program as plain functions, that the code comes to them, and facts on them. -/
import Derived.Test.YtkokajljeebgdaaYAE1
import Derived.Test.YtkokajljeebgdaaYAll1
import Derived.Test.YtkokajljeebgdaaYWAuto
section
namespace Go.Proofs.Ytkokajljeebgdaa.P
open Go.RowKit Go.Proofs.YtkokajljeebgdaaW.PrintWords Go.Proofs.YtkokajljeebgdaaW.PrintLast Go.Proofs.YtkokajljeebgdaaW.PrintMore
attribute [local go_sem] max2_int min2_int max_two min_two max_three min_three max_four min_four isSome_cell_setCell
set_option linter.unusedVariables false
set_option linter.unusedSimpArgs false
def spec_hasInt.l0 : Nat → List Int → Int → Int → Option (Bool)
 | 0, _, _, _ => none
 | k + 1, x0, x1, x5 => if x5 < (x0.length : Int) then (if 0 ≤ x5 then (if (rd x0 x5) = x1 then (some true) else (spec_hasInt.l0 k x0 x1 (wrap64 (x5 + 1)))) else (none)) else (some false)
def spec_hasInt.f (k : Nat) (l0 : List Int) (a1 : Int) : Option (Bool) := spec_hasInt.l0 k l0 a1 0
set_option maxHeartbeats 8000000 in
set_option maxRecDepth 100000 in
theorem spec_hasInt.calls (k : Nat) (A0 : Option Addr) (c0 : Nat) (l0 : List Int) (a1 : Int) (r : Bool) (w : World) (hr0 : Kd.C (Kd.int .i64) w A0 l0.length l0) (hc0 : l0.length ≤ c0) (h : spec_hasInt.f k l0 a1 = some r) :
  Calls Try.prog 100 #[.slice A0 l0.length c0, .int .i64 a1] w fun e w' => e = .returned (.bool r) ∧ Drawn0 w w' := by
 have HR0 := am hr0
 have HC0 := am hc0
 clear hr0 hc0
 have H : (spec_hasInt.l0 k l0 a1 0) = some r := h
 clear h
 have H' := am H
 clear H
 go_enter Try.func100, Try.ntmps100
 go_wp2
 go_loopg [5] k (fun kq v5 w' => ∃ (x5_1 : Int), v5 = .int .i64 x5_1 ∧ Aside0 (spec_hasInt.l0 kq l0 a1 x5_1 = some r) ∧ Aside0 (kq ≤ k) ∧ Drawn0 w w')
 case atStart => exact ⟨(0), (sq), H', ⟨Nat.le_refl _⟩, q1⟩
 case round =>
  clear H'
  try clear c1
  try clear p2
  obtain ⟨x5_1, rfl, HA, HK1, ⟨m1, rfl⟩⟩ := hrel
  cases gk with
  | zero => exact absurd HA.out (by simp [spec_hasInt.l0])
  | succ k1 =>
   have H := HA.out
   clear HA
   simp only [spec_hasInt.l0] at H
   by_cases c3 : x5_1 < (l0.length : Int)
   ·rw [if_pos c3] at H
    have c3b0 : decide (x5_1 < (l0.length : Int)) = true := decide_eq_true c3
    clear c3
    by_cases c4 : 0 ≤ x5_1
    ·rw [if_pos c4] at H
     have c4b0 : decide (0 ≤ x5_1) = true := decide_eq_true c4
     clear c4
     by_cases c5 : (rd l0 x5_1) = a1
     ·rw [if_pos c5] at H
      have c5b0 : ((rd l0 x5_1) == a1) = true := beq_iff_eq.mpr c5
      have c5b1 : ((rd l0 x5_1) != a1) = false := bne_eq_false_iff_eq.mpr c5
      clear c5
      obtain rfl := Option.some.inj H
      have p172 : 0 ≤ (x5_1 : Int) := of_decide_eq_true (uq)
      have q172 : x5_1 < (l0.length : Int) := of_decide_eq_true (uq)
      obtain ⟨ad172, e172, hx172_0⟩ := Kd.at_int HR0.out x5_1 p172 q172
      cases e172
      replace p172 := eq_true p172
      replace q172 := eq_true q172
      go_wp2
      go_ret
      exact ⟨sq, q1⟩
     ·rw [if_neg c5] at H
      have c5b0 : ((rd l0 x5_1) == a1) = false := beq_eq_false_iff_ne.mpr c5
      have c5b1 : ((rd l0 x5_1) != a1) = true := bne_iff_ne.mpr c5
      have H' := am H
      clear H
      have p172 : 0 ≤ (x5_1 : Int) := of_decide_eq_true (uq)
      have q172 : x5_1 < (l0.length : Int) := of_decide_eq_true (uq)
      obtain ⟨ad172, e172, hx172_0⟩ := Kd.at_int HR0.out x5_1 p172 q172
      cases e172
      replace p172 := eq_true p172
      replace q172 := eq_true q172
      go_wp2
      go_roundg k1
      case measure => have := HK1.out; omega
      case rel => exact ⟨(wrap64 (x5_1 + 1)), (sq), H', ⟨by have := HK1.out; omega⟩, q1⟩
    ·rw [if_neg c4] at H
     exact absurd H (by simp)
   ·rw [if_neg c3] at H
    have c3b0 : decide (x5_1 < (l0.length : Int)) = false := decide_eq_false c3
    clear c3
    obtain rfl := Option.some.inj H
    go_wp2
    go_ret
    exact ⟨sq, q1⟩
def spec_above.l0 : Nat → Int → List Int → List (S87) → Option (List Int)
 | 0, _, _, _ => none
 | k + 1, x1, x5, x174000 => if x1 ≥ 0 then (if x5.length < 17592186044416 then (if 0 ≤ x1 then (if x1 < (x174000.length : Int) then (spec_above.l0 k ((rd_T87 x174000 x1).f1) (x5 ++ [x1]) x174000) else (none)) else (none)) else (none)) else (some x5)
def spec_above.f (k : Nat) (l0_0 : List (S87)) (a1 : Int) : Option (List Int) := spec_above.l0 k a1 (([] : List Int)) l0_0
set_option maxHeartbeats 8000000 in
set_option maxRecDepth 100000 in
theorem spec_above.calls (k : Nat) (A0_0 : Option Addr) (c0_0 : Nat) (l0_0 : List (S87)) (a1 : Int) (r : List Int) (w : World) (hr0_0 : Kd.C k87 w A0_0 l0_0.length l0_0) (hc0_0 : l0_0.length ≤ c0_0) (h : spec_above.f k l0_0 a1 = some r) :
  Calls Try.prog 101 #[.agg #[.slice A0_0 l0_0.length c0_0], .int .i64 a1] w fun e w' => ∃ v0_ : Value, e = .returned (v0_) ∧ Kd.R (Kd.int .i64) 3 w' w.heap.size (fun _ => True) v0_ r ∧ Below w.heap.size w w' := by
 have hu32 := Try.underlying32
 have HR0_0 := am hr0_0
 have HC0_0 := am hc0_0
 clear hr0_0 hc0_0
 have HB := am (Below.refl w.heap.size w)
 have H : (spec_above.l0 k a1 (([] : List Int)) l0_0) = some r := h
 clear h
 obtain ⟨y174, hy174⟩ : ∃ y_ : List Int, y_ = (([] : List Int)) := ⟨_, rfl⟩
 replace H : (spec_above.l0 k a1 y174 l0_0) = some r := by first | (rw [hy174]; with_reducible exact H) | (have H2_ := (Option.bind_some _ _).symm.trans H; rw [hy174]; with_reducible exact H2_) | (have H2_ := (Option.bind_some _ _).symm.trans H; with_reducible exact H2_) | with_reducible exact H | (rw [hy174]; exact H) | exact H
 have Ny174 := am hy174
 clear hy174
 have H' := am H
 clear H
 go_enter Try.func101, Try.ntmps101
 go_wp2_with (first | ((with_reducible refine gate_dst (N := 2) rfl ?_); refine bE (N := 2) (cs := #[.slice A0_0 l0_0.length c0_0]) (t := 32) ?_; intro gb173 hg w3 hbox hb; have BK173 := am (hbox); have GW173 := am ((by rw [hg]; exact (below_size (bq)) : w.heap.size ≤ gb173)); have GE173 := am ((by rw [hg]; exact (below_size (bq)) : w.heap.size ≤ gb173)); replace HB := am (below_step (bq) hb); clear hb hbox hg) | ((with_reducible refine gate_dst (N := 6) rfl ?_); refine Kd.R_lit (Kd.int .i64) _ 3 ?hg (N := 6) ?hd (xs := ([] : List Int)) (inner := []) (ok := fun _ => True) (okp := fun _ => True) ?hr ?hp (fun _ hk => hk) trivial (Below.refl _ _) (Nat.le_refl _) (by simp) ?_; (case hd => rfl); (case hg => rfl); (case hr => exact q2); (case hp => exact (Reps.none _ _)); intro v175 w4 ho5 hb hg_ hnew_; clear hg_ hnew_; (first | rw [← Ny174.out] at ho5 | (simp only [Int.reduceToNat] at ho5; rw [← Ny174.out] at ho5)); have HO176 := am (Kd.R_lower ho5 (below_size (q74))); replace BK173 := am (blk_below (g := gb173) (o := .cells #[.slice A0_0 l0_0.length c0_0] 32 (0, 0)) (kq BK173.out) hb); replace HB := am (below_step (q74) hb); clear hb ho5))
 go_loopg [1, 5] k (fun kq v1 v5 w' => ∃ (x1_1 : Int) (x5_1 : List Int), v1 = .int .i64 x1_1 ∧ Aside0 (spec_above.l0 kq x1_1 x5_1 l0_0 = some r) ∧ Aside0 (kq ≤ k) ∧ Aside0 (Kd.R (Kd.int .i64) 3 w' w.heap.size (fun _ => True) v5 x5_1) ∧ Aside0 (w'.heap[gb173]? = some (.cells #[(.slice A0_0 l0_0.length c0_0)] 32 (0, 0))) ∧ Aside0 (Below w.heap.size w w'))
 case atStart => exact ⟨(a1), (y174), (sq), H', ⟨Nat.le_refl _⟩, ⟨rq HO176.out⟩, ⟨kq BK173.out⟩, ⟨q74⟩⟩
 case round =>
  clear H'
  try clear c1
  try clear p2
  obtain ⟨x1_1, x5_1, rfl, HA, HK1, HO_5, BK173, HB⟩ := hrel
  cases gk with
  | zero => exact absurd HA.out (by simp [spec_above.l0])
  | succ k1 =>
   have H := HA.out
   clear HA
   simp only [spec_above.l0] at H
   by_cases c6 : x1_1 ≥ 0
   ·rw [if_pos c6] at H
    have c6b0 : decide (0 ≤ x1_1) = true := decide_eq_true c6
    clear c6
    by_cases c7 : x5_1.length < 17592186044416
    ·rw [if_pos c7] at H
     have LMc7 := am c7
     clear c7
     obtain ⟨y177, hy177⟩ : ∃ y_ : List Int, y_ = (x5_1 ++ [x1_1]) := ⟨_, rfl⟩
     replace H : (if 0 ≤ x1_1 then (if x1_1 < (l0_0.length : Int) then (spec_above.l0 k1 ((rd_T87 l0_0 x1_1).f1) y177 l0_0) else (none)) else (none)) = some r := by first | (rw [hy177]; with_reducible exact H) | (have H2_ := (Option.bind_some _ _).symm.trans H; rw [hy177]; with_reducible exact H2_) | (have H2_ := (Option.bind_some _ _).symm.trans H; with_reducible exact H2_) | with_reducible exact H | (rw [hy177]; exact H) | exact H
     have Ny177 := am hy177
     clear hy177
     by_cases c8 : 0 ≤ x1_1
     ·rw [if_pos c8] at H
      have c8b0 : decide (0 ≤ x1_1) = true := decide_eq_true c8
      clear c8
      by_cases c9 : x1_1 < (l0_0.length : Int)
      ·rw [if_pos c9] at H
       have c9b0 : decide (x1_1 < (l0_0.length : Int)) = true := decide_eq_true c9
       clear c9
       have H' := am H
       clear H
       go_wp2_with (first | ((with_reducible refine gate_builtin (b := .append) (xs := #[.tmp 15, .tmp 17]) rfl ?_); at_builtin; refine Kd.R_append (Kd.int .i64) (w0 := w) w.heap.size rfl (.tmp 15) (.tmp 17) 28 3 (.int .i64 0) 8 rfl Try.underlying28 info3 rfl (by decide) (by omega) u5 x5_1 x1_1 [.int .i64 x1_1] (fun _ => True) (fun _ => False) rfl rfl ?aP (fun _ hk => hk.elim) ?aF ?aO ?aB ?aS ?aL ?_; (case aP => exact rfl); (case aB => exact (q74)); (case aF => exact (fun _ _ => trivial)); (case aO => exact (rq HO_5.out)); (case aS => exact (below_size (q74))); (case aL => have := LMc7.out; omega); intro v178 w10 ho hb hg hat; rw [← Ny177.out] at ho; have n0_ := am (blk_grown (g := gb173) (o := .cells #[.slice A0_0 l0_0.length c0_0] 32 (0, 0)) (kq BK173.out) hg (Kd.R_ne HO_5.out BK173.out (by decide))); have n1_ := am (hb); have n2_ := am (ho); clear BK173 HB HO_5; have BK173 := n0_; have HB := n1_; have HO179 := n2_; clear n0_ n1_ n2_ ho hb hg hat; have hcz11_0 := bc0 BK173.out; have hfz11_0 := blk_frozen BK173.out 0; have p180 : 0 ≤ (x1_1 : Int) := of_decide_eq_true (uq); have q180 : x1_1 < (l0_0.length : Int) := of_decide_eq_true (uq); obtain ⟨ad180, e180, hx180_0, hx180_1⟩ := at_T87 HR0_0.out x1_1 p180 q180; cases e180; replace hx180_0 := cb HB.out hx180_0; replace hx180_1 := cb HB.out hx180_1; replace p180 := eq_true p180; replace q180 := eq_true q180))
       go_roundg k1
       case measure => have := HK1.out; omega
       case rel => exact ⟨((rd_T87 l0_0 x1_1).f1), (y177), (sq), H', ⟨by have := HK1.out; omega⟩, ⟨rq HO179.out⟩, ⟨kq BK173.out⟩, ⟨q74⟩⟩
      ·rw [if_neg c9] at H
       exact absurd H (by simp)
     ·rw [if_neg c8] at H
      exact absurd H (by simp)
    ·rw [if_neg c7] at H
     exact absurd H (by simp)
   ·rw [if_neg c6] at H
    have c6b0 : decide (0 ≤ x1_1) = false := decide_eq_false c6
    clear c6
    obtain rfl := Option.some.inj H
    go_wp2
    go_ret
    exact ⟨_, q0, rq HO_5.out, q74⟩
def spec_isA.f (k : Nat) (l0_0 : List (S87)) (a1 : Int) (a2 : Int) : Option (Bool) := (spec_above.f k l0_0 a1).bind fun t182 => ((spec_hasInt.f k t182 a2).bind fun t185 => (some t185))
set_option maxHeartbeats 8000000 in
set_option maxRecDepth 100000 in
theorem spec_isA.calls (k : Nat) (A0_0 : Option Addr) (c0_0 : Nat) (l0_0 : List (S87)) (a1 : Int) (a2 : Int) (r : Bool) (w : World) (hr0_0 : Kd.C k87 w A0_0 l0_0.length l0_0) (hc0_0 : l0_0.length ≤ c0_0) (h : spec_isA.f k l0_0 a1 a2 = some r) :
  Calls Try.prog 77 #[.agg #[.slice A0_0 l0_0.length c0_0], .int .i64 a1, .int .i64 a2] w fun e w' => e = .returned (.bool r) ∧ Below w.heap.size w w' := by
 have hu32 := Try.underlying32
 have HR0_0 := am hr0_0
 have HC0_0 := am hc0_0
 clear hr0_0 hc0_0
 have HB := am (Below.refl w.heap.size w)
 have H : ((spec_above.f k l0_0 a1).bind fun t182 => ((spec_hasInt.f k t182 a2).bind fun t185 => (some t185))) = some r := h
 clear h
 replace H := Option.bind_eq_some_iff.mp H
 obtain ⟨t182, A40, H⟩ := H
 replace H : ((spec_hasInt.f k t182 a2).bind fun t185 => (some t185)) = some r := H
 have A4 := am A40
 clear A40
 replace H := Option.bind_eq_some_iff.mp H
 obtain ⟨t185, A50, H⟩ := H
 replace H : (some t185) = some r := H
 have A5 := am A50
 clear A50
 obtain rfl := Option.some.inj H
 go_enter Try.func77, Try.ntmps77
 go_wp2_with (first | ((with_reducible refine gate_dst (N := 3) rfl ?_); refine bE (N := 3) (cs := #[.slice A0_0 l0_0.length c0_0]) (t := 32) ?_; intro gb181 hg w6 hbox hb; have BK181 := am (hbox); have GW181 := am ((by rw [hg]; exact (below_size (bq)) : w.heap.size ≤ gb181)); have GE181 := am ((by rw [hg]; exact (below_size (bq)) : w.heap.size ≤ gb181)); replace HB := am (below_step (bq) hb); clear hb hbox hg; have hcz7_0 := bc0 BK181.out; have hfz7_0 := blk_frozen BK181.out 0) | ((with_reducible refine gate_callee (f := 101) rfl ?_); refine goesL_ (some 9) rfl rfl Try.func101 (by kernel_rfl) rfl #[.agg #[.slice A0_0 l0_0.length c0_0], .int .i64 a1] rfl (aq) ?_; (with_reducible refine (spec_above.calls k _ _ l0_0 a1 t182 _ ?side1 ?side2 A4.out).mono ?_); (case side1 => exact cq (Kd.C_below HR0_0.out HB.out)); (case side2 => exact HC0_0.out); rintro e w8 ⟨v183, rfl, ho0, hb⟩; refine ⟨_, rfl, ?_⟩; have HO184 := am (Kd.R_lower ho0 (below_size (q104))); replace BK181 := am (blk_below (g := gb181) (o := .cells #[.slice A0_0 l0_0.length c0_0] 32 (0, 0)) (kq BK181.out) hb); replace HB := am (below_step (q104) hb); (try clear hb); (try clear hb2); (try clear hk); (try clear hi); (try clear ho0); obtain ⟨Ao9, co9, eo9⟩ := Kd.R_slice HO184.out; subst eo9) | ((with_reducible refine gate_callee (f := 100) rfl ?_); refine goesL_ (some 11) rfl rfl Try.func100 (by kernel_rfl) rfl #[.slice Ao9 t182.length co9, .int .i64 a2] rfl (aq) ?_; (with_reducible refine (spec_hasInt.calls k _ _ t182 a2 t185 _ ?side1 ?side2 A5.out).mono ?_); (case side1 => exact cq (Kd.R_reads' HO184.out).2.2); (case side2 => exact (Kd.R_reads' HO184.out).2.1); rintro e w' ⟨rfl, ⟨nd, rfl⟩⟩; refine ⟨_, rfl, ?_⟩))
 go_ret
 exact ⟨q0, q104⟩
mutual
def spec_catcher.j0 : Nat → List (S52) → Int → Int → Bool → List (S87) → Option (Int)
 | 0, _, _, _, _, _ => none
 | k + 1, x1, x2, x3, x24, x187000 => if x24 = true then (some x2) else (if 0 ≤ x2 then (if x2 < (x1.length : Int) then (if ((rd_T52 x1 x2).f1) = 7 then ((spec_chainOf.f k x1 x2).bind fun t190 => (spec_catcher.l0 k x1 x3 t190 1 x187000)) else (some (-1))) else (none)) else (none))
def spec_catcher.l0 : Nat → List (S52) → Int → List Int → Int → List (S87) → Option (Int)
 | 0, _, _, _, _, _ => none
 | k + 1, x1, x3, x9, x10, x187000 => if x10 < (x9.length : Int) then (if 0 ≤ x10 then (if 0 ≤ (rd x9 x10) then (if (rd x9 x10) < (x1.length : Int) then (if ((rd_T52 x1 (rd x9 x10)).f1) = 8 then ((spec_isA.f k x187000 x3 ((rd_T52 x1 (rd x9 x10)).f2)).bind fun t197 => (if t197 = true then (some (rd x9 x10)) else (spec_catcher.l0 k x1 x3 x9 (wrap64 (x10 + 1)) x187000))) else (spec_catcher.l0 k x1 x3 x9 (wrap64 (x10 + 1)) x187000)) else (none)) else (none)) else (none)) else (some (-1))
end
def spec_catcher.f (k : Nat) (l0_0 : List (S87)) (l1 : List (S52)) (a2 : Int) (a3 : Int) : Option (Int) := if 0 ≤ a2 then (if a2 < (l1.length : Int) then (if ((rd_T52 l1 a2).f1) = 11 then (spec_catcher.j0 k l1 a2 a3 (((rd_T52 l1 a2).f3) == 1) l0_0) else (spec_catcher.j0 k l1 a2 a3 false l0_0)) else (none)) else (none)
def spec_catcher.T9 : Bool × List (List Nat × List Nat) := (true, [([], []), ([], []), ([], []), ([1, 2], [1, 2]), ([3], [3]), ([0, 4], [0, 4]), ([5], [5]), ([6], [6]), ([7], [7]), ([8], [8]), ([9], [9]), ([9], [9]), ([9], [9]), ([9], [9]), ([9], [9]), ([13, 14, 9], [9, 13, 14]), ([15, 9], [9, 15]), ([12, 16, 9], [9, 12, 16]), ([17, 9], [9, 17]), ([18, 9], [9, 18]), ([10, 11, 19, 9, 9], [9, 10, 11, 19]), ([9, 20], [9, 20])])
def spec_catcher.B9 : List Nat := [0, 0, 0, 6, 14, 31, 63, 127, 255, 511, 1023, 1023, 1023, 1023, 1023, 25599, 58367, 127999, 259071, 521215, 1048575, 2097151]
theorem spec_catcher.tab9 : rtab .any (opsOf Try.f44 9) = spec_catcher.T9 := by kernel_rfl
theorem spec_catcher.bits9 : waitsOk spec_catcher.T9.2 spec_catcher.B9 = true := by kernel_rfl
set_option maxHeartbeats 8000000 in
set_option maxRecDepth 100000 in
theorem spec_catcher.calls (k : Nat) (A0_0 : Option Addr) (c0_0 : Nat) (l0_0 : List (S87)) (A1 : Option Addr) (c1 : Nat) (l1 : List (S52)) (a2 : Int) (a3 : Int) (r : Int) (w : World) (hr0_0 : Kd.C k87 w A0_0 l0_0.length l0_0) (hc0_0 : l0_0.length ≤ c0_0) (hr1 : Kd.C k52 w A1 l1.length l1) (hc1 : l1.length ≤ c1) (h : spec_catcher.f k l0_0 l1 a2 a3 = some r) :
  Calls Try.prog 44 #[.agg #[.slice A0_0 l0_0.length c0_0], .slice A1 l1.length c1, .int .i64 a2, .int .i64 a3] w fun e w' => e = .returned (.int .i64 r) ∧ Below w.heap.size w w' := by
 have hu32 := Try.underlying32
 have HR0_0 := am hr0_0
 have HC0_0 := am hc0_0
 clear hr0_0 hc0_0
 have HR1 := am hr1
 have HC1 := am hc1
 clear hr1 hc1
 have HB := am (Below.refl w.heap.size w)
 have H : (if 0 ≤ a2 then (if a2 < (l1.length : Int) then (if ((rd_T52 l1 a2).f1) = 11 then (spec_catcher.j0 k l1 a2 a3 (((rd_T52 l1 a2).f3) == 1) l0_0) else (spec_catcher.j0 k l1 a2 a3 false l0_0)) else (none)) else (none)) = some r := h
 clear h
 have HC5 := am H
 clear H
 go_enter Try.func44, Try.ntmps44
 go_upto_region 1 with (first | ((with_reducible refine gate_dst (N := 4) rfl ?_); refine bE (N := 4) (cs := #[.slice A0_0 l0_0.length c0_0]) (t := 32) ?_; intro gb186 hg w6 hbox hb; have BK186 := am (hbox); have GW186 := am ((by rw [hg]; exact (below_size (bq)) : w.heap.size ≤ gb186)); have GE186 := am ((by rw [hg]; exact (below_size (bq)) : w.heap.size ≤ gb186)); replace HB := am (below_step (bq) hb); clear hb hbox hg))
 (try simp only [Act.put, List.setIfInBounds_toArray, List.set_cons_zero, List.set_cons_succ])
 go_cut [24] (fun v24 wc => ∃ (kq : Nat) (x24_4 : Bool), v24 = .bool x24_4 ∧ Aside0 (spec_catcher.j0 kq l1 a2 a3 x24_4 l0_0 = some r) ∧ Aside0 (kq ≤ k) ∧ Aside0 (wc.heap[gb186]? = some (.cells #[(.slice A0_0 l0_0.length c0_0)] 32 (0, 0))) ∧ Aside0 (Below w.heap.size w wc))
 case first =>
  have H := HC5.out
  clear HC5
  by_cases c7 : 0 ≤ a2
  ·rw [if_pos c7] at H
   have c7b0 : decide (0 ≤ a2) = true := decide_eq_true c7
   clear c7
   (first | rw [c7b0] | (simp only [i64_w, i32_w]; rw [c7b0]) | skip)
   by_cases c8 : a2 < (l1.length : Int)
   ·rw [if_pos c8] at H
    have c8b0 : decide (a2 < (l1.length : Int)) = true := decide_eq_true c8
    clear c8
    by_cases c9 : ((rd_T52 l1 a2).f1) = 11
    ·rw [if_pos c9] at H
     have c9b0 : (((rd_T52 l1 a2).f1) == 11) = true := beq_iff_eq.mpr c9
     have c9b1 : (((rd_T52 l1 a2).f1) != 11) = false := bne_eq_false_iff_eq.mpr c9
     clear c9
     have H' := am H
     clear H
     have p187 : 0 ≤ (a2 : Int) := of_decide_eq_true (uq)
     have q187 : a2 < (l1.length : Int) := of_decide_eq_true (uq)
     obtain ⟨ad187, e187, hx187_0, hx187_1, hx187_2, hx187_3⟩ := at_T52 HR1.out a2 p187 q187
     cases e187
     replace hx187_0 := cb HB.out hx187_0
     replace hx187_1 := cb HB.out hx187_1
     replace hx187_2 := cb HB.out hx187_2
     replace hx187_3 := cb HB.out hx187_3
     replace p187 := eq_true p187
     replace q187 := eq_true q187
     have p188 : 0 ≤ (a2 : Int) := of_decide_eq_true (uq)
     have q188 : a2 < (l1.length : Int) := of_decide_eq_true (uq)
     obtain ⟨ad188, e188, hx188_0, hx188_1, hx188_2, hx188_3⟩ := at_T52 HR1.out a2 p188 q188
     obtain rfl : ad187 = ad188 := (by injection e188)
     replace hx188_0 := cb HB.out hx188_0
     replace hx188_1 := cb HB.out hx188_1
     replace hx188_2 := cb HB.out hx188_2
     replace hx188_3 := cb HB.out hx188_3
     replace p188 := eq_true p188
     replace q188 := eq_true q188
     go_wp2
     go_meet
     case rel => exact ⟨_, ((((rd_T52 l1 a2).f3) == 1)), (sq), H', ⟨q16⟩, ⟨kq BK186.out⟩, ⟨q48⟩⟩
    ·rw [if_neg c9] at H
     have c9b0 : (((rd_T52 l1 a2).f1) == 11) = false := beq_eq_false_iff_ne.mpr c9
     have c9b1 : (((rd_T52 l1 a2).f1) != 11) = true := bne_iff_ne.mpr c9
     have H' := am H
     clear H
     have p187 : 0 ≤ (a2 : Int) := of_decide_eq_true (uq)
     have q187 : a2 < (l1.length : Int) := of_decide_eq_true (uq)
     obtain ⟨ad187, e187, hx187_0, hx187_1, hx187_2, hx187_3⟩ := at_T52 HR1.out a2 p187 q187
     cases e187
     replace hx187_0 := cb HB.out hx187_0
     replace hx187_1 := cb HB.out hx187_1
     replace hx187_2 := cb HB.out hx187_2
     replace hx187_3 := cb HB.out hx187_3
     replace p187 := eq_true p187
     replace q187 := eq_true q187
     go_wp2
     go_meet
     case rel => exact ⟨_, (false), (sq), H', ⟨q16⟩, ⟨kq BK186.out⟩, ⟨q48⟩⟩
   ·rw [if_neg c8] at H
    exact absurd H (by simp)
  ·rw [if_neg c7] at H
   exact absurd H (by simp)
 case rest =>
  clear HC5
  try clear c1
  try clear p1
  try clear q1
  try clear hx1
  try clear p2
  try clear c4
  try clear c7
  try clear c7b0
  try clear c8
  try clear c8b0
  try clear c9
  try clear c9b0
  try clear c9b1
  try clear hx187_0
  try clear hx187_1
  try clear hx187_2
  try clear hx187_3
  try clear hx188_0
  try clear hx188_1
  try clear hx188_2
  try clear hx188_3
  try clear p187
  try clear p188
  try clear q187
  try clear q188
  obtain ⟨kq, x24_4, rfl, HA, HJ4, BK186, HB⟩ := hcut
  cases kq with
  | zero => exact absurd HA.out (by simp [spec_catcher.j0])
  | succ kj4 =>
   have H := HA.out
   clear HA
   simp only [spec_catcher.j0] at H
   by_cases c10 : x24_4 = true
   ·subst c10
    have H1 : (some a2) = some r := by rw [if_pos rfl] at H; exact H
    clear H
    have H := H1
    clear H1
    obtain rfl := Option.some.inj H
    go_wp2
    go_ret
    exact ⟨q0, q48⟩
   ·replace c10 := Bool.eq_false_iff.mpr c10
    subst c10
    have H1 : (if 0 ≤ a2 then (if a2 < (l1.length : Int) then (if ((rd_T52 l1 a2).f1) = 7 then ((spec_chainOf.f kj4 l1 a2).bind fun t190 => (spec_catcher.l0 kj4 l1 a3 t190 1 l0_0)) else (some (-1))) else (none)) else (none)) = some r := by rw [if_neg (show ¬ (false = true) by decide)] at H; exact H
    clear H
    have H := H1
    clear H1
    by_cases c11 : 0 ≤ a2
    ·rw [if_pos c11] at H
     have c11b0 : decide (0 ≤ a2) = true := decide_eq_true c11
     clear c11
     by_cases c12 : a2 < (l1.length : Int)
     ·rw [if_pos c12] at H
      have c12b0 : decide (a2 < (l1.length : Int)) = true := decide_eq_true c12
      clear c12
      by_cases c13 : ((rd_T52 l1 a2).f1) = 7
      ·rw [if_pos c13] at H
       have c13b0 : (((rd_T52 l1 a2).f1) == 7) = true := beq_iff_eq.mpr c13
       have c13b1 : (((rd_T52 l1 a2).f1) != 7) = false := bne_eq_false_iff_eq.mpr c13
       clear c13
       replace H := Option.bind_eq_some_iff.mp H
       obtain ⟨t190, A140, H⟩ := H
       replace H : (spec_catcher.l0 kj4 l1 a3 t190 1 l0_0) = some r := H
       have A14 := am A140
       clear A140
       have H' := am H
       clear H
       have p189 : 0 ≤ (a2 : Int) := of_decide_eq_true (uq)
       have q189 : a2 < (l1.length : Int) := of_decide_eq_true (uq)
       obtain ⟨ad189, e189, hx189_0, hx189_1, hx189_2, hx189_3⟩ := at_T52 HR1.out a2 p189 q189
       cases e189
       replace hx189_0 := cb HB.out hx189_0
       replace hx189_1 := cb HB.out hx189_1
       replace hx189_2 := cb HB.out hx189_2
       replace hx189_3 := cb HB.out hx189_3
       replace p189 := eq_true p189
       replace q189 := eq_true q189
       go_wp2_with (first | ((with_reducible refine gate_callee (f := 73) rfl ?_); refine goesL_ (some 34) rfl rfl Try.func73 (by kernel_rfl) rfl #[.slice (some ad189) l1.length c1, .int .i64 a2] rfl (aq) ?_; (with_reducible refine (spec_chainOf.calls kj4 _ _ l1 a2 t190 _ ?side1 ?side2 A14.out).mono ?_); (case side1 => exact cq (Kd.C_below HR1.out HB.out)); (case side2 => exact HC1.out); rintro e w15 ⟨v191, rfl, ho0, hb⟩; refine ⟨_, rfl, ?_⟩; have HO192 := am (Kd.R_lower ho0 (below_size (q48))); replace BK186 := am (blk_below (g := gb186) (o := .cells #[.slice A0_0 l0_0.length c0_0] 32 (0, 0)) (kq BK186.out) hb); replace HB := am (below_step (q48) hb); (try clear hb); (try clear hb2); (try clear hk); (try clear hi); (try clear ho0)))
       go_loopg [10] kj4 (fun kq v10 w' => ∃ (x10_2 : Int), v10 = .int .i64 x10_2 ∧ Aside0 (spec_catcher.l0 kq l1 a3 t190 x10_2 l0_0 = some r) ∧ Aside0 (kq ≤ kj4) ∧ Aside0 (Kd.R (Kd.int .i64) 3 w' w.heap.size (fun _ => True) v191 t190) ∧ Aside0 (w'.heap[gb186]? = some (.cells #[(.slice A0_0 l0_0.length c0_0)] 32 (0, 0))) ∧ Aside0 (Below w.heap.size w w'))
       case atStart => exact ⟨(1), (sq), H', ⟨Nat.le_refl _⟩, ⟨rq HO192.out⟩, ⟨kq BK186.out⟩, ⟨q48⟩⟩
       case round =>
        clear H'
        try clear c1
        try clear p1
        try clear q1
        try clear hx1
        try clear p2
        try clear c4
        try clear c7
        try clear c7b0
        try clear c8
        try clear c8b0
        try clear c9
        try clear c9b0
        try clear c9b1
        try clear c10
        try clear c11
        try clear c11b0
        try clear c12
        try clear c12b0
        try clear c13
        try clear c13b0
        try clear c13b1
        try clear hx187_0
        try clear hx187_1
        try clear hx187_2
        try clear hx187_3
        try clear hx188_0
        try clear hx188_1
        try clear hx188_2
        try clear hx188_3
        try clear hx189_0
        try clear hx189_1
        try clear hx189_2
        try clear hx189_3
        try clear p1
        try clear p187
        try clear p188
        try clear p189
        try clear p2
        try clear q1
        try clear q187
        try clear q188
        try clear q189
        obtain ⟨x10_2, rfl, HA, HK2, HO_9, BK186, HB⟩ := hrel
        cases gk with
        | zero => exact absurd HA.out (by simp [spec_catcher.l0])
        | succ k2 =>
         have H := HA.out
         clear HA
         simp only [spec_catcher.l0] at H
         by_cases c16 : x10_2 < (t190.length : Int)
         ·rw [if_pos c16] at H
          have c16b0 : decide (x10_2 < (t190.length : Int)) = true := decide_eq_true c16
          clear c16
          by_cases c17 : 0 ≤ x10_2
          ·rw [if_pos c17] at H
           have c17b0 : decide (0 ≤ x10_2) = true := decide_eq_true c17
           clear c17
           by_cases c18 : 0 ≤ (rd t190 x10_2)
           ·rw [if_pos c18] at H
            have c18b0 : decide (0 ≤ (rd t190 x10_2)) = true := decide_eq_true c18
            clear c18
            by_cases c19 : (rd t190 x10_2) < (l1.length : Int)
            ·rw [if_pos c19] at H
             have c19b0 : decide ((rd t190 x10_2) < (l1.length : Int)) = true := decide_eq_true c19
             clear c19
             by_cases c20 : ((rd_T52 l1 (rd t190 x10_2)).f1) = 8
             ·rw [if_pos c20] at H
              have c20b0 : (((rd_T52 l1 (rd t190 x10_2)).f1) == 8) = true := beq_iff_eq.mpr c20
              have c20b1 : (((rd_T52 l1 (rd t190 x10_2)).f1) != 8) = false := bne_eq_false_iff_eq.mpr c20
              clear c20
              replace H := Option.bind_eq_some_iff.mp H
              obtain ⟨t197, A210, H⟩ := H
              replace H : (if t197 = true then (some (rd t190 x10_2)) else (spec_catcher.l0 k2 l1 a3 t190 (wrap64 (x10_2 + 1)) l0_0)) = some r := H
              have A21 := am A210
              clear A210
              by_cases c22 : t197 = true
              ·subst c22
               have H1 : (some (rd t190 x10_2)) = some r := by rw [if_pos rfl] at H; exact H
               clear H
               have H := H1
               clear H1
               obtain rfl := Option.some.inj H
               obtain ⟨Ao23, co23, eo23⟩ := Kd.R_slice HO_9.out
               subst eo23
               try go_wp2
               have n0_ := am (Kd.R_drew HO_9.out)
               have n1_ := am (blk_drew BK186.out)
               have n2_ := am (below_drew1 HB.out)
               clear HO_9
               clear BK186
               clear HB
               have HO_9 := n0_
               have BK186 := n1_
               have HB := n2_
               clear n0_ n1_ n2_
               have p193 : 0 ≤ (x10_2 : Int) := of_decide_eq_true (uq)
               have q193 : x10_2 < (t190.length : Int) := of_decide_eq_true (uq)
               obtain ⟨ad193, e193, hx193_0⟩ := Kd.at_int (Kd.R_reads' HO_9.out).2.2 x10_2 p193 q193
               cases e193
               replace p193 := eq_true p193
               replace q193 := eq_true q193
               have p194 : 0 ≤ ((rd t190 x10_2) : Int) := of_decide_eq_true (uq)
               have q194 : (rd t190 x10_2) < (l1.length : Int) := of_decide_eq_true (uq)
               obtain ⟨ad194, e194, hx194_0, hx194_1, hx194_2, hx194_3⟩ := at_T52 HR1.out (rd t190 x10_2) p194 q194
               have hw194_3 := hx194_3
               have hw194_2 := hx194_2
               have hw194_1 := hx194_1
               have hw194_0 := hx194_0
               obtain rfl : ad189 = ad194 := (by injection e194)
               replace hx194_0 := cb HB.out hx194_0
               replace hx194_1 := cb HB.out hx194_1
               replace hx194_2 := cb HB.out hx194_2
               replace hx194_3 := cb HB.out hx194_3
               replace p194 := eq_true p194
               replace q194 := eq_true q194
               have p195 : 0 ≤ (x10_2 : Int) := of_decide_eq_true (uq)
               have q195 : x10_2 < (t190.length : Int) := of_decide_eq_true (uq)
               obtain ⟨ad195, e195, hx195_0⟩ := Kd.at_int (Kd.R_reads' HO_9.out).2.2 x10_2 p195 q195
               obtain rfl : ad193 = ad195 := (by injection e195)
               replace p195 := eq_true p195
               replace q195 := eq_true q195
               have p196 : 0 ≤ ((rd t190 x10_2) : Int) := of_decide_eq_true (uq)
               have q196 : (rd t190 x10_2) < (l1.length : Int) := of_decide_eq_true (uq)
               obtain ⟨ad196, e196, hx196_0, hx196_1, hx196_2, hx196_3⟩ := at_T52 HR1.out (rd t190 x10_2) p196 q196
               have hw196_3 := hx196_3
               have hw196_2 := hx196_2
               have hw196_1 := hx196_1
               have hw196_0 := hx196_0
               obtain rfl : ad189 = ad196 := (by injection e196)
               replace hx196_0 := cb HB.out hx196_0
               replace hx196_1 := cb HB.out hx196_1
               replace hx196_2 := cb HB.out hx196_2
               replace hx196_3 := cb HB.out hx196_3
               replace p196 := eq_true p196
               replace q196 := eq_true q196
               refine start_ (n := 22) (S := fun w' => w'.cell? ⟨gb186, 0, none⟩ = some (.slice A0_0 l0_0.length c0_0) ∧ w'.cell? (ad193.add (x10_2).toNat) = some (.int .i64 (rd t190 x10_2)) ∧ w'.cell? (ad189.add (((rd t190 x10_2)).toNat * 4)) = some (.int .i64 ((rd_T52 l1 (rd t190 x10_2)).f0)) ∧ w'.cell? ⟨(ad189.add (((rd t190 x10_2)).toNat * 4)).block, (ad189.add (((rd t190 x10_2)).toNat * 4)).off + 1, none⟩ = some (.int .i64 ((rd_T52 l1 (rd t190 x10_2)).f1)) ∧ w'.cell? ⟨(ad189.add (((rd t190 x10_2)).toNat * 4)).block, (ad189.add (((rd t190 x10_2)).toNat * 4)).off + 2, none⟩ = some (.int .i64 ((rd_T52 l1 (rd t190 x10_2)).f2)) ∧ w'.cell? ⟨(ad189.add (((rd t190 x10_2)).toNat * 4)).block, (ad189.add (((rd t190 x10_2)).toNat * 4)).off + 3, none⟩ = some (.int .i64 ((rd_T52 l1 (rd t190 x10_2)).f3)) ∧ w'.cell? (ad193.add (x10_2).toNat) = some (.int .i64 (rd t190 x10_2)) ∧ w'.cell? (ad189.add (((rd t190 x10_2)).toNat * 4)) = some (.int .i64 ((rd_T52 l1 (rd t190 x10_2)).f0)) ∧ w'.cell? ⟨(ad189.add (((rd t190 x10_2)).toNat * 4)).block, (ad189.add (((rd t190 x10_2)).toNat * 4)).off + 1, none⟩ = some (.int .i64 ((rd_T52 l1 (rd t190 x10_2)).f1)) ∧ w'.cell? ⟨(ad189.add (((rd t190 x10_2)).toNat * 4)).block, (ad189.add (((rd t190 x10_2)).toNat * 4)).off + 2, none⟩ = some (.int .i64 ((rd_T52 l1 (rd t190 x10_2)).f2)) ∧ w'.cell? ⟨(ad189.add (((rd t190 x10_2)).toNat * 4)).block, (ad189.add (((rd t190 x10_2)).toNat * 4)).off + 3, none⟩ = some (.int .i64 ((rd_T52 l1 (rd t190 x10_2)).f3))) (ds := []) #[false, false, false, false, false, false, false, false, false, false, false, false, false, false, false, false, false, false, false, false, false, false] (by kernel_rfl) rfl rfl ⟨(blk_cell BK186.out 0).trans rfl, hx193_0, ((HB.out.cell (World.block_lt_of_cell? w _ hw194_0)).trans hw194_0), ((HB.out.cell (World.block_lt_of_cell? w _ hw194_1)).trans hw194_1), ((HB.out.cell (World.block_lt_of_cell? w _ hw194_2)).trans hw194_2), ((HB.out.cell (World.block_lt_of_cell? w _ hw194_3)).trans hw194_3), hx195_0, ((HB.out.cell (World.block_lt_of_cell? w _ hw196_0)).trans hw196_0), ((HB.out.cell (World.block_lt_of_cell? w _ hw196_1)).trans hw196_1), ((HB.out.cell (World.block_lt_of_cell? w _ hw196_2)).trans hw196_2), ((HB.out.cell (World.block_lt_of_cell? w _ hw196_3)).trans hw196_3)⟩ (fun hHeld => ?_); refine with_tabW spec_catcher.tab9 spec_catcher.bits9 (fun HT_ HW_ => ?_)
               generalize wr.drew = w24 at HO_9 BK186 HB hx193_0 hx194_0 hx194_1 hx194_2 hx194_3 hx195_0 hx196_0 hx196_1 hx196_2 hx196_3 hHeld ⊢
               refine pure_ (i := 0) (N := some 41) (v := ?_) (a' := ?_) #[true, false, false, false, false, false, false, false, false, false, false, false, false, false, false, false, false, false, false, false, false, false] rfl rfl (any_of HT_.out (by kernel_rfl)) (fun _ _ _ h => h) (Or.inl ⟨by rfl, ?_⟩) ?_ ?_
               rotate_left
               ·intro w'
                go_simp
                with_reducible rfl
               rotate_left
               ·simp only [Act.put, List.setIfInBounds_toArray, List.set_cons_zero, List.set_cons_succ, i64_w, i32_w]
                rfl
               refine pure_ (i := 1) (N := some 42) (v := ?_) (a' := ?_) #[true, true, false, false, false, false, false, false, false, false, false, false, false, false, false, false, false, false, false, false, false, false] rfl rfl (any_of HT_.out (by kernel_rfl)) (fun _ _ _ h => h) (Or.inl ⟨by rfl, ?_⟩) ?_ ?_
               rotate_left
               ·intro w'
                go_simp
                with_reducible rfl
               rotate_left
               ·simp only [Act.put, List.setIfInBounds_toArray, List.set_cons_zero, List.set_cons_succ, i64_w, i32_w]
                rfl
               refine pure_ (i := 2) (N := some 43) (v := ?_) (a' := ?_) #[true, true, true, false, false, false, false, false, false, false, false, false, false, false, false, false, false, false, false, false, false, false] rfl rfl (any_of HT_.out (by kernel_rfl)) (fun _ _ _ h => h) (Or.inl ⟨by rfl, ?_⟩) ?_ ?_
               rotate_left
               ·intro w'
                go_simp
                with_reducible rfl
               rotate_left
               ·simp only [Act.put, List.setIfInBounds_toArray, List.set_cons_zero, List.set_cons_succ, i64_w, i32_w]
                rfl
               refine pure_ (i := 3) (N := some 44) (v := ?_) (a' := ?_) #[true, true, true, true, false, false, false, false, false, false, false, false, false, false, false, false, false, false, false, false, false, false] rfl rfl (any_of HT_.out (by kernel_rfl)) (fun _ _ _ h => h) (Or.inl ⟨by rfl, ?_⟩) ?_ ?_
               rotate_left
               ·intro w'
                go_simp
                with_reducible rfl
               rotate_left
               ·simp only [Act.put, List.setIfInBounds_toArray, List.set_cons_zero, List.set_cons_succ, i64_w, i32_w]
                rfl
               refine take_ (i := 4) (N := some 45) (v := ?_) (a' := ?_) #[true, true, true, true, true, false, false, false, false, false, false, false, false, false, false, false, false, false, false, false, false, false] rfl rfl (take_ofW HT_.out HW_.out (by kernel_rfl)) (fun _ _ _ h => h) (Or.inl ⟨by rfl, ?_⟩) hHeld ?_ ?_
               rotate_left
               ·rintro w' ⟨s0, s1, s2, s3, s4, s5, s6, s7, s8, s9, s10⟩
                go_simp
                with_reducible rfl
               rotate_left
               ·simp only [Act.put, List.setIfInBounds_toArray, List.set_cons_zero, List.set_cons_succ, i64_w, i32_w]
                rfl
               refine pure_ (i := 5) (N := some 46) (v := ?_) (a' := ?_) #[true, true, true, true, true, true, false, false, false, false, false, false, false, false, false, false, false, false, false, false, false, false] rfl rfl (any_of HT_.out (by kernel_rfl)) (fun _ _ _ h => h) (Or.inl ⟨by rfl, ?_⟩) ?_ ?_
               rotate_left
               ·intro w'
                go_simp
                with_reducible rfl
               rotate_left
               ·simp only [Act.put, List.setIfInBounds_toArray, List.set_cons_zero, List.set_cons_succ, i64_w, i32_w]
                rfl
               refine pure_ (i := 6) (N := some 47) (v := ?_) (a' := ?_) #[true, true, true, true, true, true, true, false, false, false, false, false, false, false, false, false, false, false, false, false, false, false] rfl rfl (any_of HT_.out (by kernel_rfl)) (fun _ _ _ h => h) (Or.inl ⟨by rfl, ?_⟩) ?_ ?_
               rotate_left
               ·intro w'
                go_simp
                with_reducible rfl
               rotate_left
               ·simp only [Act.put, List.setIfInBounds_toArray, List.set_cons_zero, List.set_cons_succ, i64_w, i32_w]
                rfl
               refine take_ (i := 7) (N := some 48) (v := ?_) (a' := ?_) #[true, true, true, true, true, true, true, true, false, false, false, false, false, false, false, false, false, false, false, false, false, false] rfl rfl (take_ofW HT_.out HW_.out (by kernel_rfl)) (fun _ _ _ h => h) (Or.inl ⟨by rfl, ?_⟩) hHeld ?_ ?_
               rotate_left
               ·rintro w' ⟨s0, s1, s2, s3, s4, s5, s6, s7, s8, s9, s10⟩
                go_simp
                with_reducible rfl
               rotate_left
               ·simp only [Act.put, List.setIfInBounds_toArray, List.set_cons_zero, List.set_cons_succ, i64_w, i32_w]
                rfl
               refine pure_ (i := 8) (N := some 49) (v := ?_) (a' := ?_) #[true, true, true, true, true, true, true, true, true, false, false, false, false, false, false, false, false, false, false, false, false, false] rfl rfl (any_of HT_.out (by kernel_rfl)) (fun _ _ _ h => h) (Or.inl ⟨by rfl, ?_⟩) ?_ ?_
               rotate_left
               ·intro w'
                go_simp
                with_reducible rfl
               rotate_left
               ·simp only [Act.put, List.setIfInBounds_toArray, List.set_cons_zero, List.set_cons_succ, i64_w, i32_w]
                rfl
               refine pure_ (i := 9) (N := some 50) (v := ?_) (a' := ?_) #[true, true, true, true, true, true, true, true, true, true, false, false, false, false, false, false, false, false, false, false, false, false] rfl rfl (any_of HT_.out (by kernel_rfl)) (fun _ _ _ h => h) (Or.inl ⟨by rfl, ?_⟩) ?_ ?_
               rotate_left
               ·intro w'
                go_simp
                with_reducible rfl
               rotate_left
               ·simp only [Act.put, List.setIfInBounds_toArray, List.set_cons_zero, List.set_cons_succ, i64_w, i32_w]
                rfl
               refine pure_ (i := 11) (N := some 52) (v := ?_) (a' := ?_) #[true, true, true, true, true, true, true, true, true, true, false, true, false, false, false, false, false, false, false, false, false, false] rfl rfl (any_of HT_.out (by kernel_rfl)) (fun _ _ _ h => h) (Or.inl ⟨by rfl, ?_⟩) ?_ ?_
               rotate_left
               ·intro w'
                go_simp
                with_reducible rfl
               rotate_left
               ·simp only [Act.put, List.setIfInBounds_toArray, List.set_cons_zero, List.set_cons_succ, i64_w, i32_w]
                rfl
               refine pure_ (i := 12) (N := some 53) (v := ?_) (a' := ?_) #[true, true, true, true, true, true, true, true, true, true, false, true, true, false, false, false, false, false, false, false, false, false] rfl rfl (any_of HT_.out (by kernel_rfl)) (fun _ _ _ h => h) (Or.inl ⟨by rfl, ?_⟩) ?_ ?_
               rotate_left
               ·intro w'
                go_simp
                with_reducible rfl
               rotate_left
               ·simp only [Act.put, List.setIfInBounds_toArray, List.set_cons_zero, List.set_cons_succ, i64_w, i32_w]
                rfl
               refine pure_ (i := 13) (N := some 54) (v := ?_) (a' := ?_) #[true, true, true, true, true, true, true, true, true, true, false, true, true, true, false, false, false, false, false, false, false, false] rfl rfl (any_of HT_.out (by kernel_rfl)) (fun _ _ _ h => h) (Or.inl ⟨by rfl, ?_⟩) ?_ ?_
               rotate_left
               ·intro w'
                go_simp
                with_reducible rfl
               rotate_left
               ·simp only [Act.put, List.setIfInBounds_toArray, List.set_cons_zero, List.set_cons_succ, i64_w, i32_w]
                rfl
               refine pure_ (i := 14) (N := some 55) (v := ?_) (a' := ?_) #[true, true, true, true, true, true, true, true, true, true, false, true, true, true, true, false, false, false, false, false, false, false] rfl rfl (any_of HT_.out (by kernel_rfl)) (fun _ _ _ h => h) (Or.inl ⟨by rfl, ?_⟩) ?_ ?_
               rotate_left
               ·intro w'
                go_simp
                with_reducible rfl
               rotate_left
               ·simp only [Act.put, List.setIfInBounds_toArray, List.set_cons_zero, List.set_cons_succ, i64_w, i32_w]
                rfl
               refine pure_ (i := 15) (N := some 56) (v := ?_) (a' := ?_) #[true, true, true, true, true, true, true, true, true, true, false, true, true, true, true, true, false, false, false, false, false, false] rfl rfl (any_of HT_.out (by kernel_rfl)) (fun _ _ _ h => h) (Or.inl ⟨by rfl, ?_⟩) ?_ ?_
               rotate_left
               ·intro w'
                go_simp
                with_reducible rfl
               rotate_left
               ·simp only [Act.put, List.setIfInBounds_toArray, List.set_cons_zero, List.set_cons_succ, i64_w, i32_w]
                rfl
               refine take_ (i := 10) (N := some 51) (v := ?_) (a' := ?_) #[true, true, true, true, true, true, true, true, true, true, true, true, true, true, true, true, false, false, false, false, false, false] rfl rfl (take_ofW HT_.out HW_.out (by kernel_rfl)) (fun _ _ _ h => h) (Or.inl ⟨by rfl, ?_⟩) hHeld ?_ ?_
               rotate_left
               ·rintro w' ⟨s0, s1, s2, s3, s4, s5, s6, s7, s8, s9, s10⟩
                go_simp
                with_reducible rfl
               rotate_left
               ·simp only [Act.put, List.setIfInBounds_toArray, List.set_cons_zero, List.set_cons_succ, i64_w, i32_w]
                rfl
               refine take_ (i := 16) (N := some 57) (v := ?_) (a' := ?_) #[true, true, true, true, true, true, true, true, true, true, true, true, true, true, true, true, true, false, false, false, false, false] rfl rfl (take_ofW HT_.out HW_.out (by kernel_rfl)) (fun _ _ _ h => h) (Or.inl ⟨by rfl, ?_⟩) hHeld ?_ ?_
               rotate_left
               ·rintro w' ⟨s0, s1, s2, s3, s4, s5, s6, s7, s8, s9, s10⟩
                go_simp
                with_reducible rfl
               rotate_left
               ·simp only [Act.put, List.setIfInBounds_toArray, List.set_cons_zero, List.set_cons_succ, i64_w, i32_w]
                rfl
               refine pure_ (i := 17) (N := some 58) (v := ?_) (a' := ?_) #[true, true, true, true, true, true, true, true, true, true, true, true, true, true, true, true, true, true, false, false, false, false] rfl rfl (any_of HT_.out (by kernel_rfl)) (fun _ _ _ h => h) (Or.inl ⟨by rfl, ?_⟩) ?_ ?_
               rotate_left
               ·intro w'
                go_simp
                with_reducible rfl
               rotate_left
               ·simp only [Act.put, List.setIfInBounds_toArray, List.set_cons_zero, List.set_cons_succ, i64_w, i32_w]
                rfl
               refine pure_ (i := 18) (N := some 59) (v := ?_) (a' := ?_) #[true, true, true, true, true, true, true, true, true, true, true, true, true, true, true, true, true, true, true, false, false, false] rfl rfl (any_of HT_.out (by kernel_rfl)) (fun _ _ _ h => h) (Or.inl ⟨by rfl, ?_⟩) ?_ ?_
               rotate_left
               ·intro w'
                go_simp
                with_reducible rfl
               rotate_left
               ·simp only [Act.put, List.setIfInBounds_toArray, List.set_cons_zero, List.set_cons_succ, i64_w, i32_w]
                rfl
               refine take_ (i := 19) (N := some 60) (v := ?_) (a' := ?_) #[true, true, true, true, true, true, true, true, true, true, true, true, true, true, true, true, true, true, true, true, false, false] rfl rfl (take_ofW HT_.out HW_.out (by kernel_rfl)) (fun _ _ _ h => h) (Or.inl ⟨by rfl, ?_⟩) hHeld ?_ ?_
               rotate_left
               ·rintro w' ⟨s0, s1, s2, s3, s4, s5, s6, s7, s8, s9, s10⟩
                go_simp
                with_reducible rfl
               rotate_left
               ·simp only [Act.put, List.setIfInBounds_toArray, List.set_cons_zero, List.set_cons_succ, i64_w, i32_w]
                rfl
               refine one_ (i := 20) (N := some 61) #[true, true, true, true, true, true, true, true, true, true, true, true, true, true, true, true, true, true, true, true, true, false] rfl rfl (one_of HT_.out (by kernel_rfl)) (by decide) (fun K hK => ?_)
               refine goes_ Try.func77 (by kernel_rfl) rfl #[.agg #[.slice A0_0 l0_0.length c0_0], .int .i64 a3, .int .i64 ((rd_T52 l1 (rd t190 x10_2)).f2)] (by rfl) rfl rfl (aq) ?_
               with_reducible refine (spec_isA.calls k2 _ _ l0_0 a3 ((rd_T52 l1 (rd t190 x10_2)).f2) true _ ?side1 ?side2 A21.out).mono ?_
               (case side1 => exact cq (Kd.C_below HR0_0.out HB.out))
               (case side2 => exact HC0_0.out)
               rintro e w25 ⟨rfl, hb⟩
               have HS1_ := (hb.cell (World.block_lt_of_cell? _ _ (hHeld.2.1))).trans (hHeld.2.1)
               have HS6_ := (hb.cell (World.block_lt_of_cell? _ _ (hHeld.2.2.2.2.2.2.1))).trans (hHeld.2.2.2.2.2.2.1)
               refine ⟨_, rfl, ?_⟩
               have n0_ := am (Kd.R_below (rq HO_9.out) hb)
               have n1_ := am (blk_below (g := gb186) (o := .cells #[.slice A0_0 l0_0.length c0_0] 32 (0, 0)) (kq BK186.out) hb)
               have n2_ := am (below_step (q48) hb)
               clear HO_9
               clear BK186
               clear HB
               have HO_9 := n0_
               have BK186 := n1_
               have HB := n2_
               clear n0_ n1_ n2_
               (try clear hb)
               (try clear hb2)
               (try clear hk)
               (try clear hi)
               refine hK.out _ _ ⟨(blk_cell BK186.out 0).trans rfl, HS1_, ((HB.out.cell (World.block_lt_of_cell? w _ hw194_0)).trans hw194_0), ((HB.out.cell (World.block_lt_of_cell? w _ hw194_1)).trans hw194_1), ((HB.out.cell (World.block_lt_of_cell? w _ hw194_2)).trans hw194_2), ((HB.out.cell (World.block_lt_of_cell? w _ hw194_3)).trans hw194_3), HS6_, ((HB.out.cell (World.block_lt_of_cell? w _ hw196_0)).trans hw196_0), ((HB.out.cell (World.block_lt_of_cell? w _ hw196_1)).trans hw196_1), ((HB.out.cell (World.block_lt_of_cell? w _ hw196_2)).trans hw196_2), ((HB.out.cell (World.block_lt_of_cell? w _ hw196_3)).trans hw196_3)⟩ (fun hHeld => ?_)
               clear hK K
               refine norm_ (a' := ?_) ?_ ?_
               rotate_left
               ·show Act.put _ (some 61) _ = _
                simp only [Act.put, List.setIfInBounds_toArray, List.set_cons_zero, List.set_cons_succ, i64_w, i32_w]
                rfl
               refine pure_ (i := 21) (N := some 62) (v := ?_) (a' := ?_) #[true, true, true, true, true, true, true, true, true, true, true, true, true, true, true, true, true, true, true, true, true, true] rfl rfl (any_of HT_.out (by kernel_rfl)) (fun _ _ _ h => h) (Or.inl ⟨by rfl, ?_⟩) ?_ ?_
               rotate_left
               ·intro w'
                go_simp
                with_reducible rfl
               rotate_left
               ·simp only [Act.put, List.setIfInBounds_toArray, List.set_cons_zero, List.set_cons_succ, i64_w, i32_w]
                rfl
               refine done_ (done_of HT_.out (by kernel_rfl)) ?_
               have p198 : 0 ≤ (x10_2 : Int) := of_decide_eq_true (uq)
               have q198 : x10_2 < (t190.length : Int) := of_decide_eq_true (uq)
               obtain ⟨ad198, e198, hx198_0⟩ := Kd.at_int (Kd.R_reads' HO_9.out).2.2 x10_2 p198 q198
               obtain rfl : ad193 = ad198 := (by injection e198)
               replace p198 := eq_true p198
               replace q198 := eq_true q198
               try go_wp2
               go_ret
               exact ⟨q0, q48⟩
              ·replace c22 := Bool.eq_false_iff.mpr c22
               subst c22
               have H1 : (spec_catcher.l0 k2 l1 a3 t190 (wrap64 (x10_2 + 1)) l0_0) = some r := by rw [if_neg (show ¬ (false = true) by decide)] at H; exact H
               clear H
               have H := H1
               clear H1
               have H' := am H
               clear H
               obtain ⟨Ao26, co26, eo26⟩ := Kd.R_slice HO_9.out
               subst eo26
               try go_wp2
               have n0_ := am (Kd.R_drew HO_9.out)
               have n1_ := am (blk_drew BK186.out)
               have n2_ := am (below_drew1 HB.out)
               clear HO_9
               clear BK186
               clear HB
               have HO_9 := n0_
               have BK186 := n1_
               have HB := n2_
               clear n0_ n1_ n2_
               have p193 : 0 ≤ (x10_2 : Int) := of_decide_eq_true (uq)
               have q193 : x10_2 < (t190.length : Int) := of_decide_eq_true (uq)
               obtain ⟨ad193, e193, hx193_0⟩ := Kd.at_int (Kd.R_reads' HO_9.out).2.2 x10_2 p193 q193
               cases e193
               replace p193 := eq_true p193
               replace q193 := eq_true q193
               have p194 : 0 ≤ ((rd t190 x10_2) : Int) := of_decide_eq_true (uq)
               have q194 : (rd t190 x10_2) < (l1.length : Int) := of_decide_eq_true (uq)
               obtain ⟨ad194, e194, hx194_0, hx194_1, hx194_2, hx194_3⟩ := at_T52 HR1.out (rd t190 x10_2) p194 q194
               have hw194_3 := hx194_3
               have hw194_2 := hx194_2
               have hw194_1 := hx194_1
               have hw194_0 := hx194_0
               obtain rfl : ad189 = ad194 := (by injection e194)
               replace hx194_0 := cb HB.out hx194_0
               replace hx194_1 := cb HB.out hx194_1
               replace hx194_2 := cb HB.out hx194_2
               replace hx194_3 := cb HB.out hx194_3
               replace p194 := eq_true p194
               replace q194 := eq_true q194
               have p195 : 0 ≤ (x10_2 : Int) := of_decide_eq_true (uq)
               have q195 : x10_2 < (t190.length : Int) := of_decide_eq_true (uq)
               obtain ⟨ad195, e195, hx195_0⟩ := Kd.at_int (Kd.R_reads' HO_9.out).2.2 x10_2 p195 q195
               obtain rfl : ad193 = ad195 := (by injection e195)
               replace p195 := eq_true p195
               replace q195 := eq_true q195
               have p196 : 0 ≤ ((rd t190 x10_2) : Int) := of_decide_eq_true (uq)
               have q196 : (rd t190 x10_2) < (l1.length : Int) := of_decide_eq_true (uq)
               obtain ⟨ad196, e196, hx196_0, hx196_1, hx196_2, hx196_3⟩ := at_T52 HR1.out (rd t190 x10_2) p196 q196
               have hw196_3 := hx196_3
               have hw196_2 := hx196_2
               have hw196_1 := hx196_1
               have hw196_0 := hx196_0
               obtain rfl : ad189 = ad196 := (by injection e196)
               replace hx196_0 := cb HB.out hx196_0
               replace hx196_1 := cb HB.out hx196_1
               replace hx196_2 := cb HB.out hx196_2
               replace hx196_3 := cb HB.out hx196_3
               replace p196 := eq_true p196
               replace q196 := eq_true q196
               refine start_ (n := 22) (S := fun w' => w'.cell? ⟨gb186, 0, none⟩ = some (.slice A0_0 l0_0.length c0_0) ∧ w'.cell? (ad193.add (x10_2).toNat) = some (.int .i64 (rd t190 x10_2)) ∧ w'.cell? (ad189.add (((rd t190 x10_2)).toNat * 4)) = some (.int .i64 ((rd_T52 l1 (rd t190 x10_2)).f0)) ∧ w'.cell? ⟨(ad189.add (((rd t190 x10_2)).toNat * 4)).block, (ad189.add (((rd t190 x10_2)).toNat * 4)).off + 1, none⟩ = some (.int .i64 ((rd_T52 l1 (rd t190 x10_2)).f1)) ∧ w'.cell? ⟨(ad189.add (((rd t190 x10_2)).toNat * 4)).block, (ad189.add (((rd t190 x10_2)).toNat * 4)).off + 2, none⟩ = some (.int .i64 ((rd_T52 l1 (rd t190 x10_2)).f2)) ∧ w'.cell? ⟨(ad189.add (((rd t190 x10_2)).toNat * 4)).block, (ad189.add (((rd t190 x10_2)).toNat * 4)).off + 3, none⟩ = some (.int .i64 ((rd_T52 l1 (rd t190 x10_2)).f3)) ∧ w'.cell? (ad193.add (x10_2).toNat) = some (.int .i64 (rd t190 x10_2)) ∧ w'.cell? (ad189.add (((rd t190 x10_2)).toNat * 4)) = some (.int .i64 ((rd_T52 l1 (rd t190 x10_2)).f0)) ∧ w'.cell? ⟨(ad189.add (((rd t190 x10_2)).toNat * 4)).block, (ad189.add (((rd t190 x10_2)).toNat * 4)).off + 1, none⟩ = some (.int .i64 ((rd_T52 l1 (rd t190 x10_2)).f1)) ∧ w'.cell? ⟨(ad189.add (((rd t190 x10_2)).toNat * 4)).block, (ad189.add (((rd t190 x10_2)).toNat * 4)).off + 2, none⟩ = some (.int .i64 ((rd_T52 l1 (rd t190 x10_2)).f2)) ∧ w'.cell? ⟨(ad189.add (((rd t190 x10_2)).toNat * 4)).block, (ad189.add (((rd t190 x10_2)).toNat * 4)).off + 3, none⟩ = some (.int .i64 ((rd_T52 l1 (rd t190 x10_2)).f3))) (ds := []) #[false, false, false, false, false, false, false, false, false, false, false, false, false, false, false, false, false, false, false, false, false, false] (by kernel_rfl) rfl rfl ⟨(blk_cell BK186.out 0).trans rfl, hx193_0, ((HB.out.cell (World.block_lt_of_cell? w _ hw194_0)).trans hw194_0), ((HB.out.cell (World.block_lt_of_cell? w _ hw194_1)).trans hw194_1), ((HB.out.cell (World.block_lt_of_cell? w _ hw194_2)).trans hw194_2), ((HB.out.cell (World.block_lt_of_cell? w _ hw194_3)).trans hw194_3), hx195_0, ((HB.out.cell (World.block_lt_of_cell? w _ hw196_0)).trans hw196_0), ((HB.out.cell (World.block_lt_of_cell? w _ hw196_1)).trans hw196_1), ((HB.out.cell (World.block_lt_of_cell? w _ hw196_2)).trans hw196_2), ((HB.out.cell (World.block_lt_of_cell? w _ hw196_3)).trans hw196_3)⟩ (fun hHeld => ?_); refine with_tabW spec_catcher.tab9 spec_catcher.bits9 (fun HT_ HW_ => ?_)
               generalize wr.drew = w27 at HO_9 BK186 HB hx193_0 hx194_0 hx194_1 hx194_2 hx194_3 hx195_0 hx196_0 hx196_1 hx196_2 hx196_3 hHeld ⊢
               refine pure_ (i := 0) (N := some 41) (v := ?_) (a' := ?_) #[true, false, false, false, false, false, false, false, false, false, false, false, false, false, false, false, false, false, false, false, false, false] rfl rfl (any_of HT_.out (by kernel_rfl)) (fun _ _ _ h => h) (Or.inl ⟨by rfl, ?_⟩) ?_ ?_
               rotate_left
               ·intro w'
                go_simp
                with_reducible rfl
               rotate_left
               ·simp only [Act.put, List.setIfInBounds_toArray, List.set_cons_zero, List.set_cons_succ, i64_w, i32_w]
                rfl
               refine pure_ (i := 1) (N := some 42) (v := ?_) (a' := ?_) #[true, true, false, false, false, false, false, false, false, false, false, false, false, false, false, false, false, false, false, false, false, false] rfl rfl (any_of HT_.out (by kernel_rfl)) (fun _ _ _ h => h) (Or.inl ⟨by rfl, ?_⟩) ?_ ?_
               rotate_left
               ·intro w'
                go_simp
                with_reducible rfl
               rotate_left
               ·simp only [Act.put, List.setIfInBounds_toArray, List.set_cons_zero, List.set_cons_succ, i64_w, i32_w]
                rfl
               refine pure_ (i := 2) (N := some 43) (v := ?_) (a' := ?_) #[true, true, true, false, false, false, false, false, false, false, false, false, false, false, false, false, false, false, false, false, false, false] rfl rfl (any_of HT_.out (by kernel_rfl)) (fun _ _ _ h => h) (Or.inl ⟨by rfl, ?_⟩) ?_ ?_
               rotate_left
               ·intro w'
                go_simp
                with_reducible rfl
               rotate_left
               ·simp only [Act.put, List.setIfInBounds_toArray, List.set_cons_zero, List.set_cons_succ, i64_w, i32_w]
                rfl
               refine pure_ (i := 3) (N := some 44) (v := ?_) (a' := ?_) #[true, true, true, true, false, false, false, false, false, false, false, false, false, false, false, false, false, false, false, false, false, false] rfl rfl (any_of HT_.out (by kernel_rfl)) (fun _ _ _ h => h) (Or.inl ⟨by rfl, ?_⟩) ?_ ?_
               rotate_left
               ·intro w'
                go_simp
                with_reducible rfl
               rotate_left
               ·simp only [Act.put, List.setIfInBounds_toArray, List.set_cons_zero, List.set_cons_succ, i64_w, i32_w]
                rfl
               refine take_ (i := 4) (N := some 45) (v := ?_) (a' := ?_) #[true, true, true, true, true, false, false, false, false, false, false, false, false, false, false, false, false, false, false, false, false, false] rfl rfl (take_ofW HT_.out HW_.out (by kernel_rfl)) (fun _ _ _ h => h) (Or.inl ⟨by rfl, ?_⟩) hHeld ?_ ?_
               rotate_left
               ·rintro w' ⟨s0, s1, s2, s3, s4, s5, s6, s7, s8, s9, s10⟩
                go_simp
                with_reducible rfl
               rotate_left
               ·simp only [Act.put, List.setIfInBounds_toArray, List.set_cons_zero, List.set_cons_succ, i64_w, i32_w]
                rfl
               refine pure_ (i := 5) (N := some 46) (v := ?_) (a' := ?_) #[true, true, true, true, true, true, false, false, false, false, false, false, false, false, false, false, false, false, false, false, false, false] rfl rfl (any_of HT_.out (by kernel_rfl)) (fun _ _ _ h => h) (Or.inl ⟨by rfl, ?_⟩) ?_ ?_
               rotate_left
               ·intro w'
                go_simp
                with_reducible rfl
               rotate_left
               ·simp only [Act.put, List.setIfInBounds_toArray, List.set_cons_zero, List.set_cons_succ, i64_w, i32_w]
                rfl
               refine pure_ (i := 6) (N := some 47) (v := ?_) (a' := ?_) #[true, true, true, true, true, true, true, false, false, false, false, false, false, false, false, false, false, false, false, false, false, false] rfl rfl (any_of HT_.out (by kernel_rfl)) (fun _ _ _ h => h) (Or.inl ⟨by rfl, ?_⟩) ?_ ?_
               rotate_left
               ·intro w'
                go_simp
                with_reducible rfl
               rotate_left
               ·simp only [Act.put, List.setIfInBounds_toArray, List.set_cons_zero, List.set_cons_succ, i64_w, i32_w]
                rfl
               refine take_ (i := 7) (N := some 48) (v := ?_) (a' := ?_) #[true, true, true, true, true, true, true, true, false, false, false, false, false, false, false, false, false, false, false, false, false, false] rfl rfl (take_ofW HT_.out HW_.out (by kernel_rfl)) (fun _ _ _ h => h) (Or.inl ⟨by rfl, ?_⟩) hHeld ?_ ?_
               rotate_left
               ·rintro w' ⟨s0, s1, s2, s3, s4, s5, s6, s7, s8, s9, s10⟩
                go_simp
                with_reducible rfl
               rotate_left
               ·simp only [Act.put, List.setIfInBounds_toArray, List.set_cons_zero, List.set_cons_succ, i64_w, i32_w]
                rfl
               refine pure_ (i := 8) (N := some 49) (v := ?_) (a' := ?_) #[true, true, true, true, true, true, true, true, true, false, false, false, false, false, false, false, false, false, false, false, false, false] rfl rfl (any_of HT_.out (by kernel_rfl)) (fun _ _ _ h => h) (Or.inl ⟨by rfl, ?_⟩) ?_ ?_
               rotate_left
               ·intro w'
                go_simp
                with_reducible rfl
               rotate_left
               ·simp only [Act.put, List.setIfInBounds_toArray, List.set_cons_zero, List.set_cons_succ, i64_w, i32_w]
                rfl
               refine pure_ (i := 9) (N := some 50) (v := ?_) (a' := ?_) #[true, true, true, true, true, true, true, true, true, true, false, false, false, false, false, false, false, false, false, false, false, false] rfl rfl (any_of HT_.out (by kernel_rfl)) (fun _ _ _ h => h) (Or.inl ⟨by rfl, ?_⟩) ?_ ?_
               rotate_left
               ·intro w'
                go_simp
                with_reducible rfl
               rotate_left
               ·simp only [Act.put, List.setIfInBounds_toArray, List.set_cons_zero, List.set_cons_succ, i64_w, i32_w]
                rfl
               refine pure_ (i := 11) (N := some 52) (v := ?_) (a' := ?_) #[true, true, true, true, true, true, true, true, true, true, false, true, false, false, false, false, false, false, false, false, false, false] rfl rfl (any_of HT_.out (by kernel_rfl)) (fun _ _ _ h => h) (Or.inl ⟨by rfl, ?_⟩) ?_ ?_
               rotate_left
               ·intro w'
                go_simp
                with_reducible rfl
               rotate_left
               ·simp only [Act.put, List.setIfInBounds_toArray, List.set_cons_zero, List.set_cons_succ, i64_w, i32_w]
                rfl
               refine pure_ (i := 12) (N := some 53) (v := ?_) (a' := ?_) #[true, true, true, true, true, true, true, true, true, true, false, true, true, false, false, false, false, false, false, false, false, false] rfl rfl (any_of HT_.out (by kernel_rfl)) (fun _ _ _ h => h) (Or.inl ⟨by rfl, ?_⟩) ?_ ?_
               rotate_left
               ·intro w'
                go_simp
                with_reducible rfl
               rotate_left
               ·simp only [Act.put, List.setIfInBounds_toArray, List.set_cons_zero, List.set_cons_succ, i64_w, i32_w]
                rfl
               refine pure_ (i := 13) (N := some 54) (v := ?_) (a' := ?_) #[true, true, true, true, true, true, true, true, true, true, false, true, true, true, false, false, false, false, false, false, false, false] rfl rfl (any_of HT_.out (by kernel_rfl)) (fun _ _ _ h => h) (Or.inl ⟨by rfl, ?_⟩) ?_ ?_
               rotate_left
               ·intro w'
                go_simp
                with_reducible rfl
               rotate_left
               ·simp only [Act.put, List.setIfInBounds_toArray, List.set_cons_zero, List.set_cons_succ, i64_w, i32_w]
                rfl
               refine pure_ (i := 14) (N := some 55) (v := ?_) (a' := ?_) #[true, true, true, true, true, true, true, true, true, true, false, true, true, true, true, false, false, false, false, false, false, false] rfl rfl (any_of HT_.out (by kernel_rfl)) (fun _ _ _ h => h) (Or.inl ⟨by rfl, ?_⟩) ?_ ?_
               rotate_left
               ·intro w'
                go_simp
                with_reducible rfl
               rotate_left
               ·simp only [Act.put, List.setIfInBounds_toArray, List.set_cons_zero, List.set_cons_succ, i64_w, i32_w]
                rfl
               refine pure_ (i := 15) (N := some 56) (v := ?_) (a' := ?_) #[true, true, true, true, true, true, true, true, true, true, false, true, true, true, true, true, false, false, false, false, false, false] rfl rfl (any_of HT_.out (by kernel_rfl)) (fun _ _ _ h => h) (Or.inl ⟨by rfl, ?_⟩) ?_ ?_
               rotate_left
               ·intro w'
                go_simp
                with_reducible rfl
               rotate_left
               ·simp only [Act.put, List.setIfInBounds_toArray, List.set_cons_zero, List.set_cons_succ, i64_w, i32_w]
                rfl
               refine take_ (i := 10) (N := some 51) (v := ?_) (a' := ?_) #[true, true, true, true, true, true, true, true, true, true, true, true, true, true, true, true, false, false, false, false, false, false] rfl rfl (take_ofW HT_.out HW_.out (by kernel_rfl)) (fun _ _ _ h => h) (Or.inl ⟨by rfl, ?_⟩) hHeld ?_ ?_
               rotate_left
               ·rintro w' ⟨s0, s1, s2, s3, s4, s5, s6, s7, s8, s9, s10⟩
                go_simp
                with_reducible rfl
               rotate_left
               ·simp only [Act.put, List.setIfInBounds_toArray, List.set_cons_zero, List.set_cons_succ, i64_w, i32_w]
                rfl
               refine take_ (i := 16) (N := some 57) (v := ?_) (a' := ?_) #[true, true, true, true, true, true, true, true, true, true, true, true, true, true, true, true, true, false, false, false, false, false] rfl rfl (take_ofW HT_.out HW_.out (by kernel_rfl)) (fun _ _ _ h => h) (Or.inl ⟨by rfl, ?_⟩) hHeld ?_ ?_
               rotate_left
               ·rintro w' ⟨s0, s1, s2, s3, s4, s5, s6, s7, s8, s9, s10⟩
                go_simp
                with_reducible rfl
               rotate_left
               ·simp only [Act.put, List.setIfInBounds_toArray, List.set_cons_zero, List.set_cons_succ, i64_w, i32_w]
                rfl
               refine pure_ (i := 17) (N := some 58) (v := ?_) (a' := ?_) #[true, true, true, true, true, true, true, true, true, true, true, true, true, true, true, true, true, true, false, false, false, false] rfl rfl (any_of HT_.out (by kernel_rfl)) (fun _ _ _ h => h) (Or.inl ⟨by rfl, ?_⟩) ?_ ?_
               rotate_left
               ·intro w'
                go_simp
                with_reducible rfl
               rotate_left
               ·simp only [Act.put, List.setIfInBounds_toArray, List.set_cons_zero, List.set_cons_succ, i64_w, i32_w]
                rfl
               refine pure_ (i := 18) (N := some 59) (v := ?_) (a' := ?_) #[true, true, true, true, true, true, true, true, true, true, true, true, true, true, true, true, true, true, true, false, false, false] rfl rfl (any_of HT_.out (by kernel_rfl)) (fun _ _ _ h => h) (Or.inl ⟨by rfl, ?_⟩) ?_ ?_
               rotate_left
               ·intro w'
                go_simp
                with_reducible rfl
               rotate_left
               ·simp only [Act.put, List.setIfInBounds_toArray, List.set_cons_zero, List.set_cons_succ, i64_w, i32_w]
                rfl
               refine take_ (i := 19) (N := some 60) (v := ?_) (a' := ?_) #[true, true, true, true, true, true, true, true, true, true, true, true, true, true, true, true, true, true, true, true, false, false] rfl rfl (take_ofW HT_.out HW_.out (by kernel_rfl)) (fun _ _ _ h => h) (Or.inl ⟨by rfl, ?_⟩) hHeld ?_ ?_
               rotate_left
               ·rintro w' ⟨s0, s1, s2, s3, s4, s5, s6, s7, s8, s9, s10⟩
                go_simp
                with_reducible rfl
               rotate_left
               ·simp only [Act.put, List.setIfInBounds_toArray, List.set_cons_zero, List.set_cons_succ, i64_w, i32_w]
                rfl
               refine one_ (i := 20) (N := some 61) #[true, true, true, true, true, true, true, true, true, true, true, true, true, true, true, true, true, true, true, true, true, false] rfl rfl (one_of HT_.out (by kernel_rfl)) (by decide) (fun K hK => ?_)
               refine goes_ Try.func77 (by kernel_rfl) rfl #[.agg #[.slice A0_0 l0_0.length c0_0], .int .i64 a3, .int .i64 ((rd_T52 l1 (rd t190 x10_2)).f2)] (by rfl) rfl rfl (aq) ?_
               with_reducible refine (spec_isA.calls k2 _ _ l0_0 a3 ((rd_T52 l1 (rd t190 x10_2)).f2) false _ ?side1 ?side2 A21.out).mono ?_
               (case side1 => exact cq (Kd.C_below HR0_0.out HB.out))
               (case side2 => exact HC0_0.out)
               rintro e w28 ⟨rfl, hb⟩
               have HS1_ := (hb.cell (World.block_lt_of_cell? _ _ (hHeld.2.1))).trans (hHeld.2.1)
               have HS6_ := (hb.cell (World.block_lt_of_cell? _ _ (hHeld.2.2.2.2.2.2.1))).trans (hHeld.2.2.2.2.2.2.1)
               refine ⟨_, rfl, ?_⟩
               have n0_ := am (Kd.R_below (rq HO_9.out) hb)
               have n1_ := am (blk_below (g := gb186) (o := .cells #[.slice A0_0 l0_0.length c0_0] 32 (0, 0)) (kq BK186.out) hb)
               have n2_ := am (below_step (q48) hb)
               clear HO_9
               clear BK186
               clear HB
               have HO_9 := n0_
               have BK186 := n1_
               have HB := n2_
               clear n0_ n1_ n2_
               (try clear hb)
               (try clear hb2)
               (try clear hk)
               (try clear hi)
               refine hK.out _ _ ⟨(blk_cell BK186.out 0).trans rfl, HS1_, ((HB.out.cell (World.block_lt_of_cell? w _ hw194_0)).trans hw194_0), ((HB.out.cell (World.block_lt_of_cell? w _ hw194_1)).trans hw194_1), ((HB.out.cell (World.block_lt_of_cell? w _ hw194_2)).trans hw194_2), ((HB.out.cell (World.block_lt_of_cell? w _ hw194_3)).trans hw194_3), HS6_, ((HB.out.cell (World.block_lt_of_cell? w _ hw196_0)).trans hw196_0), ((HB.out.cell (World.block_lt_of_cell? w _ hw196_1)).trans hw196_1), ((HB.out.cell (World.block_lt_of_cell? w _ hw196_2)).trans hw196_2), ((HB.out.cell (World.block_lt_of_cell? w _ hw196_3)).trans hw196_3)⟩ (fun hHeld => ?_)
               clear hK K
               refine norm_ (a' := ?_) ?_ ?_
               rotate_left
               ·show Act.put _ (some 61) _ = _
                simp only [Act.put, List.setIfInBounds_toArray, List.set_cons_zero, List.set_cons_succ, i64_w, i32_w]
                rfl
               refine pure_ (i := 21) (N := some 62) (v := ?_) (a' := ?_) #[true, true, true, true, true, true, true, true, true, true, true, true, true, true, true, true, true, true, true, true, true, true] rfl rfl (any_of HT_.out (by kernel_rfl)) (fun _ _ _ h => h) (Or.inl ⟨by rfl, ?_⟩) ?_ ?_
               rotate_left
               ·intro w'
                go_simp
                with_reducible rfl
               rotate_left
               ·simp only [Act.put, List.setIfInBounds_toArray, List.set_cons_zero, List.set_cons_succ, i64_w, i32_w]
                rfl
               refine done_ (done_of HT_.out (by kernel_rfl)) ?_
               try go_wp2
               go_roundg k2
               case measure => have := HJ4.out; have := HK2.out; omega
               case rel => exact ⟨(wrap64 (x10_2 + 1)), (sq), H', ⟨by have := HJ4.out; have := HK2.out; omega⟩, ⟨rq HO_9.out⟩, ⟨kq BK186.out⟩, ⟨q48⟩⟩
             ·rw [if_neg c20] at H
              have c20b0 : (((rd_T52 l1 (rd t190 x10_2)).f1) == 8) = false := beq_eq_false_iff_ne.mpr c20
              have c20b1 : (((rd_T52 l1 (rd t190 x10_2)).f1) != 8) = true := bne_iff_ne.mpr c20
              have H' := am H
              clear H
              obtain ⟨Ao29, co29, eo29⟩ := Kd.R_slice HO_9.out
              subst eo29
              try go_wp2
              have n0_ := am (Kd.R_drew HO_9.out)
              have n1_ := am (blk_drew BK186.out)
              have n2_ := am (below_drew1 HB.out)
              clear HO_9
              clear BK186
              clear HB
              have HO_9 := n0_
              have BK186 := n1_
              have HB := n2_
              clear n0_ n1_ n2_
              have p193 : 0 ≤ (x10_2 : Int) := of_decide_eq_true (uq)
              have q193 : x10_2 < (t190.length : Int) := of_decide_eq_true (uq)
              obtain ⟨ad193, e193, hx193_0⟩ := Kd.at_int (Kd.R_reads' HO_9.out).2.2 x10_2 p193 q193
              cases e193
              replace p193 := eq_true p193
              replace q193 := eq_true q193
              have p194 : 0 ≤ ((rd t190 x10_2) : Int) := of_decide_eq_true (uq)
              have q194 : (rd t190 x10_2) < (l1.length : Int) := of_decide_eq_true (uq)
              obtain ⟨ad194, e194, hx194_0, hx194_1, hx194_2, hx194_3⟩ := at_T52 HR1.out (rd t190 x10_2) p194 q194
              have hw194_3 := hx194_3
              have hw194_2 := hx194_2
              have hw194_1 := hx194_1
              have hw194_0 := hx194_0
              obtain rfl : ad189 = ad194 := (by injection e194)
              replace hx194_0 := cb HB.out hx194_0
              replace hx194_1 := cb HB.out hx194_1
              replace hx194_2 := cb HB.out hx194_2
              replace hx194_3 := cb HB.out hx194_3
              replace p194 := eq_true p194
              replace q194 := eq_true q194
              refine start_ (n := 22) (S := fun w' => w'.cell? (ad193.add (x10_2).toNat) = some (.int .i64 (rd t190 x10_2)) ∧ w'.cell? (ad189.add (((rd t190 x10_2)).toNat * 4)) = some (.int .i64 ((rd_T52 l1 (rd t190 x10_2)).f0)) ∧ w'.cell? ⟨(ad189.add (((rd t190 x10_2)).toNat * 4)).block, (ad189.add (((rd t190 x10_2)).toNat * 4)).off + 1, none⟩ = some (.int .i64 ((rd_T52 l1 (rd t190 x10_2)).f1)) ∧ w'.cell? ⟨(ad189.add (((rd t190 x10_2)).toNat * 4)).block, (ad189.add (((rd t190 x10_2)).toNat * 4)).off + 2, none⟩ = some (.int .i64 ((rd_T52 l1 (rd t190 x10_2)).f2)) ∧ w'.cell? ⟨(ad189.add (((rd t190 x10_2)).toNat * 4)).block, (ad189.add (((rd t190 x10_2)).toNat * 4)).off + 3, none⟩ = some (.int .i64 ((rd_T52 l1 (rd t190 x10_2)).f3))) (ds := []) #[false, false, false, false, false, false, false, false, false, false, false, false, false, false, false, false, false, false, false, false, false, false] (by kernel_rfl) rfl rfl ⟨hx193_0, ((HB.out.cell (World.block_lt_of_cell? w _ hw194_0)).trans hw194_0), ((HB.out.cell (World.block_lt_of_cell? w _ hw194_1)).trans hw194_1), ((HB.out.cell (World.block_lt_of_cell? w _ hw194_2)).trans hw194_2), ((HB.out.cell (World.block_lt_of_cell? w _ hw194_3)).trans hw194_3)⟩ (fun hHeld => ?_); refine with_tabW spec_catcher.tab9 spec_catcher.bits9 (fun HT_ HW_ => ?_)
              generalize wr.drew = w30 at HO_9 BK186 HB hx193_0 hx194_0 hx194_1 hx194_2 hx194_3 hHeld ⊢
              refine pure_ (i := 0) (N := some 41) (v := ?_) (a' := ?_) #[true, false, false, false, false, false, false, false, false, false, false, false, false, false, false, false, false, false, false, false, false, false] rfl rfl (any_of HT_.out (by kernel_rfl)) (fun _ _ _ h => h) (Or.inl ⟨by rfl, ?_⟩) ?_ ?_
              rotate_left
              ·intro w'
               go_simp
               with_reducible rfl
              rotate_left
              ·simp only [Act.put, List.setIfInBounds_toArray, List.set_cons_zero, List.set_cons_succ, i64_w, i32_w]
               rfl
              refine pure_ (i := 1) (N := some 42) (v := ?_) (a' := ?_) #[true, true, false, false, false, false, false, false, false, false, false, false, false, false, false, false, false, false, false, false, false, false] rfl rfl (any_of HT_.out (by kernel_rfl)) (fun _ _ _ h => h) (Or.inl ⟨by rfl, ?_⟩) ?_ ?_
              rotate_left
              ·intro w'
               go_simp
               with_reducible rfl
              rotate_left
              ·simp only [Act.put, List.setIfInBounds_toArray, List.set_cons_zero, List.set_cons_succ, i64_w, i32_w]
               rfl
              refine pure_ (i := 2) (N := some 43) (v := ?_) (a' := ?_) #[true, true, true, false, false, false, false, false, false, false, false, false, false, false, false, false, false, false, false, false, false, false] rfl rfl (any_of HT_.out (by kernel_rfl)) (fun _ _ _ h => h) (Or.inl ⟨by rfl, ?_⟩) ?_ ?_
              rotate_left
              ·intro w'
               go_simp
               with_reducible rfl
              rotate_left
              ·simp only [Act.put, List.setIfInBounds_toArray, List.set_cons_zero, List.set_cons_succ, i64_w, i32_w]
               rfl
              refine pure_ (i := 3) (N := some 44) (v := ?_) (a' := ?_) #[true, true, true, true, false, false, false, false, false, false, false, false, false, false, false, false, false, false, false, false, false, false] rfl rfl (any_of HT_.out (by kernel_rfl)) (fun _ _ _ h => h) (Or.inl ⟨by rfl, ?_⟩) ?_ ?_
              rotate_left
              ·intro w'
               go_simp
               with_reducible rfl
              rotate_left
              ·simp only [Act.put, List.setIfInBounds_toArray, List.set_cons_zero, List.set_cons_succ, i64_w, i32_w]
               rfl
              refine take_ (i := 4) (N := some 45) (v := ?_) (a' := ?_) #[true, true, true, true, true, false, false, false, false, false, false, false, false, false, false, false, false, false, false, false, false, false] rfl rfl (take_ofW HT_.out HW_.out (by kernel_rfl)) (fun _ _ _ h => h) (Or.inl ⟨by rfl, ?_⟩) hHeld ?_ ?_
              rotate_left
              ·rintro w' ⟨s0, s1, s2, s3, s4⟩
               go_simp
               with_reducible rfl
              rotate_left
              ·simp only [Act.put, List.setIfInBounds_toArray, List.set_cons_zero, List.set_cons_succ, i64_w, i32_w]
               rfl
              refine pure_ (i := 5) (N := some 46) (v := ?_) (a' := ?_) #[true, true, true, true, true, true, false, false, false, false, false, false, false, false, false, false, false, false, false, false, false, false] rfl rfl (any_of HT_.out (by kernel_rfl)) (fun _ _ _ h => h) (Or.inl ⟨by rfl, ?_⟩) ?_ ?_
              rotate_left
              ·intro w'
               go_simp
               with_reducible rfl
              rotate_left
              ·simp only [Act.put, List.setIfInBounds_toArray, List.set_cons_zero, List.set_cons_succ, i64_w, i32_w]
               rfl
              refine pure_ (i := 6) (N := some 47) (v := ?_) (a' := ?_) #[true, true, true, true, true, true, true, false, false, false, false, false, false, false, false, false, false, false, false, false, false, false] rfl rfl (any_of HT_.out (by kernel_rfl)) (fun _ _ _ h => h) (Or.inl ⟨by rfl, ?_⟩) ?_ ?_
              rotate_left
              ·intro w'
               go_simp
               with_reducible rfl
              rotate_left
              ·simp only [Act.put, List.setIfInBounds_toArray, List.set_cons_zero, List.set_cons_succ, i64_w, i32_w]
               rfl
              refine take_ (i := 7) (N := some 48) (v := ?_) (a' := ?_) #[true, true, true, true, true, true, true, true, false, false, false, false, false, false, false, false, false, false, false, false, false, false] rfl rfl (take_ofW HT_.out HW_.out (by kernel_rfl)) (fun _ _ _ h => h) (Or.inl ⟨by rfl, ?_⟩) hHeld ?_ ?_
              rotate_left
              ·rintro w' ⟨s0, s1, s2, s3, s4⟩
               go_simp
               with_reducible rfl
              rotate_left
              ·simp only [Act.put, List.setIfInBounds_toArray, List.set_cons_zero, List.set_cons_succ, i64_w, i32_w]
               rfl
              refine pure_ (i := 8) (N := some 49) (v := ?_) (a' := ?_) #[true, true, true, true, true, true, true, true, true, false, false, false, false, false, false, false, false, false, false, false, false, false] rfl rfl (any_of HT_.out (by kernel_rfl)) (fun _ _ _ h => h) (Or.inl ⟨by rfl, ?_⟩) ?_ ?_
              rotate_left
              ·intro w'
               go_simp
               with_reducible rfl
              rotate_left
              ·simp only [Act.put, List.setIfInBounds_toArray, List.set_cons_zero, List.set_cons_succ, i64_w, i32_w]
               rfl
              refine pure_ (i := 9) (N := some 50) (v := ?_) (a' := ?_) #[true, true, true, true, true, true, true, true, true, true, false, false, false, false, false, false, false, false, false, false, false, false] rfl rfl (any_of HT_.out (by kernel_rfl)) (fun _ _ _ h => h) (Or.inl ⟨by rfl, ?_⟩) ?_ ?_
              rotate_left
              ·intro w'
               go_simp
               with_reducible rfl
              rotate_left
              ·simp only [Act.put, List.setIfInBounds_toArray, List.set_cons_zero, List.set_cons_succ, i64_w, i32_w]
               rfl
              refine pure_ (i := 10) (N := some 51) (v := undef) (a' := ?_) #[true, true, true, true, true, true, true, true, true, true, true, false, false, false, false, false, false, false, false, false, false, false] rfl rfl (any_of HT_.out (by kernel_rfl)) (fun _ _ _ h => h) (Or.inr ⟨by rfl, rfl⟩) ?_ ?_
              rotate_left
              ·simp only [Act.put, List.setIfInBounds_toArray, List.set_cons_zero, List.set_cons_succ, i64_w, i32_w]
               rfl
              refine pure_ (i := 11) (N := some 52) (v := undef) (a' := ?_) #[true, true, true, true, true, true, true, true, true, true, true, true, false, false, false, false, false, false, false, false, false, false] rfl rfl (any_of HT_.out (by kernel_rfl)) (fun _ _ _ h => h) (Or.inr ⟨by rfl, rfl⟩) ?_ ?_
              rotate_left
              ·simp only [Act.put, List.setIfInBounds_toArray, List.set_cons_zero, List.set_cons_succ, i64_w, i32_w]
               rfl
              refine pure_ (i := 12) (N := some 53) (v := undef) (a' := ?_) #[true, true, true, true, true, true, true, true, true, true, true, true, true, false, false, false, false, false, false, false, false, false] rfl rfl (any_of HT_.out (by kernel_rfl)) (fun _ _ _ h => h) (Or.inr ⟨by rfl, rfl⟩) ?_ ?_
              rotate_left
              ·simp only [Act.put, List.setIfInBounds_toArray, List.set_cons_zero, List.set_cons_succ, i64_w, i32_w]
               rfl
              refine pure_ (i := 13) (N := some 54) (v := undef) (a' := ?_) #[true, true, true, true, true, true, true, true, true, true, true, true, true, true, false, false, false, false, false, false, false, false] rfl rfl (any_of HT_.out (by kernel_rfl)) (fun _ _ _ h => h) (Or.inr ⟨by rfl, rfl⟩) ?_ ?_
              rotate_left
              ·simp only [Act.put, List.setIfInBounds_toArray, List.set_cons_zero, List.set_cons_succ, i64_w, i32_w]
               rfl
              refine pure_ (i := 14) (N := some 55) (v := undef) (a' := ?_) #[true, true, true, true, true, true, true, true, true, true, true, true, true, true, true, false, false, false, false, false, false, false] rfl rfl (any_of HT_.out (by kernel_rfl)) (fun _ _ _ h => h) (Or.inr ⟨by rfl, rfl⟩) ?_ ?_
              rotate_left
              ·simp only [Act.put, List.setIfInBounds_toArray, List.set_cons_zero, List.set_cons_succ, i64_w, i32_w]
               rfl
              refine pure_ (i := 15) (N := some 56) (v := undef) (a' := ?_) #[true, true, true, true, true, true, true, true, true, true, true, true, true, true, true, true, false, false, false, false, false, false] rfl rfl (any_of HT_.out (by kernel_rfl)) (fun _ _ _ h => h) (Or.inr ⟨by rfl, rfl⟩) ?_ ?_
              rotate_left
              ·simp only [Act.put, List.setIfInBounds_toArray, List.set_cons_zero, List.set_cons_succ, i64_w, i32_w]
               rfl
              refine pure_ (i := 16) (N := some 57) (v := undef) (a' := ?_) #[true, true, true, true, true, true, true, true, true, true, true, true, true, true, true, true, true, false, false, false, false, false] rfl rfl (any_of HT_.out (by kernel_rfl)) (fun _ _ _ h => h) (Or.inr ⟨by rfl, rfl⟩) ?_ ?_
              rotate_left
              ·simp only [Act.put, List.setIfInBounds_toArray, List.set_cons_zero, List.set_cons_succ, i64_w, i32_w]
               rfl
              refine pure_ (i := 17) (N := some 58) (v := undef) (a' := ?_) #[true, true, true, true, true, true, true, true, true, true, true, true, true, true, true, true, true, true, false, false, false, false] rfl rfl (any_of HT_.out (by kernel_rfl)) (fun _ _ _ h => h) (Or.inr ⟨by rfl, rfl⟩) ?_ ?_
              rotate_left
              ·simp only [Act.put, List.setIfInBounds_toArray, List.set_cons_zero, List.set_cons_succ, i64_w, i32_w]
               rfl
              refine pure_ (i := 18) (N := some 59) (v := undef) (a' := ?_) #[true, true, true, true, true, true, true, true, true, true, true, true, true, true, true, true, true, true, true, false, false, false] rfl rfl (any_of HT_.out (by kernel_rfl)) (fun _ _ _ h => h) (Or.inr ⟨by rfl, rfl⟩) ?_ ?_
              rotate_left
              ·simp only [Act.put, List.setIfInBounds_toArray, List.set_cons_zero, List.set_cons_succ, i64_w, i32_w]
               rfl
              refine pure_ (i := 19) (N := some 60) (v := undef) (a' := ?_) #[true, true, true, true, true, true, true, true, true, true, true, true, true, true, true, true, true, true, true, true, false, false] rfl rfl (any_of HT_.out (by kernel_rfl)) (fun _ _ _ h => h) (Or.inr ⟨by rfl, rfl⟩) ?_ ?_
              rotate_left
              ·simp only [Act.put, List.setIfInBounds_toArray, List.set_cons_zero, List.set_cons_succ, i64_w, i32_w]
               rfl
              refine pure_ (i := 20) (N := some 61) (v := undef) (a' := ?_) #[true, true, true, true, true, true, true, true, true, true, true, true, true, true, true, true, true, true, true, true, true, false] rfl rfl (any_of HT_.out (by kernel_rfl)) (fun _ _ _ h => h) (Or.inr ⟨by rfl, rfl⟩) ?_ ?_
              rotate_left
              ·simp only [Act.put, List.setIfInBounds_toArray, List.set_cons_zero, List.set_cons_succ, i64_w, i32_w]
               rfl
              refine pure_ (i := 21) (N := some 62) (v := ?_) (a' := ?_) #[true, true, true, true, true, true, true, true, true, true, true, true, true, true, true, true, true, true, true, true, true, true] rfl rfl (any_of HT_.out (by kernel_rfl)) (fun _ _ _ h => h) (Or.inl ⟨by rfl, ?_⟩) ?_ ?_
              rotate_left
              ·intro w'
               go_simp
               with_reducible rfl
              rotate_left
              ·simp only [Act.put, List.setIfInBounds_toArray, List.set_cons_zero, List.set_cons_succ, i64_w, i32_w]
               rfl
              refine done_ (done_of HT_.out (by kernel_rfl)) ?_
              try go_wp2
              go_roundg k2
              case measure => have := HJ4.out; have := HK2.out; omega
              case rel => exact ⟨(wrap64 (x10_2 + 1)), (sq), H', ⟨by have := HJ4.out; have := HK2.out; omega⟩, ⟨rq HO_9.out⟩, ⟨kq BK186.out⟩, ⟨q48⟩⟩
            ·rw [if_neg c19] at H
             exact absurd H (by simp)
           ·rw [if_neg c18] at H
            exact absurd H (by simp)
          ·rw [if_neg c17] at H
           exact absurd H (by simp)
         ·rw [if_neg c16] at H
          have c16b0 : decide (x10_2 < (t190.length : Int)) = false := decide_eq_false c16
          clear c16
          obtain rfl := Option.some.inj H
          obtain ⟨Ao31, co31, eo31⟩ := Kd.R_slice HO_9.out
          subst eo31
          go_wp2
          go_ret
          exact ⟨q0, q48⟩
      ·rw [if_neg c13] at H
       have c13b0 : (((rd_T52 l1 a2).f1) == 7) = false := beq_eq_false_iff_ne.mpr c13
       have c13b1 : (((rd_T52 l1 a2).f1) != 7) = true := bne_iff_ne.mpr c13
       obtain rfl := Option.some.inj H
       have p189 : 0 ≤ (a2 : Int) := of_decide_eq_true (uq)
       have q189 : a2 < (l1.length : Int) := of_decide_eq_true (uq)
       obtain ⟨ad189, e189, hx189_0, hx189_1, hx189_2, hx189_3⟩ := at_T52 HR1.out a2 p189 q189
       cases e189
       replace hx189_0 := cb HB.out hx189_0
       replace hx189_1 := cb HB.out hx189_1
       replace hx189_2 := cb HB.out hx189_2
       replace hx189_3 := cb HB.out hx189_3
       replace p189 := eq_true p189
       replace q189 := eq_true q189
       go_wp2
       go_ret
       exact ⟨q0, q48⟩
     ·rw [if_neg c12] at H
      exact absurd H (by simp)
    ·rw [if_neg c11] at H
     exact absurd H (by simp)
def spec_lastOf.j0 : Nat → List (S52) → Int → Bool → Option (Int)
 | 0, _, _, _ => none
 | k + 1, x0, x1, x27 => if x27 = true then (some (-1)) else ((spec_tryOf.f k x0 x1).bind fun t204 => ((spec_chainOf.f k x0 t204).bind fun t205 => (if 0 ≤ (wrap64 ((t205.length : Int) - 1)) then (if (wrap64 ((t205.length : Int) - 1)) < (t205.length : Int) then (if 0 ≤ (rd t205 (wrap64 ((t205.length : Int) - 1))) then (if (rd t205 (wrap64 ((t205.length : Int) - 1))) < (x0.length : Int) then (if ((rd_T52 x0 (rd t205 (wrap64 ((t205.length : Int) - 1)))).f1) = 10 then (some (rd t205 (wrap64 ((t205.length : Int) - 1)))) else (some (-1))) else (none)) else (none)) else (none)) else (none))))
def spec_lastOf.f (k : Nat) (l0 : List (S52)) (a1 : Int) : Option (Int) := if 0 ≤ a1 then (if a1 < (l0.length : Int) then (if ((rd_T52 l0 a1).f1) = 11 then (some a1) else (if ((rd_T52 l0 a1).f1) = 12 then (spec_lastOf.j0 k l0 a1 true) else (spec_lastOf.j0 k l0 a1 (((rd_T52 l0 a1).f1) == 10)))) else (none)) else (none)
set_option maxHeartbeats 8000000 in
set_option maxRecDepth 100000 in
theorem spec_lastOf.calls (k : Nat) (A0 : Option Addr) (c0 : Nat) (l0 : List (S52)) (a1 : Int) (r : Int) (w : World) (hr0 : Kd.C k52 w A0 l0.length l0) (hc0 : l0.length ≤ c0) (h : spec_lastOf.f k l0 a1 = some r) :
  Calls Try.prog 78 #[.slice A0 l0.length c0, .int .i64 a1] w fun e w' => e = .returned (.int .i64 r) ∧ Below w.heap.size w w' := by
 have HR0 := am hr0
 have HC0 := am hc0
 clear hr0 hc0
 have HB := am (Below.refl w.heap.size w)
 have H : (if 0 ≤ a1 then (if a1 < (l0.length : Int) then (if ((rd_T52 l0 a1).f1) = 11 then (some a1) else (if ((rd_T52 l0 a1).f1) = 12 then (spec_lastOf.j0 k l0 a1 true) else (spec_lastOf.j0 k l0 a1 (((rd_T52 l0 a1).f1) == 10)))) else (none)) else (none)) = some r := h
 clear h
 by_cases c3 : 0 ≤ a1
 ·rw [if_pos c3] at H
  have c3b0 : decide (0 ≤ a1) = true := decide_eq_true c3
  clear c3
  by_cases c4 : a1 < (l0.length : Int)
  ·rw [if_pos c4] at H
   have c4b0 : decide (a1 < (l0.length : Int)) = true := decide_eq_true c4
   clear c4
   by_cases c5 : ((rd_T52 l0 a1).f1) = 11
   ·rw [if_pos c5] at H
    have c5b0 : (((rd_T52 l0 a1).f1) == 11) = true := beq_iff_eq.mpr c5
    have c5b1 : (((rd_T52 l0 a1).f1) != 11) = false := bne_eq_false_iff_eq.mpr c5
    clear c5
    obtain rfl := Option.some.inj H
    have p201 : 0 ≤ (a1 : Int) := of_decide_eq_true (uq)
    have q201 : a1 < (l0.length : Int) := of_decide_eq_true (uq)
    obtain ⟨ad201, e201, hx201_0, hx201_1, hx201_2, hx201_3⟩ := at_T52 HR0.out a1 p201 q201
    cases e201
    replace p201 := eq_true p201
    replace q201 := eq_true q201
    go_enter Try.func78, Try.ntmps78
    go_wp2
    go_ret
    exact ⟨q0, bq⟩
   ·rw [if_neg c5] at H
    have c5b0 : (((rd_T52 l0 a1).f1) == 11) = false := beq_eq_false_iff_ne.mpr c5
    have c5b1 : (((rd_T52 l0 a1).f1) != 11) = true := bne_iff_ne.mpr c5
    have HC6 := am H
    clear H
    have p201 : 0 ≤ (a1 : Int) := of_decide_eq_true (uq)
    have q201 : a1 < (l0.length : Int) := of_decide_eq_true (uq)
    obtain ⟨ad201, e201, hx201_0, hx201_1, hx201_2, hx201_3⟩ := at_T52 HR0.out a1 p201 q201
    cases e201
    replace p201 := eq_true p201
    replace q201 := eq_true q201
    go_enter Try.func78, Try.ntmps78
    go_upto_region 3 with (fail)
    go_cut [27] (fun v27 wc => ∃ (kq : Nat) (x27_5 : Bool), v27 = .bool x27_5 ∧ Aside0 (spec_lastOf.j0 kq l0 a1 x27_5 = some r) ∧ Aside0 (kq ≤ k) ∧ Aside0 (Below w.heap.size w wc))
    case first =>
     have H := HC6.out
     clear HC6
     by_cases c7 : ((rd_T52 l0 a1).f1) = 12
     ·rw [if_pos c7] at H
      have c7b0 : (((rd_T52 l0 a1).f1) == 12) = true := beq_iff_eq.mpr c7
      have c7b1 : (((rd_T52 l0 a1).f1) != 12) = false := bne_eq_false_iff_eq.mpr c7
      clear c7
      (first | rw [c7b0] | (simp only [i64_w, i32_w]; rw [c7b0]) | skip)
      have H' := am H
      clear H
      have p202 : 0 ≤ (a1 : Int) := of_decide_eq_true (uq)
      have q202 : a1 < (l0.length : Int) := of_decide_eq_true (uq)
      obtain ⟨ad202, e202, hx202_0, hx202_1, hx202_2, hx202_3⟩ := at_T52 HR0.out a1 p202 q202
      obtain rfl : ad201 = ad202 := (by injection e202)
      replace hx202_0 := cb HB.out hx202_0
      replace hx202_1 := cb HB.out hx202_1
      replace hx202_2 := cb HB.out hx202_2
      replace hx202_3 := cb HB.out hx202_3
      replace p202 := eq_true p202
      replace q202 := eq_true q202
      go_wp2
      go_meet
      case rel => exact ⟨_, (true), (sq), H', ⟨q16⟩, ⟨bq⟩⟩
     ·rw [if_neg c7] at H
      have c7b0 : (((rd_T52 l0 a1).f1) == 12) = false := beq_eq_false_iff_ne.mpr c7
      have c7b1 : (((rd_T52 l0 a1).f1) != 12) = true := bne_iff_ne.mpr c7
      (first | rw [c7b0] | (simp only [i64_w, i32_w]; rw [c7b0]) | skip)
      have H' := am H
      clear H
      have p202 : 0 ≤ (a1 : Int) := of_decide_eq_true (uq)
      have q202 : a1 < (l0.length : Int) := of_decide_eq_true (uq)
      obtain ⟨ad202, e202, hx202_0, hx202_1, hx202_2, hx202_3⟩ := at_T52 HR0.out a1 p202 q202
      obtain rfl : ad201 = ad202 := (by injection e202)
      replace hx202_0 := cb HB.out hx202_0
      replace hx202_1 := cb HB.out hx202_1
      replace hx202_2 := cb HB.out hx202_2
      replace hx202_3 := cb HB.out hx202_3
      replace p202 := eq_true p202
      replace q202 := eq_true q202
      have p203 : 0 ≤ (a1 : Int) := of_decide_eq_true (uq)
      have q203 : a1 < (l0.length : Int) := of_decide_eq_true (uq)
      obtain ⟨ad203, e203, hx203_0, hx203_1, hx203_2, hx203_3⟩ := at_T52 HR0.out a1 p203 q203
      obtain rfl : ad201 = ad203 := (by injection e203)
      replace hx203_0 := cb HB.out hx203_0
      replace hx203_1 := cb HB.out hx203_1
      replace hx203_2 := cb HB.out hx203_2
      replace hx203_3 := cb HB.out hx203_3
      replace p203 := eq_true p203
      replace q203 := eq_true q203
      go_wp2
      go_meet
      case rel => exact ⟨_, ((((rd_T52 l0 a1).f1) == 10)), (sq), H', ⟨q16⟩, ⟨bq⟩⟩
    case rest =>
     clear HC6
     try clear p2
     try clear q2
     try clear hx2
     try clear c3
     try clear c3b0
     try clear c4
     try clear c4b0
     try clear c5
     try clear c5b0
     try clear c5b1
     try clear c7
     try clear c7b0
     try clear c7b1
     try clear hx201_0
     try clear hx201_1
     try clear hx201_2
     try clear hx201_3
     try clear hx202_0
     try clear hx202_1
     try clear hx202_2
     try clear hx202_3
     try clear hx203_0
     try clear hx203_1
     try clear hx203_2
     try clear hx203_3
     try clear p201
     try clear p202
     try clear p203
     try clear q201
     try clear q202
     try clear q203
     obtain ⟨kq, x27_5, rfl, HA, HJ5, HB⟩ := hcut
     cases kq with
     | zero => exact absurd HA.out (by simp [spec_lastOf.j0])
     | succ kj5 =>
      have H := HA.out
      clear HA
      simp only [spec_lastOf.j0] at H
      by_cases c8 : x27_5 = true
      ·subst c8
       have H1 : (some (-1)) = some r := by rw [if_pos rfl] at H; exact H
       clear H
       have H := H1
       clear H1
       obtain rfl := Option.some.inj H
       go_wp2
       go_ret
       exact ⟨q0, bq⟩
      ·replace c8 := Bool.eq_false_iff.mpr c8
       subst c8
       have H1 : ((spec_tryOf.f kj5 l0 a1).bind fun t204 => ((spec_chainOf.f kj5 l0 t204).bind fun t205 => (if 0 ≤ (wrap64 ((t205.length : Int) - 1)) then (if (wrap64 ((t205.length : Int) - 1)) < (t205.length : Int) then (if 0 ≤ (rd t205 (wrap64 ((t205.length : Int) - 1))) then (if (rd t205 (wrap64 ((t205.length : Int) - 1))) < (l0.length : Int) then (if ((rd_T52 l0 (rd t205 (wrap64 ((t205.length : Int) - 1)))).f1) = 10 then (some (rd t205 (wrap64 ((t205.length : Int) - 1)))) else (some (-1))) else (none)) else (none)) else (none)) else (none)))) = some r := by rw [if_neg (show ¬ (false = true) by decide)] at H; exact H
       clear H
       have H := H1
       clear H1
       replace H := Option.bind_eq_some_iff.mp H
       obtain ⟨t204, A90, H⟩ := H
       replace H : ((spec_chainOf.f kj5 l0 t204).bind fun t205 => (if 0 ≤ (wrap64 ((t205.length : Int) - 1)) then (if (wrap64 ((t205.length : Int) - 1)) < (t205.length : Int) then (if 0 ≤ (rd t205 (wrap64 ((t205.length : Int) - 1))) then (if (rd t205 (wrap64 ((t205.length : Int) - 1))) < (l0.length : Int) then (if ((rd_T52 l0 (rd t205 (wrap64 ((t205.length : Int) - 1)))).f1) = 10 then (some (rd t205 (wrap64 ((t205.length : Int) - 1)))) else (some (-1))) else (none)) else (none)) else (none)) else (none))) = some r := H
       have A9 := am A90
       clear A90
       replace H := Option.bind_eq_some_iff.mp H
       obtain ⟨t205, A100, H⟩ := H
       replace H : (if 0 ≤ (wrap64 ((t205.length : Int) - 1)) then (if (wrap64 ((t205.length : Int) - 1)) < (t205.length : Int) then (if 0 ≤ (rd t205 (wrap64 ((t205.length : Int) - 1))) then (if (rd t205 (wrap64 ((t205.length : Int) - 1))) < (l0.length : Int) then (if ((rd_T52 l0 (rd t205 (wrap64 ((t205.length : Int) - 1)))).f1) = 10 then (some (rd t205 (wrap64 ((t205.length : Int) - 1)))) else (some (-1))) else (none)) else (none)) else (none)) else (none)) = some r := H
       have A10 := am A100
       clear A100
       obtain ⟨ji11, hji11⟩ : ∃ j_ : Int, (wrap64 ((t205.length : Int) - 1)) = j_ := ⟨_, rfl⟩
       replace H : (if 0 ≤ (ji11) then (if (ji11) < (t205.length : Int) then (if 0 ≤ (rd t205 (ji11)) then (if (rd t205 (ji11)) < (l0.length : Int) then (if ((rd_T52 l0 (rd t205 (ji11))).f1) = 10 then (some (rd t205 (ji11))) else (some (-1))) else (none)) else (none)) else (none)) else (none)) = some r := by first | (rw [hji11] at H; exact H) | (simp only [hji11] at H ⊢; exact H)
       (try rw [hji11] at A9)
       (try rw [hji11] at A10)
       have hji11w : (IntKind.i64.wrap ((t205.length : Int) - 1)) = ji11 := (i64_w _).trans hji11
       by_cases c12 : 0 ≤ (ji11)
       ·rw [if_pos c12] at H
        have c12b0 : decide (0 ≤ (ji11)) = true := decide_eq_true c12
        clear c12
        by_cases c13 : (ji11) < (t205.length : Int)
        ·rw [if_pos c13] at H
         have c13b0 : decide ((ji11) < (t205.length : Int)) = true := decide_eq_true c13
         clear c13
         by_cases c14 : 0 ≤ (rd t205 (ji11))
         ·rw [if_pos c14] at H
          have c14b0 : decide (0 ≤ (rd t205 (ji11))) = true := decide_eq_true c14
          clear c14
          by_cases c15 : (rd t205 (ji11)) < (l0.length : Int)
          ·rw [if_pos c15] at H
           have c15b0 : decide ((rd t205 (ji11)) < (l0.length : Int)) = true := decide_eq_true c15
           clear c15
           by_cases c16 : ((rd_T52 l0 (rd t205 (ji11))).f1) = 10
           ·rw [if_pos c16] at H
            have c16b0 : (((rd_T52 l0 (rd t205 (ji11))).f1) == 10) = true := beq_iff_eq.mpr c16
            have c16b1 : (((rd_T52 l0 (rd t205 (ji11))).f1) != 10) = false := bne_eq_false_iff_eq.mpr c16
            clear c16
            obtain rfl := Option.some.inj H
            go_wp2_with (first | ((with_reducible refine gate_callee (f := 74) rfl ?_); refine goesL_ (some 31) rfl rfl Try.func74 (by kernel_rfl) rfl #[.slice (some ad201) l0.length c0, .int .i64 a1] rfl (aq) ?_; (with_reducible refine (spec_tryOf.calls kj5 _ _ l0 a1 t204 _ ?side1 ?side2 A9.out).mono ?_); (case side1 => exact cq (Kd.C_below HR0.out HB.out)); (case side2 => exact HC0.out); rintro e w' ⟨rfl, ⟨nd, rfl⟩⟩; refine ⟨_, rfl, ?_⟩) | ((with_reducible refine gate_callee (f := 73) rfl ?_); refine goesL_ (some 32) rfl rfl Try.func73 (by kernel_rfl) rfl #[.slice (some ad201) l0.length c0, .int .i64 t204] rfl (aq) ?_; (with_reducible refine (spec_chainOf.calls kj5 _ _ l0 t204 t205 _ ?side1 ?side2 A10.out).mono ?_); (case side1 => exact cq (Kd.C_below HR0.out (bq))); (case side2 => exact HC0.out); rintro e w17 ⟨v206, rfl, ho0, hb⟩; refine ⟨_, rfl, ?_⟩; have HO207 := am (Kd.R_lower ho0 (below_size (bq))); replace HB := am (below_step (bq) hb); (try clear hb); (try clear hb2); (try clear hk); (try clear hi); (try clear ho0); obtain ⟨Ao18, co18, eo18⟩ := Kd.R_slice HO207.out; subst eo18; have p208 : 0 ≤ ((ji11) : Int) := of_decide_eq_true (uq); have q208 : (ji11) < (t205.length : Int) := of_decide_eq_true (uq); obtain ⟨ad208, e208, hx208_0⟩ := Kd.at_int (Kd.R_reads' HO207.out).2.2 (ji11) p208 q208; cases e208; replace p208 := eq_true p208; replace q208 := eq_true q208; have p209 : 0 ≤ ((rd t205 (ji11)) : Int) := of_decide_eq_true (uq); have q209 : (rd t205 (ji11)) < (l0.length : Int) := of_decide_eq_true (uq); obtain ⟨ad209, e209, hx209_0, hx209_1, hx209_2, hx209_3⟩ := at_T52 HR0.out (rd t205 (ji11)) p209 q209; obtain rfl : ad201 = ad209 := (by injection e209); replace hx209_0 := cb HB.out hx209_0; replace hx209_1 := cb HB.out hx209_1; replace hx209_2 := cb HB.out hx209_2; replace hx209_3 := cb HB.out hx209_3; replace p209 := eq_true p209; replace q209 := eq_true q209))
            go_ret
            exact ⟨q118, bq⟩
           ·rw [if_neg c16] at H
            have c16b0 : (((rd_T52 l0 (rd t205 (ji11))).f1) == 10) = false := beq_eq_false_iff_ne.mpr c16
            have c16b1 : (((rd_T52 l0 (rd t205 (ji11))).f1) != 10) = true := bne_iff_ne.mpr c16
            obtain rfl := Option.some.inj H
            go_wp2_with (first | ((with_reducible refine gate_callee (f := 74) rfl ?_); refine goesL_ (some 31) rfl rfl Try.func74 (by kernel_rfl) rfl #[.slice (some ad201) l0.length c0, .int .i64 a1] rfl (aq) ?_; (with_reducible refine (spec_tryOf.calls kj5 _ _ l0 a1 t204 _ ?side1 ?side2 A9.out).mono ?_); (case side1 => exact cq (Kd.C_below HR0.out HB.out)); (case side2 => exact HC0.out); rintro e w' ⟨rfl, ⟨nd, rfl⟩⟩; refine ⟨_, rfl, ?_⟩) | ((with_reducible refine gate_callee (f := 73) rfl ?_); refine goesL_ (some 32) rfl rfl Try.func73 (by kernel_rfl) rfl #[.slice (some ad201) l0.length c0, .int .i64 t204] rfl (aq) ?_; (with_reducible refine (spec_chainOf.calls kj5 _ _ l0 t204 t205 _ ?side1 ?side2 A10.out).mono ?_); (case side1 => exact cq (Kd.C_below HR0.out (bq))); (case side2 => exact HC0.out); rintro e w19 ⟨v206, rfl, ho0, hb⟩; refine ⟨_, rfl, ?_⟩; have HO207 := am (Kd.R_lower ho0 (below_size (bq))); replace HB := am (below_step (bq) hb); (try clear hb); (try clear hb2); (try clear hk); (try clear hi); (try clear ho0); obtain ⟨Ao20, co20, eo20⟩ := Kd.R_slice HO207.out; subst eo20; have p208 : 0 ≤ ((ji11) : Int) := of_decide_eq_true (uq); have q208 : (ji11) < (t205.length : Int) := of_decide_eq_true (uq); obtain ⟨ad208, e208, hx208_0⟩ := Kd.at_int (Kd.R_reads' HO207.out).2.2 (ji11) p208 q208; cases e208; replace p208 := eq_true p208; replace q208 := eq_true q208; have p209 : 0 ≤ ((rd t205 (ji11)) : Int) := of_decide_eq_true (uq); have q209 : (rd t205 (ji11)) < (l0.length : Int) := of_decide_eq_true (uq); obtain ⟨ad209, e209, hx209_0, hx209_1, hx209_2, hx209_3⟩ := at_T52 HR0.out (rd t205 (ji11)) p209 q209; obtain rfl : ad201 = ad209 := (by injection e209); replace hx209_0 := cb HB.out hx209_0; replace hx209_1 := cb HB.out hx209_1; replace hx209_2 := cb HB.out hx209_2; replace hx209_3 := cb HB.out hx209_3; replace p209 := eq_true p209; replace q209 := eq_true q209))
            go_ret
            exact ⟨q118, bq⟩
          ·rw [if_neg c15] at H
           exact absurd H (by simp)
         ·rw [if_neg c14] at H
          exact absurd H (by simp)
        ·rw [if_neg c13] at H
         exact absurd H (by simp)
       ·rw [if_neg c12] at H
        exact absurd H (by simp)
  ·rw [if_neg c4] at H
   exact absurd H (by simp)
 ·rw [if_neg c3] at H
  exact absurd H (by simp)
def spec_wayOut.l0 : Nat → List (S52) → List Int → List Int → Int → Option (List Int)
 | 0, _, _, _, _ => none
 | k + 1, x0, x1, x5, x6 => if x6 < (x1.length : Int) then (if 0 ≤ x6 then ((spec_lastOf.f k x0 (rd x1 x6)).bind fun t214 => (if t214 ≥ 0 then (if x5.length < 17592186044416 then (spec_wayOut.l0 k x0 x1 (x5 ++ [t214]) (wrap64 (x6 + 1))) else (none)) else (spec_wayOut.l0 k x0 x1 x5 (wrap64 (x6 + 1))))) else (none)) else (some x5)
def spec_wayOut.f (k : Nat) (l0 : List (S52)) (l1 : List Int) : Option (List Int) := spec_wayOut.l0 k l0 l1 (([] : List Int)) 0
set_option maxHeartbeats 8000000 in
set_option maxRecDepth 100000 in
theorem spec_wayOut.calls (k : Nat) (A0 : Option Addr) (c0 : Nat) (l0 : List (S52)) (A1 : Option Addr) (c1 : Nat) (l1 : List Int) (r : List Int) (w : World) (hr0 : Kd.C k52 w A0 l0.length l0) (hc0 : l0.length ≤ c0) (hr1 : Kd.C (Kd.int .i64) w A1 l1.length l1) (hc1 : l1.length ≤ c1) (h : spec_wayOut.f k l0 l1 = some r) :
  Calls Try.prog 45 #[.slice A0 l0.length c0, .slice A1 l1.length c1] w fun e w' => ∃ v0_ : Value, e = .returned (v0_) ∧ Kd.R (Kd.int .i64) 3 w' w.heap.size (fun _ => True) v0_ r ∧ Below w.heap.size w w' := by
 have HR0 := am hr0
 have HC0 := am hc0
 clear hr0 hc0
 have HR1 := am hr1
 have HC1 := am hc1
 clear hr1 hc1
 have HB := am (Below.refl w.heap.size w)
 have H : (spec_wayOut.l0 k l0 l1 (([] : List Int)) 0) = some r := h
 clear h
 obtain ⟨y210, hy210⟩ : ∃ y_ : List Int, y_ = (([] : List Int)) := ⟨_, rfl⟩
 replace H : (spec_wayOut.l0 k l0 l1 y210 0) = some r := by first | (rw [hy210]; with_reducible exact H) | (have H2_ := (Option.bind_some _ _).symm.trans H; rw [hy210]; with_reducible exact H2_) | (have H2_ := (Option.bind_some _ _).symm.trans H; with_reducible exact H2_) | with_reducible exact H | (rw [hy210]; exact H) | exact H
 have Ny210 := am hy210
 clear hy210
 have H' := am H
 clear H
 go_enter Try.func45, Try.ntmps45
 go_wp2_with (first | ((with_reducible refine gate_dst (N := 8) rfl ?_); refine Kd.R_lit (Kd.int .i64) _ 3 ?hg (N := 8) ?hd (xs := ([] : List Int)) (inner := []) (ok := fun _ => True) (okp := fun _ => True) ?hr ?hp (fun _ hk => hk) trivial (Below.refl _ _) (Nat.le_refl _) (by simp) ?_; (case hd => rfl); (case hg => rfl); (case hr => exact q2); (case hp => exact (Reps.none _ _)); intro v211 w3 ho4 hb hg_ hnew_; clear hg_ hnew_; (first | rw [← Ny210.out] at ho4 | (simp only [Int.reduceToNat] at ho4; rw [← Ny210.out] at ho4)); have HO212 := am (Kd.R_lower ho4 (below_size (bq))); replace HB := am (below_step (bq) hb); clear hb ho4))
 go_loopg [5, 6] k (fun kq v5 v6 w' => ∃ (x5_1 : List Int) (x6_1 : Int), v6 = .int .i64 x6_1 ∧ Aside0 (spec_wayOut.l0 kq l0 l1 x5_1 x6_1 = some r) ∧ Aside0 (kq ≤ k) ∧ Aside0 (Kd.R (Kd.int .i64) 3 w' w.heap.size (fun _ => True) v5 x5_1) ∧ Aside0 (Below w.heap.size w w'))
 case atStart => exact ⟨(y210), (0), (sq), H', ⟨Nat.le_refl _⟩, ⟨rq HO212.out⟩, ⟨bq⟩⟩
 case round =>
  clear H'
  try clear c1
  try clear p2
  try clear c4
  obtain ⟨x5_1, x6_1, rfl, HA, HK1, HO_5, HB⟩ := hrel
  cases gk with
  | zero => exact absurd HA.out (by simp [spec_wayOut.l0])
  | succ k1 =>
   have H := HA.out
   clear HA
   simp only [spec_wayOut.l0] at H
   by_cases c5 : x6_1 < (l1.length : Int)
   ·rw [if_pos c5] at H
    have c5b0 : decide (x6_1 < (l1.length : Int)) = true := decide_eq_true c5
    clear c5
    by_cases c6 : 0 ≤ x6_1
    ·rw [if_pos c6] at H
     have c6b0 : decide (0 ≤ x6_1) = true := decide_eq_true c6
     clear c6
     replace H := Option.bind_eq_some_iff.mp H
     obtain ⟨t214, A70, H⟩ := H
     replace H : (if t214 ≥ 0 then (if x5_1.length < 17592186044416 then (spec_wayOut.l0 k1 l0 l1 (x5_1 ++ [t214]) (wrap64 (x6_1 + 1))) else (none)) else (spec_wayOut.l0 k1 l0 l1 x5_1 (wrap64 (x6_1 + 1)))) = some r := H
     have A7 := am A70
     clear A70
     by_cases c8 : t214 ≥ 0
     ·rw [if_pos c8] at H
      have c8b0 : decide (0 ≤ t214) = true := decide_eq_true c8
      clear c8
      by_cases c9 : x5_1.length < 17592186044416
      ·rw [if_pos c9] at H
       have LMc9 := am c9
       clear c9
       obtain ⟨y215, hy215⟩ : ∃ y_ : List Int, y_ = (x5_1 ++ [t214]) := ⟨_, rfl⟩
       replace H : (spec_wayOut.l0 k1 l0 l1 y215 (wrap64 (x6_1 + 1))) = some r := by first | (rw [hy215]; with_reducible exact H) | (have H2_ := (Option.bind_some _ _).symm.trans H; rw [hy215]; with_reducible exact H2_) | (have H2_ := (Option.bind_some _ _).symm.trans H; with_reducible exact H2_) | with_reducible exact H | (rw [hy215]; exact H) | exact H
       have Ny215 := am hy215
       clear hy215
       have H' := am H
       clear H
       have p213 : 0 ≤ (x6_1 : Int) := of_decide_eq_true (uq)
       have q213 : x6_1 < (l1.length : Int) := of_decide_eq_true (uq)
       obtain ⟨ad213, e213, hx213_0⟩ := Kd.at_int HR1.out x6_1 p213 q213
       cases e213
       replace hx213_0 := cb HB.out hx213_0
       replace p213 := eq_true p213
       replace q213 := eq_true q213
       go_wp2_with (first | ((with_reducible refine gate_callee (f := 78) rfl ?_); refine goesL_ (some 20) rfl rfl Try.func78 (by kernel_rfl) rfl #[.slice A0 l0.length c0, .int .i64 (rd l1 x6_1)] rfl (aq) ?_; (with_reducible refine (spec_lastOf.calls k1 _ _ l0 (rd l1 x6_1) t214 _ ?side1 ?side2 A7.out).mono ?_); (case side1 => exact cq (Kd.C_below HR0.out HB.out)); (case side2 => exact HC0.out); rintro e w10 ⟨rfl, hb⟩; refine ⟨_, rfl, ?_⟩; replace HO_5 := am (Kd.R_below (rq HO_5.out) hb); replace HB := am (below_step (bq) hb); (try clear hb); (try clear hb2); (try clear hk); (try clear hi)) | ((with_reducible refine gate_builtin (b := .append) (xs := #[.tmp 23, .tmp 25]) rfl ?_); at_builtin; refine Kd.R_append (Kd.int .i64) (w0 := w) w.heap.size rfl (.tmp 23) (.tmp 25) 28 3 (.int .i64 0) 8 rfl Try.underlying28 info3 rfl (by decide) (by omega) u5 x5_1 t214 [.int .i64 t214] (fun _ => True) (fun _ => False) rfl rfl ?aP (fun _ hk => hk.elim) ?aF ?aO ?aB ?aS ?aL ?_; (case aP => exact rfl); (case aB => exact (bq)); (case aF => exact (fun _ _ => trivial)); (case aO => exact (rq HO_5.out)); (case aS => exact (below_size (bq))); (case aL => have := LMc9.out; omega); intro v216 w11 ho hb hg hat; rw [← Ny215.out] at ho; have n0_ := am (hb); have n1_ := am (ho); clear HB HO_5; have HB := n0_; have HO217 := n1_; clear n0_ n1_ ho hb hg hat))
       go_roundg k1
       case measure => have := HK1.out; omega
       case rel => exact ⟨(y215), (wrap64 (x6_1 + 1)), (sq), H', ⟨by have := HK1.out; omega⟩, ⟨rq HO217.out⟩, ⟨bq⟩⟩
      ·rw [if_neg c9] at H
       exact absurd H (by simp)
     ·rw [if_neg c8] at H
      have c8b0 : decide (0 ≤ t214) = false := decide_eq_false c8
      clear c8
      have H' := am H
      clear H
      have p213 : 0 ≤ (x6_1 : Int) := of_decide_eq_true (uq)
      have q213 : x6_1 < (l1.length : Int) := of_decide_eq_true (uq)
      obtain ⟨ad213, e213, hx213_0⟩ := Kd.at_int HR1.out x6_1 p213 q213
      cases e213
      replace hx213_0 := cb HB.out hx213_0
      replace p213 := eq_true p213
      replace q213 := eq_true q213
      go_wp2_with (first | ((with_reducible refine gate_callee (f := 78) rfl ?_); refine goesL_ (some 20) rfl rfl Try.func78 (by kernel_rfl) rfl #[.slice A0 l0.length c0, .int .i64 (rd l1 x6_1)] rfl (aq) ?_; (with_reducible refine (spec_lastOf.calls k1 _ _ l0 (rd l1 x6_1) t214 _ ?side1 ?side2 A7.out).mono ?_); (case side1 => exact cq (Kd.C_below HR0.out HB.out)); (case side2 => exact HC0.out); rintro e w12 ⟨rfl, hb⟩; refine ⟨_, rfl, ?_⟩; replace HO_5 := am (Kd.R_below (rq HO_5.out) hb); replace HB := am (below_step (bq) hb); (try clear hb); (try clear hb2); (try clear hk); (try clear hi)))
      go_roundg k1
      case measure => have := HK1.out; omega
      case rel => exact ⟨(x5_1), (wrap64 (x6_1 + 1)), (sq), H', ⟨by have := HK1.out; omega⟩, ⟨rq HO_5.out⟩, ⟨bq⟩⟩
    ·rw [if_neg c6] at H
     exact absurd H (by simp)
   ·rw [if_neg c5] at H
    have c5b0 : decide (x6_1 < (l1.length : Int)) = false := decide_eq_false c5
    clear c5
    obtain rfl := Option.some.inj H
    go_wp2
    go_ret
    exact ⟨_, q0, rq HO_5.out, bq⟩
end Go.Proofs.Ytkokajljeebgdaa.P
end
