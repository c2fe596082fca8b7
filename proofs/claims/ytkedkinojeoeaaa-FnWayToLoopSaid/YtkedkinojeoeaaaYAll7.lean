/- One part of the proofs on this program: functions of the program as plain functions, that the code comes to them, and facts on them. -/
import Derived.Test.YtkedkinojeoeaaaYAll1
import Derived.Test.YtkedkinojeoeaaaYAll6
import Derived.Test.YtkedkinojeoeaaaYWAuto
section
namespace Go.Proofs.Ytkedkinojeoeaaa.P
open Go.RowKit Go.Proofs.YtkedkinojeoeaaaW.PrintWords Go.Proofs.YtkedkinojeoeaaaW.PrintLast Go.Proofs.YtkedkinojeoeaaaW.PrintMore
attribute [local go_sem] jna jla jza jya jda jca jma jka jk
set_option linter.unusedVariables false
set_option linter.unusedSimpArgs false
def jra.j0 : Nat → List (S36) → Int → Bool → Option (List Int)
 | 0, _, _, _ => none
 | k + 1, x1, x2, x17 => if x17 = true then (some ([] : List Int)) else ((jDa.f k x1 x2).bind fun t698 => ((jAa.f k x1 x2 t698).bind fun t699 => (some t699)))
def jra.f (k : Nat) (l0_0 : List (S75)) (l1 : List (S36)) (a2 : Int) : Option (List Int) := (jkb.f k l0_0 l1 a2).bind fun t696 => (if t696 = true then ((jDa.f k l1 a2).bind fun t697 => (jra.j0 k l1 a2 (decide (t697 < 0)))) else (jra.j0 k l1 a2 true))
set_option maxHeartbeats 8000000 in
set_option maxRecDepth 100000 in
theorem jra.calls (k : Nat) (A0_0 : Option Addr) (c0_0 : Nat) (l0_0 : List (S75)) (A1 : Option Addr) (c1 : Nat) (l1 : List (S36)) (a2 : Int) (r : List Int) (w : World) (hr0_0 : Kd.C k75 w A0_0 l0_0.length l0_0) (hc0_0 : l0_0.length ≤ c0_0) (hr1 : Kd.C k36 w A1 l1.length l1) (hc1 : l1.length ≤ c1) (h : jra.f k l0_0 l1 a2 = some r) :
  Calls Try.prog 15 #[.agg #[.slice A0_0 l0_0.length c0_0], .slice A1 l1.length c1, .int .i64 a2] w fun e w' => ∃ v0_ : Value, e = .returned (v0_) ∧ Kd.R (Kd.int .i64) 3 w' w.heap.size (fun _ => True) v0_ r ∧ Below w.heap.size w w' := by
 have hu25 := Try.underlying25
 have HR0_0 := am hr0_0
 have HC0_0 := am hc0_0
 clear hr0_0 hc0_0
 have HR1 := am hr1
 have HC1 := am hc1
 clear hr1 hc1
 have HB := am (Below.refl w.heap.size w)
 have H : ((jkb.f k l0_0 l1 a2).bind fun t696 => (if t696 = true then ((jDa.f k l1 a2).bind fun t697 => (jra.j0 k l1 a2 (decide (t697 < 0)))) else (jra.j0 k l1 a2 true))) = some r := h
 clear h
 have HC4 := am H
 clear H
 go_enter Try.func15, Try.ntmps15
 go_upto_region 1 with (first | ((with_reducible refine jI (N := 3) rfl ?_); refine bE (N := 3) (cs := #[.slice A0_0 l0_0.length c0_0]) (t := 25) ?_; intro gb695 hg w5 hbox hb; have BK695 := am (hbox); have GW695 := am ((Y4 : w.heap.size ≤ gb695)); have GE695 := am ((Y4 : w.heap.size ≤ gb695)); replace HB := am (jf (bq) hb); clear hb hbox hg))
 (try simp only [Act.put, List.setIfInBounds_toArray, List.set_cons_zero, List.set_cons_succ])
 go_cut [17] (fun v17 wc => ∃ (kq : Nat) (x17_3 : Bool), v17 = .bool x17_3 ∧ jo (jra.j0 kq l1 a2 x17_3 = some r) ∧ jo (kq ≤ k) ∧ jo (wc.heap[gb695]? = some (.cells #[(.slice A0_0 l0_0.length c0_0)] 25 (0, 0))) ∧ jo (Below w.heap.size w wc))
 case first =>
  have H := HC4.out
  clear HC4
  replace H := Option.bind_eq_some_iff.mp H
  obtain ⟨t696, A60, H⟩ := H
  replace H : (if t696 = true then ((jDa.f k l1 a2).bind fun t697 => (jra.j0 k l1 a2 (decide (t697 < 0)))) else (jra.j0 k l1 a2 true)) = some r := H
  have A6 := am A60
  clear A60
  by_cases c7 : t696 = true
  ·subst c7
   have H1 : ((jDa.f k l1 a2).bind fun t697 => (jra.j0 k l1 a2 (decide (t697 < 0)))) = some r := by rw [if_pos rfl] at H; exact H
   clear H
   have H := H1
   clear H1
   replace H := Option.bind_eq_some_iff.mp H
   obtain ⟨t697, A80, H⟩ := H
   replace H : (jra.j0 k l1 a2 (decide (t697 < 0))) = some r := H
   have A8 := am A80
   clear A80
   have H' := am H
   clear H
   have hcz9_0 := bc0 BK695.out
   have hfz9_0 := ja BK695.out 0
   go_wp2_with (first | ((with_reducible refine jd (f := 31) rfl ?_); refine gL (some 10) Try.func31 #[.agg #[.slice A0_0 l0_0.length c0_0], .slice A1 l1.length c1, .int .i64 a2] ?_; (with_reducible refine (jkb.calls k _ _ l0_0 _ _ l1 a2 true _ ?side1 ?side2 ?side3 ?side4 A6.out).mono ?_); (case side1 => exact cq (Kd.jU HR0_0.out HB.out)); (case side2 => exact HC0_0.out); (case side3 => exact cq (Kd.jU HR1.out HB.out)); (case side4 => exact HC1.out); rintro e w10 ⟨rfl, hb⟩; refine ⟨_, rfl, ?_⟩; replace BK695 := am (ji (g := gb695) (o := .cells #[.slice A0_0 l0_0.length c0_0] 25 (0, 0)) (kq BK695.out) hb); replace HB := am (jf (Y46) hb); (try clear hb); (try clear hb2); (try clear hk); (try clear hi)) | (go_at_call 44; (with_reducible refine (jDa.calls k _ _ l1 a2 t697 _ ?side1 ?side2 A8.out).mono ?_); (case side1 => exact cq (Kd.jU HR1.out HB.out)); (case side2 => exact HC1.out); rintro e w11 ⟨rfl, hb⟩; replace BK695 := am (ji (g := gb695) (o := .cells #[.slice A0_0 l0_0.length c0_0] 25 (0, 0)) (kq BK695.out) hb); replace HB := am (jf (Y46) hb); (try clear hb); (try clear hb2); (try clear hk); (try clear hi)))
   go_meet
   case rel => exact ⟨_, (decide (t697 < 0)), (sq), H', ⟨Y36⟩, ⟨kq BK695.out⟩, ⟨Y46⟩⟩
  ·replace c7 := Bool.eq_false_iff.mpr c7
   subst c7
   have H1 : (jra.j0 k l1 a2 true) = some r := by rw [if_neg (show ¬ (false = true) by decide)] at H; exact H
   clear H
   have H := H1
   clear H1
   have H' := am H
   clear H
   have hcz12_0 := bc0 BK695.out
   have hfz12_0 := ja BK695.out 0
   go_wp2_with (first | ((with_reducible refine jd (f := 31) rfl ?_); refine gL (some 10) Try.func31 #[.agg #[.slice A0_0 l0_0.length c0_0], .slice A1 l1.length c1, .int .i64 a2] ?_; (with_reducible refine (jkb.calls k _ _ l0_0 _ _ l1 a2 false _ ?side1 ?side2 ?side3 ?side4 A6.out).mono ?_); (case side1 => exact cq (Kd.jU HR0_0.out HB.out)); (case side2 => exact HC0_0.out); (case side3 => exact cq (Kd.jU HR1.out HB.out)); (case side4 => exact HC1.out); rintro e w13 ⟨rfl, hb⟩; refine ⟨_, rfl, ?_⟩; replace BK695 := am (ji (g := gb695) (o := .cells #[.slice A0_0 l0_0.length c0_0] 25 (0, 0)) (kq BK695.out) hb); replace HB := am (jf (Y46) hb); (try clear hb); (try clear hb2); (try clear hk); (try clear hi)))
   go_meet
   case rel => exact ⟨_, (true), (sq), H', ⟨Y36⟩, ⟨kq BK695.out⟩, ⟨Y46⟩⟩
 case rest =>
  clear HC4
  try clear c1
  try clear p2
  try clear c3
  try clear c7
  try clear hcz12_0
  try clear hcz9_0
  try clear hfz12_0
  try clear hfz9_0
  obtain ⟨kq, x17_3, rfl, HA, HJ3, BK695, HB⟩ := hcut
  cases kq with
  | zero => exact absurd HA.out (by simp [jra.j0])
  | succ kj3 =>
   have H := HA.out
   clear HA
   simp only [jra.j0] at H
   by_cases c14 : x17_3 = true
   ·subst c14
    have H1 : (some ([] : List Int)) = some r := by rw [if_pos rfl] at H; exact H
    clear H
    have H := H1
    clear H1
    obtain rfl := Option.some.inj H
    go_wp2
    go_ret
    exact ⟨_, Y0, Y80, Y46⟩
   ·replace c14 := Bool.eq_false_iff.mpr c14
    subst c14
    have H1 : ((jDa.f kj3 l1 a2).bind fun t698 => ((jAa.f kj3 l1 a2 t698).bind fun t699 => (some t699))) = some r := by rw [if_neg (show ¬ (false = true) by decide)] at H; exact H
    clear H
    have H := H1
    clear H1
    replace H := Option.bind_eq_some_iff.mp H
    obtain ⟨t698, A150, H⟩ := H
    replace H : ((jAa.f kj3 l1 a2 t698).bind fun t699 => (some t699)) = some r := H
    have A15 := am A150
    clear A150
    replace H := Option.bind_eq_some_iff.mp H
    obtain ⟨t699, A160, H⟩ := H
    replace H : (some t699) = some r := H
    have A16 := am A160
    clear A160
    obtain rfl := Option.some.inj H
    go_wp2_with (first | ((with_reducible refine jd (f := 44) rfl ?_); refine gL (some 22) Try.func44 #[.slice A1 l1.length c1, .int .i64 a2] ?_; (with_reducible refine (jDa.calls kj3 _ _ l1 a2 t698 _ ?side1 ?side2 A15.out).mono ?_); (case side1 => exact cq (Kd.jU HR1.out HB.out)); (case side2 => exact HC1.out); rintro e w17 ⟨rfl, hb⟩; refine ⟨_, rfl, ?_⟩; replace BK695 := am (ji (g := gb695) (o := .cells #[.slice A0_0 l0_0.length c0_0] 25 (0, 0)) (kq BK695.out) hb); replace HB := am (jf (Y46) hb); (try clear hb); (try clear hb2); (try clear hk); (try clear hi)) | ((with_reducible refine jd (f := 32) rfl ?_); refine gL (some 23) Try.func32 #[.slice A1 l1.length c1, .int .i64 a2, .int .i64 t698] ?_; (with_reducible refine (jAa.calls kj3 _ _ l1 a2 t698 t699 _ ?side1 ?side2 A16.out).mono ?_); (case side1 => exact cq (Kd.jU HR1.out HB.out)); (case side2 => exact HC1.out); rintro e w18 ⟨v700, rfl, ho0, hb⟩; refine ⟨_, rfl, ?_⟩; have HO701 := am (Kd.jR ho0 (jK (Y46))); replace BK695 := am (ji (g := gb695) (o := .cells #[.slice A0_0 l0_0.length c0_0] 25 (0, 0)) (kq BK695.out) hb); replace HB := am (jf (Y46) hb); (try clear hb); (try clear hb2); (try clear hk); (try clear hi); (try clear ho0)))
    go_ret
    exact ⟨_, Y0, rq HO701.out, Y46⟩
def jH.f (a0 : Int) (a1 : Int) (a2 : Int) : Option (Bool) := if a1 ≤ a0 then (some (decide (a0 ≤ a2))) else (some false)
set_option maxHeartbeats 8000000 in
set_option maxRecDepth 100000 in
theorem jH.calls (a0 : Int) (a1 : Int) (a2 : Int) (r : Bool) (w : World) (h : jH.f a0 a1 a2 = some r) :
  Calls Try.prog 61 #[.int .i64 a0, .int .i64 a1, .int .i64 a2] w fun e w' => e = .returned (.bool r) ∧ jnb w w' := by
 have H : (if a1 ≤ a0 then (some (decide (a0 ≤ a2))) else (some false)) = some r := h
 clear h
 by_cases c4 : a1 ≤ a0
 ·rw [if_pos c4] at H
  have c4b0 : decide (a1 ≤ a0) = true := decide_eq_true c4
  clear c4
  obtain rfl := Option.some.inj H
  go_enter Try.func61, Try.ntmps61
  go_wp2
  go_ret
  exact ⟨sq, Y7⟩
 ·rw [if_neg c4] at H
  have c4b0 : decide (a1 ≤ a0) = false := decide_eq_false c4
  clear c4
  obtain rfl := Option.some.inj H
  go_enter Try.func61, Try.ntmps61
  go_wp2
  go_ret
  exact ⟨sq, Y7⟩
def jKb.f (a0 : Int) : Option (Bool) := (jH.f a0 8 10).bind fun t531 => (some t531)
set_option maxHeartbeats 8000000 in
set_option maxRecDepth 100000 in
theorem jKb.calls (a0 : Int) (r : Bool) (w : World) (h : jKb.f a0 = some r) :
  Calls Try.prog 85 #[.int .i64 a0] w fun e w' => e = .returned (.bool r) ∧ jnb w w' := by
 have H : ((jH.f a0 8 10).bind fun t531 => (some t531)) = some r := h
 clear h
 replace H := Option.bind_eq_some_iff.mp H
 obtain ⟨t531, A20, H⟩ := H
 replace H : (some t531) = some r := H
 have A2 := am A20
 clear A20
 obtain rfl := Option.some.inj H
 go_enter Try.func85, Try.ntmps85
 go_wp2_with (first | ((with_reducible refine jd (f := 61) rfl ?_); refine gL (some 4) Try.func61 #[.int .i64 a0, .int .i64 8, .int .i64 10] ?_; (with_reducible refine (jH.calls a0 8 10 t531 _ A2.out).mono ?_); rintro e w' ⟨rfl, ⟨nd, rfl⟩⟩; refine ⟨_, rfl, ?_⟩))
 go_ret
 exact ⟨sq, Y7⟩
def jpb.f (l0_0 : List (S75)) (a1 : Int) : Option (Bool) := (jH.f a1 0 (wrap64 ((l0_0.length : Int) - 1))).bind fun t533 => (some t533)
set_option maxHeartbeats 8000000 in
set_option maxRecDepth 100000 in
theorem jpb.calls (A0_0 : Option Addr) (c0_0 : Nat) (l0_0 : List (S75)) (a1 : Int) (r : Bool) (w : World) (hr0_0 : Kd.C k75 w A0_0 l0_0.length l0_0) (hc0_0 : l0_0.length ≤ c0_0) (h : jpb.f l0_0 a1 = some r) :
  Calls Try.prog 70 #[.agg #[.slice A0_0 l0_0.length c0_0], .int .i64 a1] w fun e w' => e = .returned (.bool r) ∧ Below w.heap.size w w' := by
 have hu25 := Try.underlying25
 have HR0_0 := am hr0_0
 have HC0_0 := am hc0_0
 clear hr0_0 hc0_0
 have HB := am (Below.refl w.heap.size w)
 have H : ((jH.f a1 0 (wrap64 ((l0_0.length : Int) - 1))).bind fun t533 => (some t533)) = some r := h
 clear h
 replace H := Option.bind_eq_some_iff.mp H
 obtain ⟨t533, A30, H⟩ := H
 replace H : (some t533) = some r := H
 have A3 := am A30
 clear A30
 obtain rfl := Option.some.inj H
 go_enter Try.func70, Try.ntmps70
 go_wp2_with (first | ((with_reducible refine jI (N := 2) rfl ?_); refine bE (N := 2) (cs := #[.slice A0_0 l0_0.length c0_0]) (t := 25) ?_; intro gb532 hg w4 hbox hb; have BK532 := am (hbox); have GW532 := am ((Y4 : w.heap.size ≤ gb532)); have GE532 := am ((Y4 : w.heap.size ≤ gb532)); replace HB := am (jf (bq) hb); clear hb hbox hg; have hcz5_0 := bc0 BK532.out; have hfz5_0 := ja BK532.out 0) | ((with_reducible refine jd (f := 61) rfl ?_); refine gL (some 10) Try.func61 #[.int .i64 a1, .int .i64 0, .int .i64 (wrap64 ((l0_0.length : Int) - 1))] ?_; (with_reducible refine (jH.calls a1 0 (wrap64 ((l0_0.length : Int) - 1)) t533 _ A3.out).mono ?_); rintro e w' ⟨rfl, ⟨nd, rfl⟩⟩; refine ⟨_, rfl, ?_⟩))
 go_ret
 exact ⟨Y0, by repeat (first | (with_reducible first | exact HB.out | apply jP | apply jq | apply jQ | refine jM ?_ GE532.out) | exact HB.out)⟩
def jva.l0 : Nat → List (S36) → Int → Int → Option (Int)
 | 0, _, _, _ => none
 | k + 1, x0, x1, x5 => if x5 < (x0.length : Int) then (if 0 ≤ x5 then (if 0 ≤ x1 then (if x1 < (x0.length : Int) then (if ((je x0 x5).f0) > ((je x0 x1).f0) then (jva.l0 k x0 x1 (wrap64 (x5 + 1))) else (some x5)) else (none)) else (none)) else (none)) else (some x5)
def jva.f (k : Nat) (l0 : List (S36)) (a1 : Int) : Option (Int) := jva.l0 k l0 a1 (wrap64 (a1 + 1))
set_option maxHeartbeats 8000000 in
set_option maxRecDepth 100000 in
theorem jva.calls (k : Nat) (A0 : Option Addr) (c0 : Nat) (l0 : List (S36)) (a1 : Int) (r : Int) (w : World) (hr0 : Kd.C k36 w A0 l0.length l0) (hc0 : l0.length ≤ c0) (h : jva.f k l0 a1 = some r) :
  Calls Try.prog 100 #[.slice A0 l0.length c0, .int .i64 a1] w fun e w' => e = .returned (.int .i64 r) ∧ jnb w w' := by
 have HR0 := am hr0
 have HC0 := am hc0
 clear hr0 hc0
 have H : (jva.l0 k l0 a1 (wrap64 (a1 + 1))) = some r := h
 clear h
 have H' := am H
 clear H
 go_enter Try.func100, Try.ntmps100
 go_wp2
 repeat (go_quiet (fail); try go_wp2)
 go_loopg [5] k (fun kq v5 w' => ∃ (x5_1 : Int), v5 = .int .i64 x5_1 ∧ jo (jva.l0 kq l0 a1 x5_1 = some r) ∧ jo (kq ≤ k) ∧ jnb w w')
 case atStart => exact ⟨(wrap64 (a1 + 1)), (sq), H', ⟨Nat.le_refl _⟩, Y7⟩
 case round =>
  clear H'
  try clear c1
  try clear p2
  obtain ⟨x5_1, rfl, HA, HK1, ⟨m1, rfl⟩⟩ := hrel
  cases gk with
  | zero => exact absurd HA.out (by simp [jva.l0])
  | succ k1 =>
   have H := HA.out
   clear HA
   simp only [jva.l0] at H
   by_cases c3 : x5_1 < (l0.length : Int)
   ·rw [if_pos c3] at H
    have c3b0 : decide (x5_1 < (l0.length : Int)) = true := decide_eq_true c3
    clear c3
    by_cases c4 : 0 ≤ x5_1
    ·rw [if_pos c4] at H
     have c4b0 : decide (0 ≤ x5_1) = true := decide_eq_true c4
     clear c4
     by_cases c5 : 0 ≤ a1
     ·rw [if_pos c5] at H
      have c5b0 : decide (0 ≤ a1) = true := decide_eq_true c5
      clear c5
      by_cases c6 : a1 < (l0.length : Int)
      ·rw [if_pos c6] at H
       have c6b0 : decide (a1 < (l0.length : Int)) = true := decide_eq_true c6
       clear c6
       by_cases c7 : ((je l0 x5_1).f0) > ((je l0 a1).f0)
       ·rw [if_pos c7] at H
        have c7b0 : decide (((je l0 a1).f0) < ((je l0 x5_1).f0)) = true := decide_eq_true c7
        clear c7
        have H' := am H
        clear H
        have p545 : 0 ≤ (x5_1 : Int) := of_decide_eq_true (uq)
        have q545 : x5_1 < (l0.length : Int) := of_decide_eq_true (uq)
        obtain ⟨ad545, e545, hx545_0, hx545_1, hx545_2, hx545_3⟩ := jsa HR0.out x5_1 p545 q545
        cases e545
        replace p545 := eq_true p545
        replace q545 := eq_true q545
        have p546 : 0 ≤ (a1 : Int) := of_decide_eq_true (uq)
        have q546 : a1 < (l0.length : Int) := of_decide_eq_true (uq)
        obtain ⟨ad546, e546, hx546_0, hx546_1, hx546_2, hx546_3⟩ := jsa HR0.out a1 p546 q546
        obtain rfl : ad545 = ad546 := (by injection e546)
        replace p546 := eq_true p546
        replace q546 := eq_true q546
        go_wp2
        repeat (go_quiet (fail); try go_wp2)
        go_roundg k1
        case measure => have := HK1.out; omega
        case rel => exact ⟨(wrap64 (x5_1 + 1)), (sq), H', ⟨by have := HK1.out; omega⟩, Y7⟩
       ·rw [if_neg c7] at H
        have c7b0 : decide (((je l0 a1).f0) < ((je l0 x5_1).f0)) = false := decide_eq_false c7
        clear c7
        obtain rfl := Option.some.inj H
        have p545 : 0 ≤ (x5_1 : Int) := of_decide_eq_true (uq)
        have q545 : x5_1 < (l0.length : Int) := of_decide_eq_true (uq)
        obtain ⟨ad545, e545, hx545_0, hx545_1, hx545_2, hx545_3⟩ := jsa HR0.out x5_1 p545 q545
        cases e545
        replace p545 := eq_true p545
        replace q545 := eq_true q545
        have p546 : 0 ≤ (a1 : Int) := of_decide_eq_true (uq)
        have q546 : a1 < (l0.length : Int) := of_decide_eq_true (uq)
        obtain ⟨ad546, e546, hx546_0, hx546_1, hx546_2, hx546_3⟩ := jsa HR0.out a1 p546 q546
        obtain rfl : ad545 = ad546 := (by injection e546)
        replace p546 := eq_true p546
        replace q546 := eq_true q546
        go_wp2
        repeat (go_quiet (fail); try go_wp2)
        go_ret
        exact ⟨sq, Y7⟩
      ·rw [if_neg c6] at H
       exact absurd H (by simp)
     ·rw [if_neg c5] at H
      exact absurd H (by simp)
    ·rw [if_neg c4] at H
     exact absurd H (by simp)
   ·rw [if_neg c3] at H
    have c3b0 : decide (x5_1 < (l0.length : Int)) = false := decide_eq_false c3
    clear c3
    obtain rfl := Option.some.inj H
    go_wp2
    repeat (go_quiet (fail); try go_wp2)
    go_ret
    exact ⟨sq, Y7⟩
def jib.f (k : Nat) (l0 : List (S36)) (a1 : Int) : Option (Int) := (jva.f k l0 a1).bind fun t547 => (if t547 < (l0.length : Int) then (if 0 ≤ t547 then (if 0 ≤ a1 then (if a1 < (l0.length : Int) then (if ((je l0 t547).f0) = ((je l0 a1).f0) then (some t547) else (some (l0.length : Int))) else (none)) else (none)) else (none)) else (some (l0.length : Int)))
set_option maxHeartbeats 8000000 in
set_option maxRecDepth 100000 in
theorem jib.calls (k : Nat) (A0 : Option Addr) (c0 : Nat) (l0 : List (S36)) (a1 : Int) (r : Int) (w : World) (hr0 : Kd.C k36 w A0 l0.length l0) (hc0 : l0.length ≤ c0) (h : jib.f k l0 a1 = some r) :
  Calls Try.prog 84 #[.slice A0 l0.length c0, .int .i64 a1] w fun e w' => e = .returned (.int .i64 r) ∧ jnb w w' := by
 have HR0 := am hr0
 have HC0 := am hc0
 clear hr0 hc0
 have H : ((jva.f k l0 a1).bind fun t547 => (if t547 < (l0.length : Int) then (if 0 ≤ t547 then (if 0 ≤ a1 then (if a1 < (l0.length : Int) then (if ((je l0 t547).f0) = ((je l0 a1).f0) then (some t547) else (some (l0.length : Int))) else (none)) else (none)) else (none)) else (some (l0.length : Int)))) = some r := h
 clear h
 replace H := Option.bind_eq_some_iff.mp H
 obtain ⟨t547, A30, H⟩ := H
 replace H : (if t547 < (l0.length : Int) then (if 0 ≤ t547 then (if 0 ≤ a1 then (if a1 < (l0.length : Int) then (if ((je l0 t547).f0) = ((je l0 a1).f0) then (some t547) else (some (l0.length : Int))) else (none)) else (none)) else (none)) else (some (l0.length : Int))) = some r := H
 have A3 := am A30
 clear A30
 by_cases c4 : t547 < (l0.length : Int)
 ·rw [if_pos c4] at H
  have c4b0 : decide (t547 < (l0.length : Int)) = true := decide_eq_true c4
  clear c4
  by_cases c5 : 0 ≤ t547
  ·rw [if_pos c5] at H
   have c5b0 : decide (0 ≤ t547) = true := decide_eq_true c5
   clear c5
   by_cases c6 : 0 ≤ a1
   ·rw [if_pos c6] at H
    have c6b0 : decide (0 ≤ a1) = true := decide_eq_true c6
    clear c6
    by_cases c7 : a1 < (l0.length : Int)
    ·rw [if_pos c7] at H
     have c7b0 : decide (a1 < (l0.length : Int)) = true := decide_eq_true c7
     clear c7
     by_cases c8 : ((je l0 t547).f0) = ((je l0 a1).f0)
     ·rw [if_pos c8] at H
      have c8b0 : (((je l0 t547).f0) == ((je l0 a1).f0)) = true := beq_iff_eq.mpr c8
      have c8b1 : (((je l0 t547).f0) != ((je l0 a1).f0)) = false := bne_eq_false_iff_eq.mpr c8
      clear c8
      obtain rfl := Option.some.inj H
      go_enter Try.func84, Try.ntmps84
      go_wp2_with (first | (go_at_call 100; (with_reducible refine (jva.calls k _ _ l0 a1 t547 _ ?side1 ?side2 A3.out).mono ?_); (case side1 => exact Y32); (case side2 => exact HC0.out); rintro e w' ⟨rfl, ⟨nd, rfl⟩⟩; (try first | exact ⟨rfl, _, World.drewN_drewN _ _ _⟩ | exact ⟨rfl, _, Eq.trans (World.drewN_drewN _ _ _) (congrArg (World.drewN _) (Nat.add_assoc _ _ _))⟩); have p548 : 0 ≤ (t547 : Int) := of_decide_eq_true (uq); have q548 : t547 < (l0.length : Int) := of_decide_eq_true (uq); obtain ⟨ad548, e548, hx548_0, hx548_1, hx548_2, hx548_3⟩ := jsa HR0.out t547 p548 q548; cases e548; replace p548 := eq_true p548; replace q548 := eq_true q548; have p549 : 0 ≤ (a1 : Int) := of_decide_eq_true (uq); have q549 : a1 < (l0.length : Int) := of_decide_eq_true (uq); obtain ⟨ad549, e549, hx549_0, hx549_1, hx549_2, hx549_3⟩ := jsa HR0.out a1 p549 q549; obtain rfl : ad548 = ad549 := (by injection e549); replace p549 := eq_true p549; replace q549 := eq_true q549))
      repeat (go_quiet (first | (go_at_call 100; (with_reducible refine (jva.calls k _ _ l0 a1 t547 _ ?side1 ?side2 A3.out).mono ?_); (case side1 => exact Y32); (case side2 => exact HC0.out); rintro e w' ⟨rfl, ⟨nd, rfl⟩⟩; (try first | exact ⟨rfl, _, World.drewN_drewN _ _ _⟩ | exact ⟨rfl, _, Eq.trans (World.drewN_drewN _ _ _) (congrArg (World.drewN _) (Nat.add_assoc _ _ _))⟩); have p548 : 0 ≤ (t547 : Int) := of_decide_eq_true (uq); have q548 : t547 < (l0.length : Int) := of_decide_eq_true (uq); obtain ⟨ad548, e548, hx548_0, hx548_1, hx548_2, hx548_3⟩ := jsa HR0.out t547 p548 q548; cases e548; replace p548 := eq_true p548; replace q548 := eq_true q548; have p549 : 0 ≤ (a1 : Int) := of_decide_eq_true (uq); have q549 : a1 < (l0.length : Int) := of_decide_eq_true (uq); obtain ⟨ad549, e549, hx549_0, hx549_1, hx549_2, hx549_3⟩ := jsa HR0.out a1 p549 q549; obtain rfl : ad548 = ad549 := (by injection e549); replace p549 := eq_true p549; replace q549 := eq_true q549)); try go_wp2_with (first | (go_at_call 100; (with_reducible refine (jva.calls k _ _ l0 a1 t547 _ ?side1 ?side2 A3.out).mono ?_); (case side1 => exact Y32); (case side2 => exact HC0.out); rintro e w' ⟨rfl, ⟨nd, rfl⟩⟩; (try first | exact ⟨rfl, _, World.drewN_drewN _ _ _⟩ | exact ⟨rfl, _, Eq.trans (World.drewN_drewN _ _ _) (congrArg (World.drewN _) (Nat.add_assoc _ _ _))⟩); have p548 : 0 ≤ (t547 : Int) := of_decide_eq_true (uq); have q548 : t547 < (l0.length : Int) := of_decide_eq_true (uq); obtain ⟨ad548, e548, hx548_0, hx548_1, hx548_2, hx548_3⟩ := jsa HR0.out t547 p548 q548; cases e548; replace p548 := eq_true p548; replace q548 := eq_true q548; have p549 : 0 ≤ (a1 : Int) := of_decide_eq_true (uq); have q549 : a1 < (l0.length : Int) := of_decide_eq_true (uq); obtain ⟨ad549, e549, hx549_0, hx549_1, hx549_2, hx549_3⟩ := jsa HR0.out a1 p549 q549; obtain rfl : ad548 = ad549 := (by injection e549); replace p549 := eq_true p549; replace q549 := eq_true q549)))
      go_ret
      exact ⟨sq, Y7⟩
     ·rw [if_neg c8] at H
      have c8b0 : (((je l0 t547).f0) == ((je l0 a1).f0)) = false := beq_eq_false_iff_ne.mpr c8
      have c8b1 : (((je l0 t547).f0) != ((je l0 a1).f0)) = true := bne_iff_ne.mpr c8
      obtain rfl := Option.some.inj H
      go_enter Try.func84, Try.ntmps84
      go_wp2_with (first | (go_at_call 100; (with_reducible refine (jva.calls k _ _ l0 a1 t547 _ ?side1 ?side2 A3.out).mono ?_); (case side1 => exact Y32); (case side2 => exact HC0.out); rintro e w' ⟨rfl, ⟨nd, rfl⟩⟩; (try first | exact ⟨rfl, _, World.drewN_drewN _ _ _⟩ | exact ⟨rfl, _, Eq.trans (World.drewN_drewN _ _ _) (congrArg (World.drewN _) (Nat.add_assoc _ _ _))⟩); have p548 : 0 ≤ (t547 : Int) := of_decide_eq_true (uq); have q548 : t547 < (l0.length : Int) := of_decide_eq_true (uq); obtain ⟨ad548, e548, hx548_0, hx548_1, hx548_2, hx548_3⟩ := jsa HR0.out t547 p548 q548; cases e548; replace p548 := eq_true p548; replace q548 := eq_true q548; have p549 : 0 ≤ (a1 : Int) := of_decide_eq_true (uq); have q549 : a1 < (l0.length : Int) := of_decide_eq_true (uq); obtain ⟨ad549, e549, hx549_0, hx549_1, hx549_2, hx549_3⟩ := jsa HR0.out a1 p549 q549; obtain rfl : ad548 = ad549 := (by injection e549); replace p549 := eq_true p549; replace q549 := eq_true q549))
      repeat (go_quiet (first | (go_at_call 100; (with_reducible refine (jva.calls k _ _ l0 a1 t547 _ ?side1 ?side2 A3.out).mono ?_); (case side1 => exact Y32); (case side2 => exact HC0.out); rintro e w' ⟨rfl, ⟨nd, rfl⟩⟩; (try first | exact ⟨rfl, _, World.drewN_drewN _ _ _⟩ | exact ⟨rfl, _, Eq.trans (World.drewN_drewN _ _ _) (congrArg (World.drewN _) (Nat.add_assoc _ _ _))⟩); have p548 : 0 ≤ (t547 : Int) := of_decide_eq_true (uq); have q548 : t547 < (l0.length : Int) := of_decide_eq_true (uq); obtain ⟨ad548, e548, hx548_0, hx548_1, hx548_2, hx548_3⟩ := jsa HR0.out t547 p548 q548; cases e548; replace p548 := eq_true p548; replace q548 := eq_true q548; have p549 : 0 ≤ (a1 : Int) := of_decide_eq_true (uq); have q549 : a1 < (l0.length : Int) := of_decide_eq_true (uq); obtain ⟨ad549, e549, hx549_0, hx549_1, hx549_2, hx549_3⟩ := jsa HR0.out a1 p549 q549; obtain rfl : ad548 = ad549 := (by injection e549); replace p549 := eq_true p549; replace q549 := eq_true q549)); try go_wp2_with (first | (go_at_call 100; (with_reducible refine (jva.calls k _ _ l0 a1 t547 _ ?side1 ?side2 A3.out).mono ?_); (case side1 => exact Y32); (case side2 => exact HC0.out); rintro e w' ⟨rfl, ⟨nd, rfl⟩⟩; (try first | exact ⟨rfl, _, World.drewN_drewN _ _ _⟩ | exact ⟨rfl, _, Eq.trans (World.drewN_drewN _ _ _) (congrArg (World.drewN _) (Nat.add_assoc _ _ _))⟩); have p548 : 0 ≤ (t547 : Int) := of_decide_eq_true (uq); have q548 : t547 < (l0.length : Int) := of_decide_eq_true (uq); obtain ⟨ad548, e548, hx548_0, hx548_1, hx548_2, hx548_3⟩ := jsa HR0.out t547 p548 q548; cases e548; replace p548 := eq_true p548; replace q548 := eq_true q548; have p549 : 0 ≤ (a1 : Int) := of_decide_eq_true (uq); have q549 : a1 < (l0.length : Int) := of_decide_eq_true (uq); obtain ⟨ad549, e549, hx549_0, hx549_1, hx549_2, hx549_3⟩ := jsa HR0.out a1 p549 q549; obtain rfl : ad548 = ad549 := (by injection e549); replace p549 := eq_true p549; replace q549 := eq_true q549)))
      go_ret
      exact ⟨sq, Y7⟩
    ·rw [if_neg c7] at H
     exact absurd H (by simp)
   ·rw [if_neg c6] at H
    exact absurd H (by simp)
  ·rw [if_neg c5] at H
   exact absurd H (by simp)
 ·rw [if_neg c4] at H
  have c4b0 : decide (t547 < (l0.length : Int)) = false := decide_eq_false c4
  clear c4
  obtain rfl := Option.some.inj H
  go_enter Try.func84, Try.ntmps84
  go_wp2_with (first | (go_at_call 100; (with_reducible refine (jva.calls k _ _ l0 a1 t547 _ ?side1 ?side2 A3.out).mono ?_); (case side1 => exact Y32); (case side2 => exact HC0.out); rintro e w' ⟨rfl, ⟨nd, rfl⟩⟩; (try first | exact ⟨rfl, _, World.drewN_drewN _ _ _⟩ | exact ⟨rfl, _, Eq.trans (World.drewN_drewN _ _ _) (congrArg (World.drewN _) (Nat.add_assoc _ _ _))⟩)))
  repeat (go_quiet (first | (go_at_call 100; (with_reducible refine (jva.calls k _ _ l0 a1 t547 _ ?side1 ?side2 A3.out).mono ?_); (case side1 => exact Y32); (case side2 => exact HC0.out); rintro e w' ⟨rfl, ⟨nd, rfl⟩⟩; (try first | exact ⟨rfl, _, World.drewN_drewN _ _ _⟩ | exact ⟨rfl, _, Eq.trans (World.drewN_drewN _ _ _) (congrArg (World.drewN _) (Nat.add_assoc _ _ _))⟩))); try go_wp2_with (first | (go_at_call 100; (with_reducible refine (jva.calls k _ _ l0 a1 t547 _ ?side1 ?side2 A3.out).mono ?_); (case side1 => exact Y32); (case side2 => exact HC0.out); rintro e w' ⟨rfl, ⟨nd, rfl⟩⟩; (try first | exact ⟨rfl, _, World.drewN_drewN _ _ _⟩ | exact ⟨rfl, _, Eq.trans (World.drewN_drewN _ _ _) (congrArg (World.drewN _) (Nat.add_assoc _ _ _))⟩))))
  go_ret
  exact ⟨sq, Y7⟩
def jua.l0 : Nat → List (S36) → List Int → Int → Option (List Int)
 | 0, _, _, _ => none
 | k + 1, x0, x5, x6 => if x6 < (x0.length : Int) then (if 0 ≤ x6 then ((jKb.f ((je x0 x6).f1)).bind fun t555 => (if t555 = true then (if x5.length < 17592186044416 then ((jib.f k x0 x6).bind fun t559 => (jua.l0 k x0 (x5 ++ [x6]) t559)) else (none)) else (some x5))) else (none)) else (some x5)
def jua.f (k : Nat) (l0 : List (S36)) (a1 : Int) : Option (List Int) := (jib.f k l0 a1).bind fun t553 => (jua.l0 k l0 (([a1] : List Int)) t553)
set_option maxHeartbeats 8000000 in
set_option maxRecDepth 100000 in
theorem jua.calls (k : Nat) (A0 : Option Addr) (c0 : Nat) (l0 : List (S36)) (a1 : Int) (r : List Int) (w : World) (hr0 : Kd.C k36 w A0 l0.length l0) (hc0 : l0.length ≤ c0) (h : jua.f k l0 a1 = some r) :
  Calls Try.prog 71 #[.slice A0 l0.length c0, .int .i64 a1] w fun e w' => ∃ v0_ : Value, e = .returned (v0_) ∧ Kd.R (Kd.int .i64) 3 w' w.heap.size (fun _ => True) v0_ r ∧ Below w.heap.size w w' := by
 have HR0 := am hr0
 have HC0 := am hc0
 clear hr0 hc0
 have HB := am (Below.refl w.heap.size w)
 have H : ((jib.f k l0 a1).bind fun t553 => (jua.l0 k l0 (([a1] : List Int)) t553)) = some r := h
 clear h
 obtain ⟨y550, hy550⟩ : ∃ y_ : List Int, y_ = (([a1] : List Int)) := ⟨_, rfl⟩
 replace H : ((jib.f k l0 a1).bind fun t553 => (jua.l0 k l0 y550 t553)) = some r := by first | (rw [hy550]; with_reducible exact H) | (have H2_ := (Option.bind_some _ _).symm.trans H; rw [hy550]; with_reducible exact H2_) | (have H2_ := (Option.bind_some _ _).symm.trans H; with_reducible exact H2_) | with_reducible exact H | (rw [hy550]; exact H) | exact H
 have Ny550 := am hy550
 clear hy550
 replace H := Option.bind_eq_some_iff.mp H
 obtain ⟨t553, A30, H⟩ := H
 replace H : (jua.l0 k l0 y550 t553) = some r := H
 have A3 := am A30
 clear A30
 have H' := am H
 clear H
 go_enter Try.func71, Try.ntmps71
 go_wp2_with (first | ((with_reducible refine jI (N := 8) rfl ?_); refine Kd.jXb (Kd.int .i64) _ 3 ?hg (N := 8) ?hd (xs := ([a1] : List Int)) (inner := [.int .i64 a1]) (ok := fun _ => True) (okp := fun _ => True) ?hr ?hp (fun _ hk => hk) trivial (Below.refl _ _) (Nat.le_refl _) (by simp) ?_; (case hd => rfl); (case hg => rfl); (case hr => exact Y5); (case hp => exact (Reps.one (show Kd.M (Kd.int .i64) _ _ _ a1 [.int .i64 a1] from rfl) (Reps.none _ _))); intro v551 w4 ho5 hb hg_ hnew_; clear hg_ hnew_; (first | rw [← Ny550.out] at ho5 | (simp only [Int.reduceToNat] at ho5; rw [← Ny550.out] at ho5)); have HO552 := am (Kd.jR ho5 (jK (bq))); replace HB := am (jf (bq) hb); clear hb ho5) | ((with_reducible refine jd (f := 84) rfl ?_); refine gL (some 11) Try.func84 #[.slice A0 l0.length c0, .int .i64 a1] ?_; (with_reducible refine (jib.calls k _ _ l0 a1 t553 _ ?side1 ?side2 A3.out).mono ?_); (case side1 => exact cq (Kd.jU HR0.out HB.out)); (case side2 => exact HC0.out); rintro e w' ⟨rfl, ⟨nd, rfl⟩⟩; refine ⟨_, rfl, ?_⟩))
 go_loopg [5, 6] k (fun kq v5 v6 w' => ∃ (x5_1 : List Int) (x6_1 : Int), v6 = .int .i64 x6_1 ∧ jo (jua.l0 kq l0 x5_1 x6_1 = some r) ∧ jo (kq ≤ k) ∧ jo (Kd.R (Kd.int .i64) 3 w' w.heap.size (fun _ => True) v5 x5_1) ∧ jo (Below w.heap.size w w'))
 case atStart => exact ⟨(y550), (t553), (sq), H', ⟨Nat.le_refl _⟩, ⟨rq HO552.out⟩, ⟨bq⟩⟩
 case round =>
  clear H'
  try clear p2
  obtain ⟨x5_1, x6_1, rfl, HA, HK1, HO_5, HB⟩ := hrel
  cases gk with
  | zero => exact absurd HA.out (by simp [jua.l0])
  | succ k1 =>
   have H := HA.out
   clear HA
   simp only [jua.l0] at H
   by_cases c6 : x6_1 < (l0.length : Int)
   ·rw [if_pos c6] at H
    have c6b0 : decide (x6_1 < (l0.length : Int)) = true := decide_eq_true c6
    clear c6
    by_cases c7 : 0 ≤ x6_1
    ·rw [if_pos c7] at H
     have c7b0 : decide (0 ≤ x6_1) = true := decide_eq_true c7
     clear c7
     replace H := Option.bind_eq_some_iff.mp H
     obtain ⟨t555, A80, H⟩ := H
     replace H : (if t555 = true then (if x5_1.length < 17592186044416 then ((jib.f k1 l0 x6_1).bind fun t559 => (jua.l0 k1 l0 (x5_1 ++ [x6_1]) t559)) else (none)) else (some x5_1)) = some r := H
     have A8 := am A80
     clear A80
     by_cases c9 : t555 = true
     ·subst c9
      have H1 : (if x5_1.length < 17592186044416 then ((jib.f k1 l0 x6_1).bind fun t559 => (jua.l0 k1 l0 (x5_1 ++ [x6_1]) t559)) else (none)) = some r := by rw [if_pos rfl] at H; exact H
      clear H
      have H := H1
      clear H1
      by_cases c10 : x5_1.length < 17592186044416
      ·rw [if_pos c10] at H
       have LMc10 := am c10
       clear c10
       obtain ⟨y556, hy556⟩ : ∃ y_ : List Int, y_ = (x5_1 ++ [x6_1]) := ⟨_, rfl⟩
       replace H : ((jib.f k1 l0 x6_1).bind fun t559 => (jua.l0 k1 l0 y556 t559)) = some r := by first | (rw [hy556]; with_reducible exact H) | (have H2_ := (Option.bind_some _ _).symm.trans H; rw [hy556]; with_reducible exact H2_) | (have H2_ := (Option.bind_some _ _).symm.trans H; with_reducible exact H2_) | with_reducible exact H | (rw [hy556]; exact H) | exact H
       have Ny556 := am hy556
       clear hy556
       replace H := Option.bind_eq_some_iff.mp H
       obtain ⟨t559, A110, H⟩ := H
       replace H : (jua.l0 k1 l0 y556 t559) = some r := H
       have A11 := am A110
       clear A110
       have H' := am H
       clear H
       have p554 : 0 ≤ (x6_1 : Int) := of_decide_eq_true (uq)
       have q554 : x6_1 < (l0.length : Int) := of_decide_eq_true (uq)
       obtain ⟨ad554, e554, hx554_0, hx554_1, hx554_2, hx554_3⟩ := jsa HR0.out x6_1 p554 q554
       cases e554
       replace hx554_0 := cb HB.out hx554_0
       replace hx554_1 := cb HB.out hx554_1
       replace hx554_2 := cb HB.out hx554_2
       replace hx554_3 := cb HB.out hx554_3
       replace p554 := eq_true p554
       replace q554 := eq_true q554
       go_wp2_with (first | (go_at_call 85; (with_reducible refine (jKb.calls ((je l0 x6_1).f1) true _ A8.out).mono ?_); rintro e w' ⟨rfl, ⟨nd, rfl⟩⟩) | ((with_reducible refine jMa (b := .append) (xs := #[.tmp 27, .tmp 29]) rfl ?_); at_builtin; refine Kd.jWb (Kd.int .i64) (w0 := w) w.heap.size rfl (.tmp 27) (.tmp 29) 29 3 (.int .i64 0) 8 rfl Try.underlying29 info3 rfl (by decide) (by omega) u5 x5_1 x6_1 [.int .i64 x6_1] (fun _ => True) (fun _ => False) rfl rfl ?aP (fun _ hk => hk.elim) ?aF ?aO ?aB ?aS ?aL ?_; (case aP => exact rfl); (case aB => exact (bq)); (case aF => exact (fun _ _ => trivial)); (case aO => exact (rq HO_5.out)); (case aS => exact (jK (bq))); (case aL => have := LMc10.out; omega); intro v557 w12 ho hb hg hat; rw [← Ny556.out] at ho; have n0_ := am (hb); have n1_ := am (ho); clear HB HO_5; have HB := n0_; have HO558 := n1_; clear n0_ n1_ ho hb hg hat) | ((with_reducible refine jd (f := 84) rfl ?_); refine gL (some 26) Try.func84 #[.slice (some ad554) l0.length c0, .int .i64 x6_1] ?_; (with_reducible refine (jib.calls k1 _ _ l0 x6_1 t559 _ ?side1 ?side2 A11.out).mono ?_); (case side1 => exact cq (Kd.jU HR0.out HB.out)); (case side2 => exact HC0.out); rintro e w' ⟨rfl, ⟨nd, rfl⟩⟩; refine ⟨_, rfl, ?_⟩))
       go_roundg k1
       case measure => have := HK1.out; omega
       case rel => exact ⟨(y556), (t559), (sq), H', ⟨by have := HK1.out; omega⟩, ⟨rq HO558.out⟩, ⟨bq⟩⟩
      ·rw [if_neg c10] at H
       exact absurd H (by simp)
     ·replace c9 := Bool.eq_false_iff.mpr c9
      subst c9
      have H1 : (some x5_1) = some r := by rw [if_neg (show ¬ (false = true) by decide)] at H; exact H
      clear H
      have H := H1
      clear H1
      obtain rfl := Option.some.inj H
      have p554 : 0 ≤ (x6_1 : Int) := of_decide_eq_true (uq)
      have q554 : x6_1 < (l0.length : Int) := of_decide_eq_true (uq)
      obtain ⟨ad554, e554, hx554_0, hx554_1, hx554_2, hx554_3⟩ := jsa HR0.out x6_1 p554 q554
      cases e554
      replace hx554_0 := cb HB.out hx554_0
      replace hx554_1 := cb HB.out hx554_1
      replace hx554_2 := cb HB.out hx554_2
      replace hx554_3 := cb HB.out hx554_3
      replace p554 := eq_true p554
      replace q554 := eq_true q554
      go_wp2_with (first | (go_at_call 85; (with_reducible refine (jKb.calls ((je l0 x6_1).f1) false _ A8.out).mono ?_); rintro e w' ⟨rfl, ⟨nd, rfl⟩⟩))
      go_ret
      exact ⟨_, Y0, rq HO_5.out, bq⟩
    ·rw [if_neg c7] at H
     exact absurd H (by simp)
   ·rw [if_neg c6] at H
    have c6b0 : decide (x6_1 < (l0.length : Int)) = false := decide_eq_false c6
    clear c6
    obtain rfl := Option.some.inj H
    go_wp2
    go_ret
    exact ⟨_, Y0, rq HO_5.out, bq⟩
def jZa.l0 : Nat → List (S36) → Int → Int → Option (Int)
 | 0, _, _, _ => none
 | k + 1, x0, x1, x5 => if x5 ≥ 0 then (if 0 ≤ x5 then (if x5 < (x0.length : Int) then (if 0 ≤ x1 then (if x1 < (x0.length : Int) then (if ((je x0 x5).f0) < ((je x0 x1).f0) then (some (-1)) else (if ((je x0 x5).f0) = ((je x0 x1).f0) then (some x5) else (jZa.l0 k x0 x1 (wrap64 (x5 - 1))))) else (none)) else (none)) else (none)) else (none)) else (some (-1))
def jZa.f (k : Nat) (l0 : List (S36)) (a1 : Int) : Option (Int) := jZa.l0 k l0 a1 (wrap64 (a1 - 1))
set_option maxHeartbeats 8000000 in
set_option maxRecDepth 100000 in
theorem jZa.calls (k : Nat) (A0 : Option Addr) (c0 : Nat) (l0 : List (S36)) (a1 : Int) (r : Int) (w : World) (hr0 : Kd.C k36 w A0 l0.length l0) (hc0 : l0.length ≤ c0) (h : jZa.f k l0 a1 = some r) :
  Calls Try.prog 97 #[.slice A0 l0.length c0, .int .i64 a1] w fun e w' => e = .returned (.int .i64 r) ∧ jnb w w' := by
 have HR0 := am hr0
 have HC0 := am hc0
 clear hr0 hc0
 have H : (jZa.l0 k l0 a1 (wrap64 (a1 - 1))) = some r := h
 clear h
 have H' := am H
 clear H
 go_enter Try.func97, Try.ntmps97
 go_wp2
 repeat (go_quiet (fail); try go_wp2)
 go_loopg [5] k (fun kq v5 w' => ∃ (x5_1 : Int), v5 = .int .i64 x5_1 ∧ jo (jZa.l0 kq l0 a1 x5_1 = some r) ∧ jo (kq ≤ k) ∧ jnb w w')
 case atStart => exact ⟨(wrap64 (a1 - 1)), (sq), H', ⟨Nat.le_refl _⟩, Y7⟩
 case round =>
  clear H'
  try clear p2
  obtain ⟨x5_1, rfl, HA, HK1, ⟨m1, rfl⟩⟩ := hrel
  cases gk with
  | zero => exact absurd HA.out (by simp [jZa.l0])
  | succ k1 =>
   have H := HA.out
   clear HA
   simp only [jZa.l0] at H
   by_cases c3 : x5_1 ≥ 0
   ·rw [if_pos c3] at H
    have c3b0 : decide (0 ≤ x5_1) = true := decide_eq_true c3
    clear c3
    by_cases c4 : 0 ≤ x5_1
    ·rw [if_pos c4] at H
     have c4b0 : decide (0 ≤ x5_1) = true := decide_eq_true c4
     clear c4
     by_cases c5 : x5_1 < (l0.length : Int)
     ·rw [if_pos c5] at H
      have c5b0 : decide (x5_1 < (l0.length : Int)) = true := decide_eq_true c5
      clear c5
      by_cases c6 : 0 ≤ a1
      ·rw [if_pos c6] at H
       have c6b0 : decide (0 ≤ a1) = true := decide_eq_true c6
       clear c6
       by_cases c7 : a1 < (l0.length : Int)
       ·rw [if_pos c7] at H
        have c7b0 : decide (a1 < (l0.length : Int)) = true := decide_eq_true c7
        clear c7
        by_cases c8 : ((je l0 x5_1).f0) < ((je l0 a1).f0)
        ·rw [if_pos c8] at H
         have c8b0 : decide (((je l0 x5_1).f0) < ((je l0 a1).f0)) = true := decide_eq_true c8
         clear c8
         obtain rfl := Option.some.inj H
         have p573 : 0 ≤ (x5_1 : Int) := of_decide_eq_true (uq)
         have q573 : x5_1 < (l0.length : Int) := of_decide_eq_true (uq)
         obtain ⟨ad573, e573, hx573_0, hx573_1, hx573_2, hx573_3⟩ := jsa HR0.out x5_1 p573 q573
         cases e573
         replace p573 := eq_true p573
         replace q573 := eq_true q573
         have p574 : 0 ≤ (a1 : Int) := of_decide_eq_true (uq)
         have q574 : a1 < (l0.length : Int) := of_decide_eq_true (uq)
         obtain ⟨ad574, e574, hx574_0, hx574_1, hx574_2, hx574_3⟩ := jsa HR0.out a1 p574 q574
         obtain rfl : ad573 = ad574 := (by injection e574)
         replace p574 := eq_true p574
         replace q574 := eq_true q574
         go_wp2
         repeat (go_quiet (fail); try go_wp2)
         go_ret
         exact ⟨sq, Y7⟩
        ·rw [if_neg c8] at H
         have c8b0 : decide (((je l0 x5_1).f0) < ((je l0 a1).f0)) = false := decide_eq_false c8
         clear c8
         by_cases c9 : ((je l0 x5_1).f0) = ((je l0 a1).f0)
         ·rw [if_pos c9] at H
          have c9b0 : (((je l0 x5_1).f0) == ((je l0 a1).f0)) = true := beq_iff_eq.mpr c9
          have c9b1 : (((je l0 x5_1).f0) != ((je l0 a1).f0)) = false := bne_eq_false_iff_eq.mpr c9
          clear c9
          obtain rfl := Option.some.inj H
          have p573 : 0 ≤ (x5_1 : Int) := of_decide_eq_true (uq)
          have q573 : x5_1 < (l0.length : Int) := of_decide_eq_true (uq)
          obtain ⟨ad573, e573, hx573_0, hx573_1, hx573_2, hx573_3⟩ := jsa HR0.out x5_1 p573 q573
          cases e573
          replace p573 := eq_true p573
          replace q573 := eq_true q573
          have p574 : 0 ≤ (a1 : Int) := of_decide_eq_true (uq)
          have q574 : a1 < (l0.length : Int) := of_decide_eq_true (uq)
          obtain ⟨ad574, e574, hx574_0, hx574_1, hx574_2, hx574_3⟩ := jsa HR0.out a1 p574 q574
          obtain rfl : ad573 = ad574 := (by injection e574)
          replace p574 := eq_true p574
          replace q574 := eq_true q574
          have p575 : 0 ≤ (x5_1 : Int) := of_decide_eq_true (uq)
          have q575 : x5_1 < (l0.length : Int) := of_decide_eq_true (uq)
          obtain ⟨ad575, e575, hx575_0, hx575_1, hx575_2, hx575_3⟩ := jsa HR0.out x5_1 p575 q575
          obtain rfl : ad573 = ad575 := (by injection e575)
          replace p575 := eq_true p575
          replace q575 := eq_true q575
          have p576 : 0 ≤ (a1 : Int) := of_decide_eq_true (uq)
          have q576 : a1 < (l0.length : Int) := of_decide_eq_true (uq)
          obtain ⟨ad576, e576, hx576_0, hx576_1, hx576_2, hx576_3⟩ := jsa HR0.out a1 p576 q576
          obtain rfl : ad573 = ad576 := (by injection e576)
          replace p576 := eq_true p576
          replace q576 := eq_true q576
          go_wp2
          repeat (go_quiet (fail); try go_wp2)
          go_ret
          exact ⟨sq, Y7⟩
         ·rw [if_neg c9] at H
          have c9b0 : (((je l0 x5_1).f0) == ((je l0 a1).f0)) = false := beq_eq_false_iff_ne.mpr c9
          have c9b1 : (((je l0 x5_1).f0) != ((je l0 a1).f0)) = true := bne_iff_ne.mpr c9
          have H' := am H
          clear H
          have p573 : 0 ≤ (x5_1 : Int) := of_decide_eq_true (uq)
          have q573 : x5_1 < (l0.length : Int) := of_decide_eq_true (uq)
          obtain ⟨ad573, e573, hx573_0, hx573_1, hx573_2, hx573_3⟩ := jsa HR0.out x5_1 p573 q573
          cases e573
          replace p573 := eq_true p573
          replace q573 := eq_true q573
          have p574 : 0 ≤ (a1 : Int) := of_decide_eq_true (uq)
          have q574 : a1 < (l0.length : Int) := of_decide_eq_true (uq)
          obtain ⟨ad574, e574, hx574_0, hx574_1, hx574_2, hx574_3⟩ := jsa HR0.out a1 p574 q574
          obtain rfl : ad573 = ad574 := (by injection e574)
          replace p574 := eq_true p574
          replace q574 := eq_true q574
          have p575 : 0 ≤ (x5_1 : Int) := of_decide_eq_true (uq)
          have q575 : x5_1 < (l0.length : Int) := of_decide_eq_true (uq)
          obtain ⟨ad575, e575, hx575_0, hx575_1, hx575_2, hx575_3⟩ := jsa HR0.out x5_1 p575 q575
          obtain rfl : ad573 = ad575 := (by injection e575)
          replace p575 := eq_true p575
          replace q575 := eq_true q575
          have p576 : 0 ≤ (a1 : Int) := of_decide_eq_true (uq)
          have q576 : a1 < (l0.length : Int) := of_decide_eq_true (uq)
          obtain ⟨ad576, e576, hx576_0, hx576_1, hx576_2, hx576_3⟩ := jsa HR0.out a1 p576 q576
          obtain rfl : ad573 = ad576 := (by injection e576)
          replace p576 := eq_true p576
          replace q576 := eq_true q576
          go_wp2
          repeat (go_quiet (fail); try go_wp2)
          go_roundg k1
          case measure => have := HK1.out; omega
          case rel => exact ⟨(wrap64 (x5_1 - 1)), (sq), H', ⟨by have := HK1.out; omega⟩, Y7⟩
       ·rw [if_neg c7] at H
        exact absurd H (by simp)
      ·rw [if_neg c6] at H
       exact absurd H (by simp)
     ·rw [if_neg c5] at H
      exact absurd H (by simp)
    ·rw [if_neg c4] at H
     exact absurd H (by simp)
   ·rw [if_neg c3] at H
    have c3b0 : decide (0 ≤ x5_1) = false := decide_eq_false c3
    clear c3
    obtain rfl := Option.some.inj H
    go_wp2
    repeat (go_quiet (fail); try go_wp2)
    go_ret
    exact ⟨sq, Y7⟩
def jsb.l0 : Nat → List (S36) → Int → Option (Int)
 | 0, _, _ => none
 | k + 1, x0, x1 => if 0 ≤ x1 then (if x1 < (x0.length : Int) then (if ((je x0 x1).f1) = 7 then (some x1) else ((jZa.f k x0 x1).bind fun t586 => (jsb.l0 k x0 t586))) else (none)) else (none)
def jsb.f (k : Nat) (l0 : List (S36)) (a1 : Int) : Option (Int) := jsb.l0 k l0 a1
set_option maxHeartbeats 8000000 in
set_option maxRecDepth 100000 in
theorem jsb.calls (k : Nat) (A0 : Option Addr) (c0 : Nat) (l0 : List (S36)) (a1 : Int) (r : Int) (w : World) (hr0 : Kd.C k36 w A0 l0.length l0) (hc0 : l0.length ≤ c0) (h : jsb.f k l0 a1 = some r) :
  Calls Try.prog 81 #[.slice A0 l0.length c0, .int .i64 a1] w fun e w' => e = .returned (.int .i64 r) ∧ jnb w w' := by
 have HR0 := am hr0
 have HC0 := am hc0
 clear hr0 hc0
 have H : (jsb.l0 k l0 a1) = some r := h
 clear h
 have H' := am H
 clear H
 go_enter Try.func81, Try.ntmps81
 go_wp2
 go_loopg [1] k (fun kq v1 w' => ∃ (x1_1 : Int), v1 = .int .i64 x1_1 ∧ jo (jsb.l0 kq l0 x1_1 = some r) ∧ jo (kq ≤ k) ∧ jnb w w')
 case atStart => exact ⟨(a1), (sq), H', ⟨Nat.le_refl _⟩, Y7⟩
 case round =>
  clear H'
  try clear p2
  obtain ⟨x1_1, rfl, HA, HK1, ⟨m1, rfl⟩⟩ := hrel
  cases gk with
  | zero => exact absurd HA.out (by simp [jsb.l0])
  | succ k1 =>
   have H := HA.out
   clear HA
   simp only [jsb.l0] at H
   by_cases c3 : 0 ≤ x1_1
   ·rw [if_pos c3] at H
    have c3b0 : decide (0 ≤ x1_1) = true := decide_eq_true c3
    clear c3
    by_cases c4 : x1_1 < (l0.length : Int)
    ·rw [if_pos c4] at H
     have c4b0 : decide (x1_1 < (l0.length : Int)) = true := decide_eq_true c4
     clear c4
     by_cases c5 : ((je l0 x1_1).f1) = 7
     ·rw [if_pos c5] at H
      have c5b0 : (((je l0 x1_1).f1) == 7) = true := beq_iff_eq.mpr c5
      have c5b1 : (((je l0 x1_1).f1) != 7) = false := bne_eq_false_iff_eq.mpr c5
      clear c5
      obtain rfl := Option.some.inj H
      have p585 : 0 ≤ (x1_1 : Int) := of_decide_eq_true (uq)
      have q585 : x1_1 < (l0.length : Int) := of_decide_eq_true (uq)
      obtain ⟨ad585, e585, hx585_0, hx585_1, hx585_2, hx585_3⟩ := jsa HR0.out x1_1 p585 q585
      cases e585
      replace p585 := eq_true p585
      replace q585 := eq_true q585
      go_wp2
      go_ret
      exact ⟨sq, Y7⟩
     ·rw [if_neg c5] at H
      have c5b0 : (((je l0 x1_1).f1) == 7) = false := beq_eq_false_iff_ne.mpr c5
      have c5b1 : (((je l0 x1_1).f1) != 7) = true := bne_iff_ne.mpr c5
      replace H := Option.bind_eq_some_iff.mp H
      obtain ⟨t586, A60, H⟩ := H
      replace H : (jsb.l0 k1 l0 t586) = some r := H
      have A6 := am A60
      clear A60
      have H' := am H
      clear H
      have p585 : 0 ≤ (x1_1 : Int) := of_decide_eq_true (uq)
      have q585 : x1_1 < (l0.length : Int) := of_decide_eq_true (uq)
      obtain ⟨ad585, e585, hx585_0, hx585_1, hx585_2, hx585_3⟩ := jsa HR0.out x1_1 p585 q585
      cases e585
      replace p585 := eq_true p585
      replace q585 := eq_true q585
      go_wp2_with (first | ((with_reducible refine jd (f := 97) rfl ?_); refine gL (some 13) Try.func97 #[.slice (some ad585) l0.length c0, .int .i64 x1_1] ?_; (with_reducible refine (jZa.calls k1 _ _ l0 x1_1 t586 _ ?side1 ?side2 A6.out).mono ?_); (case side1 => exact Y32); (case side2 => exact HC0.out); rintro e w' ⟨rfl, ⟨nd, rfl⟩⟩; refine ⟨_, rfl, ?_⟩))
      go_roundg k1
      case measure => have := HK1.out; omega
      case rel => exact ⟨(t586), (sq), H', ⟨by have := HK1.out; omega⟩, Y7⟩
    ·rw [if_neg c4] at H
     exact absurd H (by simp)
   ·rw [if_neg c3] at H
    exact absurd H (by simp)
def jhb.j0 : Nat → List (S36) → Int → Bool → Option (Int)
 | 0, _, _, _ => none
 | k + 1, x0, x1, x27 => if x27 = true then (some (-1)) else ((jsb.f k x0 x1).bind fun t590 => ((jua.f k x0 t590).bind fun t591 => (if 0 ≤ (wrap64 ((t591.length : Int) - 1)) then (if (wrap64 ((t591.length : Int) - 1)) < (t591.length : Int) then (if 0 ≤ (rd t591 (wrap64 ((t591.length : Int) - 1))) then (if (rd t591 (wrap64 ((t591.length : Int) - 1))) < (x0.length : Int) then (if ((je x0 (rd t591 (wrap64 ((t591.length : Int) - 1)))).f1) = 10 then (some (rd t591 (wrap64 ((t591.length : Int) - 1)))) else (some (-1))) else (none)) else (none)) else (none)) else (none))))
def jhb.f (k : Nat) (l0 : List (S36)) (a1 : Int) : Option (Int) := if 0 ≤ a1 then (if a1 < (l0.length : Int) then (if ((je l0 a1).f1) = 11 then (some a1) else (if ((je l0 a1).f1) = 12 then (jhb.j0 k l0 a1 true) else (jhb.j0 k l0 a1 (((je l0 a1).f1) == 10)))) else (none)) else (none)
set_option maxHeartbeats 8000000 in
set_option maxRecDepth 100000 in
theorem jhb.calls (k : Nat) (A0 : Option Addr) (c0 : Nat) (l0 : List (S36)) (a1 : Int) (r : Int) (w : World) (hr0 : Kd.C k36 w A0 l0.length l0) (hc0 : l0.length ≤ c0) (h : jhb.f k l0 a1 = some r) :
  Calls Try.prog 62 #[.slice A0 l0.length c0, .int .i64 a1] w fun e w' => e = .returned (.int .i64 r) ∧ Below w.heap.size w w' := by
 have HR0 := am hr0
 have HC0 := am hc0
 clear hr0 hc0
 have HB := am (Below.refl w.heap.size w)
 have H : (if 0 ≤ a1 then (if a1 < (l0.length : Int) then (if ((je l0 a1).f1) = 11 then (some a1) else (if ((je l0 a1).f1) = 12 then (jhb.j0 k l0 a1 true) else (jhb.j0 k l0 a1 (((je l0 a1).f1) == 10)))) else (none)) else (none)) = some r := h
 clear h
 by_cases c3 : 0 ≤ a1
 ·rw [if_pos c3] at H
  have c3b0 : decide (0 ≤ a1) = true := decide_eq_true c3
  clear c3
  by_cases c4 : a1 < (l0.length : Int)
  ·rw [if_pos c4] at H
   have c4b0 : decide (a1 < (l0.length : Int)) = true := decide_eq_true c4
   clear c4
   by_cases c5 : ((je l0 a1).f1) = 11
   ·rw [if_pos c5] at H
    have c5b0 : (((je l0 a1).f1) == 11) = true := beq_iff_eq.mpr c5
    have c5b1 : (((je l0 a1).f1) != 11) = false := bne_eq_false_iff_eq.mpr c5
    clear c5
    obtain rfl := Option.some.inj H
    have p587 : 0 ≤ (a1 : Int) := of_decide_eq_true (uq)
    have q587 : a1 < (l0.length : Int) := of_decide_eq_true (uq)
    obtain ⟨ad587, e587, hx587_0, hx587_1, hx587_2, hx587_3⟩ := jsa HR0.out a1 p587 q587
    cases e587
    replace p587 := eq_true p587
    replace q587 := eq_true q587
    go_enter Try.func62, Try.ntmps62
    go_wp2
    go_ret
    exact ⟨Y0, bq⟩
   ·rw [if_neg c5] at H
    have c5b0 : (((je l0 a1).f1) == 11) = false := beq_eq_false_iff_ne.mpr c5
    have c5b1 : (((je l0 a1).f1) != 11) = true := bne_iff_ne.mpr c5
    have HC6 := am H
    clear H
    have p587 : 0 ≤ (a1 : Int) := of_decide_eq_true (uq)
    have q587 : a1 < (l0.length : Int) := of_decide_eq_true (uq)
    obtain ⟨ad587, e587, hx587_0, hx587_1, hx587_2, hx587_3⟩ := jsa HR0.out a1 p587 q587
    cases e587
    replace p587 := eq_true p587
    replace q587 := eq_true q587
    go_enter Try.func62, Try.ntmps62
    go_upto_region 3 with (fail)
    go_cut [27] (fun v27 wc => ∃ (kq : Nat) (x27_5 : Bool), v27 = .bool x27_5 ∧ jo (jhb.j0 kq l0 a1 x27_5 = some r) ∧ jo (kq ≤ k) ∧ jo (Below w.heap.size w wc))
    case first =>
     have H := HC6.out
     clear HC6
     by_cases c7 : ((je l0 a1).f1) = 12
     ·rw [if_pos c7] at H
      have c7b0 : (((je l0 a1).f1) == 12) = true := beq_iff_eq.mpr c7
      have c7b1 : (((je l0 a1).f1) != 12) = false := bne_eq_false_iff_eq.mpr c7
      clear c7
      (first | rw [c7b0] | (simp only [jrb, jvb]; rw [c7b0]) | skip)
      have H' := am H
      clear H
      have p588 : 0 ≤ (a1 : Int) := of_decide_eq_true (uq)
      have q588 : a1 < (l0.length : Int) := of_decide_eq_true (uq)
      obtain ⟨ad588, e588, hx588_0, hx588_1, hx588_2, hx588_3⟩ := jsa HR0.out a1 p588 q588
      obtain rfl : ad587 = ad588 := (by injection e588)
      replace hx588_0 := cb HB.out hx588_0
      replace hx588_1 := cb HB.out hx588_1
      replace hx588_2 := cb HB.out hx588_2
      replace hx588_3 := cb HB.out hx588_3
      replace p588 := eq_true p588
      replace q588 := eq_true q588
      go_wp2
      go_meet
      case rel => exact ⟨_, (true), (sq), H', ⟨Y36⟩, ⟨bq⟩⟩
     ·rw [if_neg c7] at H
      have c7b0 : (((je l0 a1).f1) == 12) = false := beq_eq_false_iff_ne.mpr c7
      have c7b1 : (((je l0 a1).f1) != 12) = true := bne_iff_ne.mpr c7
      (first | rw [c7b0] | (simp only [jrb, jvb]; rw [c7b0]) | skip)
      have H' := am H
      clear H
      have p588 : 0 ≤ (a1 : Int) := of_decide_eq_true (uq)
      have q588 : a1 < (l0.length : Int) := of_decide_eq_true (uq)
      obtain ⟨ad588, e588, hx588_0, hx588_1, hx588_2, hx588_3⟩ := jsa HR0.out a1 p588 q588
      obtain rfl : ad587 = ad588 := (by injection e588)
      replace hx588_0 := cb HB.out hx588_0
      replace hx588_1 := cb HB.out hx588_1
      replace hx588_2 := cb HB.out hx588_2
      replace hx588_3 := cb HB.out hx588_3
      replace p588 := eq_true p588
      replace q588 := eq_true q588
      have p589 : 0 ≤ (a1 : Int) := of_decide_eq_true (uq)
      have q589 : a1 < (l0.length : Int) := of_decide_eq_true (uq)
      obtain ⟨ad589, e589, hx589_0, hx589_1, hx589_2, hx589_3⟩ := jsa HR0.out a1 p589 q589
      obtain rfl : ad587 = ad589 := (by injection e589)
      replace hx589_0 := cb HB.out hx589_0
      replace hx589_1 := cb HB.out hx589_1
      replace hx589_2 := cb HB.out hx589_2
      replace hx589_3 := cb HB.out hx589_3
      replace p589 := eq_true p589
      replace q589 := eq_true q589
      go_wp2
      go_meet
      case rel => exact ⟨_, ((((je l0 a1).f1) == 10)), (sq), H', ⟨Y36⟩, ⟨bq⟩⟩
    case rest =>
     clear HC6
     try clear p2
     try clear c3
     try clear c3b0
     try clear c4
     try clear c4b0
     try clear c5
     try clear c5b0
     try clear c5b1
     try clear p5
     try clear q5
     try clear hx5
     try clear c6
     try clear c7
     try clear c7b0
     try clear c7b1
     try clear hx587_0
     try clear hx587_1
     try clear hx587_2
     try clear hx587_3
     try clear hx588_0
     try clear hx588_1
     try clear hx588_2
     try clear hx588_3
     try clear hx589_0
     try clear hx589_1
     try clear hx589_2
     try clear hx589_3
     try clear p587
     try clear p588
     try clear p589
     try clear q587
     try clear q588
     try clear q589
     obtain ⟨kq, x27_5, rfl, HA, HJ5, HB⟩ := hcut
     cases kq with
     | zero => exact absurd HA.out (by simp [jhb.j0])
     | succ kj5 =>
      have H := HA.out
      clear HA
      simp only [jhb.j0] at H
      by_cases c8 : x27_5 = true
      ·subst c8
       have H1 : (some (-1)) = some r := by rw [if_pos rfl] at H; exact H
       clear H
       have H := H1
       clear H1
       obtain rfl := Option.some.inj H
       go_wp2
       go_ret
       exact ⟨Y0, bq⟩
      ·replace c8 := Bool.eq_false_iff.mpr c8
       subst c8
       have H1 : ((jsb.f kj5 l0 a1).bind fun t590 => ((jua.f kj5 l0 t590).bind fun t591 => (if 0 ≤ (wrap64 ((t591.length : Int) - 1)) then (if (wrap64 ((t591.length : Int) - 1)) < (t591.length : Int) then (if 0 ≤ (rd t591 (wrap64 ((t591.length : Int) - 1))) then (if (rd t591 (wrap64 ((t591.length : Int) - 1))) < (l0.length : Int) then (if ((je l0 (rd t591 (wrap64 ((t591.length : Int) - 1)))).f1) = 10 then (some (rd t591 (wrap64 ((t591.length : Int) - 1)))) else (some (-1))) else (none)) else (none)) else (none)) else (none)))) = some r := by rw [if_neg (show ¬ (false = true) by decide)] at H; exact H
       clear H
       have H := H1
       clear H1
       replace H := Option.bind_eq_some_iff.mp H
       obtain ⟨t590, A90, H⟩ := H
       replace H : ((jua.f kj5 l0 t590).bind fun t591 => (if 0 ≤ (wrap64 ((t591.length : Int) - 1)) then (if (wrap64 ((t591.length : Int) - 1)) < (t591.length : Int) then (if 0 ≤ (rd t591 (wrap64 ((t591.length : Int) - 1))) then (if (rd t591 (wrap64 ((t591.length : Int) - 1))) < (l0.length : Int) then (if ((je l0 (rd t591 (wrap64 ((t591.length : Int) - 1)))).f1) = 10 then (some (rd t591 (wrap64 ((t591.length : Int) - 1)))) else (some (-1))) else (none)) else (none)) else (none)) else (none))) = some r := H
       have A9 := am A90
       clear A90
       replace H := Option.bind_eq_some_iff.mp H
       obtain ⟨t591, A100, H⟩ := H
       replace H : (if 0 ≤ (wrap64 ((t591.length : Int) - 1)) then (if (wrap64 ((t591.length : Int) - 1)) < (t591.length : Int) then (if 0 ≤ (rd t591 (wrap64 ((t591.length : Int) - 1))) then (if (rd t591 (wrap64 ((t591.length : Int) - 1))) < (l0.length : Int) then (if ((je l0 (rd t591 (wrap64 ((t591.length : Int) - 1)))).f1) = 10 then (some (rd t591 (wrap64 ((t591.length : Int) - 1)))) else (some (-1))) else (none)) else (none)) else (none)) else (none)) = some r := H
       have A10 := am A100
       clear A100
       obtain ⟨ji11, hji11⟩ : ∃ j_ : Int, (wrap64 ((t591.length : Int) - 1)) = j_ := ⟨_, rfl⟩
       replace H : (if 0 ≤ (ji11) then (if (ji11) < (t591.length : Int) then (if 0 ≤ (rd t591 (ji11)) then (if (rd t591 (ji11)) < (l0.length : Int) then (if ((je l0 (rd t591 (ji11))).f1) = 10 then (some (rd t591 (ji11))) else (some (-1))) else (none)) else (none)) else (none)) else (none)) = some r := by first | (rw [hji11] at H; exact H) | (simp only [hji11] at H ⊢; exact H)
       (try rw [hji11] at A9)
       (try rw [hji11] at A10)
       have hji11w : (IntKind.i64.wrap ((t591.length : Int) - 1)) = ji11 := (jrb _).trans hji11
       by_cases c12 : 0 ≤ (ji11)
       ·rw [if_pos c12] at H
        have c12b0 : decide (0 ≤ (ji11)) = true := decide_eq_true c12
        clear c12
        by_cases c13 : (ji11) < (t591.length : Int)
        ·rw [if_pos c13] at H
         have c13b0 : decide ((ji11) < (t591.length : Int)) = true := decide_eq_true c13
         clear c13
         by_cases c14 : 0 ≤ (rd t591 (ji11))
         ·rw [if_pos c14] at H
          have c14b0 : decide (0 ≤ (rd t591 (ji11))) = true := decide_eq_true c14
          clear c14
          by_cases c15 : (rd t591 (ji11)) < (l0.length : Int)
          ·rw [if_pos c15] at H
           have c15b0 : decide ((rd t591 (ji11)) < (l0.length : Int)) = true := decide_eq_true c15
           clear c15
           by_cases c16 : ((je l0 (rd t591 (ji11))).f1) = 10
           ·rw [if_pos c16] at H
            have c16b0 : (((je l0 (rd t591 (ji11))).f1) == 10) = true := beq_iff_eq.mpr c16
            have c16b1 : (((je l0 (rd t591 (ji11))).f1) != 10) = false := bne_eq_false_iff_eq.mpr c16
            clear c16
            obtain rfl := Option.some.inj H
            go_wp2_with (first | ((with_reducible refine jd (f := 81) rfl ?_); refine gL (some 31) Try.func81 #[.slice (some ad587) l0.length c0, .int .i64 a1] ?_; (with_reducible refine (jsb.calls kj5 _ _ l0 a1 t590 _ ?side1 ?side2 A9.out).mono ?_); (case side1 => exact cq (Kd.jU HR0.out HB.out)); (case side2 => exact HC0.out); rintro e w' ⟨rfl, ⟨nd, rfl⟩⟩; refine ⟨_, rfl, ?_⟩) | ((with_reducible refine jd (f := 71) rfl ?_); refine gL (some 32) Try.func71 #[.slice (some ad587) l0.length c0, .int .i64 t590] ?_; (with_reducible refine (jua.calls kj5 _ _ l0 t590 t591 _ ?side1 ?side2 A10.out).mono ?_); (case side1 => exact cq (Kd.jU HR0.out (bq))); (case side2 => exact HC0.out); rintro e w17 ⟨v592, rfl, ho0, hb⟩; refine ⟨_, rfl, ?_⟩; have HO593 := am (Kd.jR ho0 (jK (bq))); replace HB := am (jf (bq) hb); (try clear hb); (try clear hb2); (try clear hk); (try clear hi); (try clear ho0); obtain ⟨Ao18, co18, eo18⟩ := Kd.jY HO593.out; subst eo18; have p594 : 0 ≤ ((ji11) : Int) := of_decide_eq_true (uq); have q594 : (ji11) < (t591.length : Int) := of_decide_eq_true (uq); obtain ⟨ad594, e594, hx594_0⟩ := Kd.jtb (Kd.jm HO593.out).2.2 (ji11) p594 q594; cases e594; replace p594 := eq_true p594; replace q594 := eq_true q594; have p595 : 0 ≤ ((rd t591 (ji11)) : Int) := of_decide_eq_true (uq); have q595 : (rd t591 (ji11)) < (l0.length : Int) := of_decide_eq_true (uq); obtain ⟨ad595, e595, hx595_0, hx595_1, hx595_2, hx595_3⟩ := jsa HR0.out (rd t591 (ji11)) p595 q595; obtain rfl : ad587 = ad595 := (by injection e595); replace hx595_0 := cb HB.out hx595_0; replace hx595_1 := cb HB.out hx595_1; replace hx595_2 := cb HB.out hx595_2; replace hx595_3 := cb HB.out hx595_3; replace p595 := eq_true p595; replace q595 := eq_true q595))
            go_ret
            exact ⟨Y134, bq⟩
           ·rw [if_neg c16] at H
            have c16b0 : (((je l0 (rd t591 (ji11))).f1) == 10) = false := beq_eq_false_iff_ne.mpr c16
            have c16b1 : (((je l0 (rd t591 (ji11))).f1) != 10) = true := bne_iff_ne.mpr c16
            obtain rfl := Option.some.inj H
            go_wp2_with (first | ((with_reducible refine jd (f := 81) rfl ?_); refine gL (some 31) Try.func81 #[.slice (some ad587) l0.length c0, .int .i64 a1] ?_; (with_reducible refine (jsb.calls kj5 _ _ l0 a1 t590 _ ?side1 ?side2 A9.out).mono ?_); (case side1 => exact cq (Kd.jU HR0.out HB.out)); (case side2 => exact HC0.out); rintro e w' ⟨rfl, ⟨nd, rfl⟩⟩; refine ⟨_, rfl, ?_⟩) | ((with_reducible refine jd (f := 71) rfl ?_); refine gL (some 32) Try.func71 #[.slice (some ad587) l0.length c0, .int .i64 t590] ?_; (with_reducible refine (jua.calls kj5 _ _ l0 t590 t591 _ ?side1 ?side2 A10.out).mono ?_); (case side1 => exact cq (Kd.jU HR0.out (bq))); (case side2 => exact HC0.out); rintro e w19 ⟨v592, rfl, ho0, hb⟩; refine ⟨_, rfl, ?_⟩; have HO593 := am (Kd.jR ho0 (jK (bq))); replace HB := am (jf (bq) hb); (try clear hb); (try clear hb2); (try clear hk); (try clear hi); (try clear ho0); obtain ⟨Ao20, co20, eo20⟩ := Kd.jY HO593.out; subst eo20; have p594 : 0 ≤ ((ji11) : Int) := of_decide_eq_true (uq); have q594 : (ji11) < (t591.length : Int) := of_decide_eq_true (uq); obtain ⟨ad594, e594, hx594_0⟩ := Kd.jtb (Kd.jm HO593.out).2.2 (ji11) p594 q594; cases e594; replace p594 := eq_true p594; replace q594 := eq_true q594; have p595 : 0 ≤ ((rd t591 (ji11)) : Int) := of_decide_eq_true (uq); have q595 : (rd t591 (ji11)) < (l0.length : Int) := of_decide_eq_true (uq); obtain ⟨ad595, e595, hx595_0, hx595_1, hx595_2, hx595_3⟩ := jsa HR0.out (rd t591 (ji11)) p595 q595; obtain rfl : ad587 = ad595 := (by injection e595); replace hx595_0 := cb HB.out hx595_0; replace hx595_1 := cb HB.out hx595_1; replace hx595_2 := cb HB.out hx595_2; replace hx595_3 := cb HB.out hx595_3; replace p595 := eq_true p595; replace q595 := eq_true q595))
            go_ret
            exact ⟨Y134, bq⟩
          ·rw [if_neg c15] at H
           exact absurd H (by simp)
         ·rw [if_neg c14] at H
          exact absurd H (by simp)
        ·rw [if_neg c13] at H
         exact absurd H (by simp)
       ·rw [if_neg c12] at H
        exact absurd H (by simp)
  ·rw [if_neg c4] at H
   exact absurd H (by simp)
 ·rw [if_neg c3] at H
  exact absurd H (by simp)
def jHa.l0 : Nat → List (S36) → List Int → List Int → Int → Option (List Int)
 | 0, _, _, _, _ => none
 | k + 1, x0, x1, x5, x6 => if x6 < (x1.length : Int) then (if 0 ≤ x6 then ((jhb.f k x0 (rd x1 x6)).bind fun t600 => (if t600 ≥ 0 then (if x5.length < 17592186044416 then (jHa.l0 k x0 x1 (x5 ++ [t600]) (wrap64 (x6 + 1))) else (none)) else (jHa.l0 k x0 x1 x5 (wrap64 (x6 + 1))))) else (none)) else (some x5)
def jHa.f (k : Nat) (l0 : List (S36)) (l1 : List Int) : Option (List Int) := jHa.l0 k l0 l1 (([] : List Int)) 0
set_option maxHeartbeats 8000000 in
set_option maxRecDepth 100000 in
theorem jHa.calls (k : Nat) (A0 : Option Addr) (c0 : Nat) (l0 : List (S36)) (A1 : Option Addr) (c1 : Nat) (l1 : List Int) (r : List Int) (w : World) (hr0 : Kd.C k36 w A0 l0.length l0) (hc0 : l0.length ≤ c0) (hr1 : Kd.C (Kd.int .i64) w A1 l1.length l1) (hc1 : l1.length ≤ c1) (h : jHa.f k l0 l1 = some r) :
  Calls Try.prog 34 #[.slice A0 l0.length c0, .slice A1 l1.length c1] w fun e w' => ∃ v0_ : Value, e = .returned (v0_) ∧ Kd.R (Kd.int .i64) 3 w' w.heap.size (fun _ => True) v0_ r ∧ Below w.heap.size w w' := by
 have HR0 := am hr0
 have HC0 := am hc0
 clear hr0 hc0
 have HR1 := am hr1
 have HC1 := am hc1
 clear hr1 hc1
 have HB := am (Below.refl w.heap.size w)
 have H : (jHa.l0 k l0 l1 (([] : List Int)) 0) = some r := h
 clear h
 obtain ⟨y596, hy596⟩ : ∃ y_ : List Int, y_ = (([] : List Int)) := ⟨_, rfl⟩
 replace H : (jHa.l0 k l0 l1 y596 0) = some r := by first | (rw [hy596]; with_reducible exact H) | (have H2_ := (Option.bind_some _ _).symm.trans H; rw [hy596]; with_reducible exact H2_) | (have H2_ := (Option.bind_some _ _).symm.trans H; with_reducible exact H2_) | with_reducible exact H | (rw [hy596]; exact H) | exact H
 have Ny596 := am hy596
 clear hy596
 have H' := am H
 clear H
 go_enter Try.func34, Try.ntmps34
 go_wp2_with (first | ((with_reducible refine jI (N := 8) rfl ?_); refine Kd.jXb (Kd.int .i64) _ 3 ?hg (N := 8) ?hd (xs := ([] : List Int)) (inner := []) (ok := fun _ => True) (okp := fun _ => True) ?hr ?hp (fun _ hk => hk) trivial (Below.refl _ _) (Nat.le_refl _) (by simp) ?_; (case hd => rfl); (case hg => rfl); (case hr => exact Y5); (case hp => exact (Reps.none _ _)); intro v597 w3 ho4 hb hg_ hnew_; clear hg_ hnew_; (first | rw [← Ny596.out] at ho4 | (simp only [Int.reduceToNat] at ho4; rw [← Ny596.out] at ho4)); have HO598 := am (Kd.jR ho4 (jK (bq))); replace HB := am (jf (bq) hb); clear hb ho4))
 go_loopg [5, 6] k (fun kq v5 v6 w' => ∃ (x5_1 : List Int) (x6_1 : Int), v6 = .int .i64 x6_1 ∧ jo (jHa.l0 kq l0 l1 x5_1 x6_1 = some r) ∧ jo (kq ≤ k) ∧ jo (Kd.R (Kd.int .i64) 3 w' w.heap.size (fun _ => True) v5 x5_1) ∧ jo (Below w.heap.size w w'))
 case atStart => exact ⟨(y596), (0), (sq), H', ⟨Nat.le_refl _⟩, ⟨rq HO598.out⟩, ⟨bq⟩⟩
 case round =>
  clear H'
  try clear c1
  try clear p2
  try clear c3
  obtain ⟨x5_1, x6_1, rfl, HA, HK1, HO_5, HB⟩ := hrel
  cases gk with
  | zero => exact absurd HA.out (by simp [jHa.l0])
  | succ k1 =>
   have H := HA.out
   clear HA
   simp only [jHa.l0] at H
   by_cases c5 : x6_1 < (l1.length : Int)
   ·rw [if_pos c5] at H
    have c5b0 : decide (x6_1 < (l1.length : Int)) = true := decide_eq_true c5
    clear c5
    by_cases c6 : 0 ≤ x6_1
    ·rw [if_pos c6] at H
     have c6b0 : decide (0 ≤ x6_1) = true := decide_eq_true c6
     clear c6
     replace H := Option.bind_eq_some_iff.mp H
     obtain ⟨t600, A70, H⟩ := H
     replace H : (if t600 ≥ 0 then (if x5_1.length < 17592186044416 then (jHa.l0 k1 l0 l1 (x5_1 ++ [t600]) (wrap64 (x6_1 + 1))) else (none)) else (jHa.l0 k1 l0 l1 x5_1 (wrap64 (x6_1 + 1)))) = some r := H
     have A7 := am A70
     clear A70
     by_cases c8 : t600 ≥ 0
     ·rw [if_pos c8] at H
      have c8b0 : decide (0 ≤ t600) = true := decide_eq_true c8
      clear c8
      by_cases c9 : x5_1.length < 17592186044416
      ·rw [if_pos c9] at H
       have LMc9 := am c9
       clear c9
       obtain ⟨y601, hy601⟩ : ∃ y_ : List Int, y_ = (x5_1 ++ [t600]) := ⟨_, rfl⟩
       replace H : (jHa.l0 k1 l0 l1 y601 (wrap64 (x6_1 + 1))) = some r := by first | (rw [hy601]; with_reducible exact H) | (have H2_ := (Option.bind_some _ _).symm.trans H; rw [hy601]; with_reducible exact H2_) | (have H2_ := (Option.bind_some _ _).symm.trans H; with_reducible exact H2_) | with_reducible exact H | (rw [hy601]; exact H) | exact H
       have Ny601 := am hy601
       clear hy601
       have H' := am H
       clear H
       have p599 : 0 ≤ (x6_1 : Int) := of_decide_eq_true (uq)
       have q599 : x6_1 < (l1.length : Int) := of_decide_eq_true (uq)
       obtain ⟨ad599, e599, hx599_0⟩ := Kd.jtb HR1.out x6_1 p599 q599
       cases e599
       replace hx599_0 := cb HB.out hx599_0
       replace p599 := eq_true p599
       replace q599 := eq_true q599
       go_wp2_with (first | ((with_reducible refine jd (f := 62) rfl ?_); refine gL (some 20) Try.func62 #[.slice A0 l0.length c0, .int .i64 (rd l1 x6_1)] ?_; (with_reducible refine (jhb.calls k1 _ _ l0 (rd l1 x6_1) t600 _ ?side1 ?side2 A7.out).mono ?_); (case side1 => exact cq (Kd.jU HR0.out HB.out)); (case side2 => exact HC0.out); rintro e w10 ⟨rfl, hb⟩; refine ⟨_, rfl, ?_⟩; replace HO_5 := am (Kd.jfa (rq HO_5.out) hb); replace HB := am (jf (bq) hb); (try clear hb); (try clear hb2); (try clear hk); (try clear hi)) | ((with_reducible refine jMa (b := .append) (xs := #[.tmp 23, .tmp 25]) rfl ?_); at_builtin; refine Kd.jWb (Kd.int .i64) (w0 := w) w.heap.size rfl (.tmp 23) (.tmp 25) 29 3 (.int .i64 0) 8 rfl Try.underlying29 info3 rfl (by decide) (by omega) u5 x5_1 t600 [.int .i64 t600] (fun _ => True) (fun _ => False) rfl rfl ?aP (fun _ hk => hk.elim) ?aF ?aO ?aB ?aS ?aL ?_; (case aP => exact rfl); (case aB => exact (bq)); (case aF => exact (fun _ _ => trivial)); (case aO => exact (rq HO_5.out)); (case aS => exact (jK (bq))); (case aL => have := LMc9.out; omega); intro v602 w11 ho hb hg hat; rw [← Ny601.out] at ho; have n0_ := am (hb); have n1_ := am (ho); clear HB HO_5; have HB := n0_; have HO603 := n1_; clear n0_ n1_ ho hb hg hat))
       go_roundg k1
       case measure => have := HK1.out; omega
       case rel => exact ⟨(y601), (wrap64 (x6_1 + 1)), (sq), H', ⟨by have := HK1.out; omega⟩, ⟨rq HO603.out⟩, ⟨bq⟩⟩
      ·rw [if_neg c9] at H
       exact absurd H (by simp)
     ·rw [if_neg c8] at H
      have c8b0 : decide (0 ≤ t600) = false := decide_eq_false c8
      clear c8
      have H' := am H
      clear H
      have p599 : 0 ≤ (x6_1 : Int) := of_decide_eq_true (uq)
      have q599 : x6_1 < (l1.length : Int) := of_decide_eq_true (uq)
      obtain ⟨ad599, e599, hx599_0⟩ := Kd.jtb HR1.out x6_1 p599 q599
      cases e599
      replace hx599_0 := cb HB.out hx599_0
      replace p599 := eq_true p599
      replace q599 := eq_true q599
      go_wp2_with (first | ((with_reducible refine jd (f := 62) rfl ?_); refine gL (some 20) Try.func62 #[.slice A0 l0.length c0, .int .i64 (rd l1 x6_1)] ?_; (with_reducible refine (jhb.calls k1 _ _ l0 (rd l1 x6_1) t600 _ ?side1 ?side2 A7.out).mono ?_); (case side1 => exact cq (Kd.jU HR0.out HB.out)); (case side2 => exact HC0.out); rintro e w12 ⟨rfl, hb⟩; refine ⟨_, rfl, ?_⟩; replace HO_5 := am (Kd.jfa (rq HO_5.out) hb); replace HB := am (jf (bq) hb); (try clear hb); (try clear hb2); (try clear hk); (try clear hi)))
      go_roundg k1
      case measure => have := HK1.out; omega
      case rel => exact ⟨(x5_1), (wrap64 (x6_1 + 1)), (sq), H', ⟨by have := HK1.out; omega⟩, ⟨rq HO_5.out⟩, ⟨bq⟩⟩
    ·rw [if_neg c6] at H
     exact absurd H (by simp)
   ·rw [if_neg c5] at H
    have c5b0 : decide (x6_1 < (l1.length : Int)) = false := decide_eq_false c5
    clear c5
    obtain rfl := Option.some.inj H
    go_wp2
    go_ret
    exact ⟨_, Y0, rq HO_5.out, bq⟩
def joa.l0 : Nat → List (S36) → List Int → Int → Int → Option (List Int)
 | 0, _, _, _, _ => none
 | k + 1, x0, x5, x6, x7 => if x7 ≥ 0 then (if 0 ≤ x7 then (if x7 < (x0.length : Int) then (if ((je x0 x7).f0) < x6 then (if x5.length < 17592186044416 then (joa.l0 k x0 (x5 ++ [x7]) ((je x0 x7).f0) (wrap64 (x7 - 1))) else (none)) else (joa.l0 k x0 x5 x6 (wrap64 (x7 - 1)))) else (none)) else (none)) else (some x5)
def joa.f (k : Nat) (l0 : List (S36)) (a1 : Int) : Option (List Int) := if 0 ≤ a1 then (if a1 < (l0.length : Int) then (joa.l0 k l0 (([] : List Int)) ((je l0 a1).f0) (wrap64 (a1 - 1))) else (none)) else (none)
set_option maxHeartbeats 8000000 in
set_option maxRecDepth 100000 in
theorem joa.calls (k : Nat) (A0 : Option Addr) (c0 : Nat) (l0 : List (S36)) (a1 : Int) (r : List Int) (w : World) (hr0 : Kd.C k36 w A0 l0.length l0) (hc0 : l0.length ≤ c0) (h : joa.f k l0 a1 = some r) :
  Calls Try.prog 35 #[.slice A0 l0.length c0, .int .i64 a1] w fun e w' => ∃ v0_ : Value, e = .returned (v0_) ∧ Kd.R (Kd.int .i64) 3 w' w.heap.size (fun _ => True) v0_ r ∧ Below w.heap.size w w' := by
 have HR0 := am hr0
 have HC0 := am hc0
 clear hr0 hc0
 have HB := am (Below.refl w.heap.size w)
 have H : (if 0 ≤ a1 then (if a1 < (l0.length : Int) then (joa.l0 k l0 (([] : List Int)) ((je l0 a1).f0) (wrap64 (a1 - 1))) else (none)) else (none)) = some r := h
 clear h
 obtain ⟨y604, hy604⟩ : ∃ y_ : List Int, y_ = (([] : List Int)) := ⟨_, rfl⟩
 replace H : (if 0 ≤ a1 then (if a1 < (l0.length : Int) then (joa.l0 k l0 y604 ((je l0 a1).f0) (wrap64 (a1 - 1))) else (none)) else (none)) = some r := by first | (rw [hy604]; with_reducible exact H) | (have H2_ := (Option.bind_some _ _).symm.trans H; rw [hy604]; with_reducible exact H2_) | (have H2_ := (Option.bind_some _ _).symm.trans H; with_reducible exact H2_) | with_reducible exact H | (rw [hy604]; exact H) | exact H
 have Ny604 := am hy604
 clear hy604
 by_cases c3 : 0 ≤ a1
 ·rw [if_pos c3] at H
  have c3b0 : decide (0 ≤ a1) = true := decide_eq_true c3
  clear c3
  by_cases c4 : a1 < (l0.length : Int)
  ·rw [if_pos c4] at H
   have c4b0 : decide (a1 < (l0.length : Int)) = true := decide_eq_true c4
   clear c4
   have H' := am H
   clear H
   go_enter Try.func35, Try.ntmps35
   go_wp2_with (first | ((with_reducible refine jI (N := 8) rfl ?_); refine Kd.jXb (Kd.int .i64) _ 3 ?hg (N := 8) ?hd (xs := ([] : List Int)) (inner := []) (ok := fun _ => True) (okp := fun _ => True) ?hr ?hp (fun _ hk => hk) trivial (Below.refl _ _) (Nat.le_refl _) (by simp) ?_; (case hd => rfl); (case hg => rfl); (case hr => exact Y5); (case hp => exact (Reps.none _ _)); intro v605 w5 ho6 hb hg_ hnew_; clear hg_ hnew_; (first | rw [← Ny604.out] at ho6 | (simp only [Int.reduceToNat] at ho6; rw [← Ny604.out] at ho6)); have HO606 := am (Kd.jR ho6 (jK (bq))); replace HB := am (jf (bq) hb); clear hb ho6; have p607 : 0 ≤ (a1 : Int) := of_decide_eq_true (uq); have q607 : a1 < (l0.length : Int) := of_decide_eq_true (uq); obtain ⟨ad607, e607, hx607_0, hx607_1, hx607_2, hx607_3⟩ := jsa HR0.out a1 p607 q607; cases e607; replace hx607_0 := cb HB.out hx607_0; replace hx607_1 := cb HB.out hx607_1; replace hx607_2 := cb HB.out hx607_2; replace hx607_3 := cb HB.out hx607_3; replace p607 := eq_true p607; replace q607 := eq_true q607))
   go_loopg [5, 6, 7] k (fun kq v5 v6 v7 w' => ∃ (x5_1 : List Int) (x6_1 : Int) (x7_1 : Int), v6 = .int .i64 x6_1 ∧ v7 = .int .i64 x7_1 ∧ jo (joa.l0 kq l0 x5_1 x6_1 x7_1 = some r) ∧ jo (kq ≤ k) ∧ jo (Kd.R (Kd.int .i64) 3 w' w.heap.size (fun _ => True) v5 x5_1) ∧ jo (Below w.heap.size w w'))
   case atStart => exact ⟨(y604), ((je l0 a1).f0), (wrap64 (a1 - 1)), (sq), (sq), H', ⟨Nat.le_refl _⟩, ⟨rq HO606.out⟩, ⟨bq⟩⟩
   case round =>
    clear H'
    try clear p2
    try clear c3
    try clear c3b0
    try clear c4
    try clear c4b0
    try clear p6
    try clear q6
    try clear hx6
    try clear hx607_0
    try clear hx607_1
    try clear hx607_2
    try clear hx607_3
    try clear p607
    try clear q607
    obtain ⟨x5_1, x6_1, x7_1, rfl, rfl, HA, HK1, HO_5, HB⟩ := hrel
    cases gk with
    | zero => exact absurd HA.out (by simp [joa.l0])
    | succ k1 =>
     have H := HA.out
     clear HA
     simp only [joa.l0] at H
     by_cases c7 : x7_1 ≥ 0
     ·rw [if_pos c7] at H
      have c7b0 : decide (0 ≤ x7_1) = true := decide_eq_true c7
      clear c7
      by_cases c8 : 0 ≤ x7_1
      ·rw [if_pos c8] at H
       have c8b0 : decide (0 ≤ x7_1) = true := decide_eq_true c8
       clear c8
       by_cases c9 : x7_1 < (l0.length : Int)
       ·rw [if_pos c9] at H
        have c9b0 : decide (x7_1 < (l0.length : Int)) = true := decide_eq_true c9
        clear c9
        by_cases c10 : ((je l0 x7_1).f0) < x6_1
        ·rw [if_pos c10] at H
         have c10b0 : decide (((je l0 x7_1).f0) < x6_1) = true := decide_eq_true c10
         clear c10
         by_cases c11 : x5_1.length < 17592186044416
         ·rw [if_pos c11] at H
          have LMc11 := am c11
          clear c11
          obtain ⟨y610, hy610⟩ : ∃ y_ : List Int, y_ = (x5_1 ++ [x7_1]) := ⟨_, rfl⟩
          replace H : (joa.l0 k1 l0 y610 ((je l0 x7_1).f0) (wrap64 (x7_1 - 1))) = some r := by first | (rw [hy610]; with_reducible exact H) | (have H2_ := (Option.bind_some _ _).symm.trans H; rw [hy610]; with_reducible exact H2_) | (have H2_ := (Option.bind_some _ _).symm.trans H; with_reducible exact H2_) | with_reducible exact H | (rw [hy610]; exact H) | exact H
          have Ny610 := am hy610
          clear hy610
          have H' := am H
          clear H
          have p608 : 0 ≤ (x7_1 : Int) := of_decide_eq_true (uq)
          have q608 : x7_1 < (l0.length : Int) := of_decide_eq_true (uq)
          obtain ⟨ad608, e608, hx608_0, hx608_1, hx608_2, hx608_3⟩ := jsa HR0.out x7_1 p608 q608
          obtain rfl : ad607 = ad608 := (by injection e608)
          replace hx608_0 := cb HB.out hx608_0
          replace hx608_1 := cb HB.out hx608_1
          replace hx608_2 := cb HB.out hx608_2
          replace hx608_3 := cb HB.out hx608_3
          replace p608 := eq_true p608
          replace q608 := eq_true q608
          have p609 : 0 ≤ (x7_1 : Int) := of_decide_eq_true (uq)
          have q609 : x7_1 < (l0.length : Int) := of_decide_eq_true (uq)
          obtain ⟨ad609, e609, hx609_0, hx609_1, hx609_2, hx609_3⟩ := jsa HR0.out x7_1 p609 q609
          obtain rfl : ad607 = ad609 := (by injection e609)
          replace hx609_0 := cb HB.out hx609_0
          replace hx609_1 := cb HB.out hx609_1
          replace hx609_2 := cb HB.out hx609_2
          replace hx609_3 := cb HB.out hx609_3
          replace p609 := eq_true p609
          replace q609 := eq_true q609
          go_wp2_with (first | ((with_reducible refine jMa (b := .append) (xs := #[.tmp 32, .tmp 34]) rfl ?_); at_builtin; refine Kd.jWb (Kd.int .i64) (w0 := w) w.heap.size rfl (.tmp 32) (.tmp 34) 29 3 (.int .i64 0) 8 rfl Try.underlying29 info3 rfl (by decide) (by omega) u5 x5_1 x7_1 [.int .i64 x7_1] (fun _ => True) (fun _ => False) rfl rfl ?aP (fun _ hk => hk.elim) ?aF ?aO ?aB ?aS ?aL ?_; (case aP => exact rfl); (case aB => exact (bq)); (case aF => exact (fun _ _ => trivial)); (case aO => exact (rq HO_5.out)); (case aS => exact (jK (bq))); (case aL => have := LMc11.out; omega); intro v611 w12 ho hb hg hat; rw [← Ny610.out] at ho; have n0_ := am (hb); have n1_ := am (ho); clear HB HO_5; have HB := n0_; have HO612 := n1_; clear n0_ n1_ ho hb hg hat))
          go_roundg k1
          case measure => have := HK1.out; omega
          case rel => exact ⟨(y610), ((je l0 x7_1).f0), (wrap64 (x7_1 - 1)), (sq), (sq), H', ⟨by have := HK1.out; omega⟩, ⟨rq HO612.out⟩, ⟨bq⟩⟩
         ·rw [if_neg c11] at H
          exact absurd H (by simp)
        ·rw [if_neg c10] at H
         have c10b0 : decide (((je l0 x7_1).f0) < x6_1) = false := decide_eq_false c10
         clear c10
         have H' := am H
         clear H
         have p608 : 0 ≤ (x7_1 : Int) := of_decide_eq_true (uq)
         have q608 : x7_1 < (l0.length : Int) := of_decide_eq_true (uq)
         obtain ⟨ad608, e608, hx608_0, hx608_1, hx608_2, hx608_3⟩ := jsa HR0.out x7_1 p608 q608
         obtain rfl : ad607 = ad608 := (by injection e608)
         replace hx608_0 := cb HB.out hx608_0
         replace hx608_1 := cb HB.out hx608_1
         replace hx608_2 := cb HB.out hx608_2
         replace hx608_3 := cb HB.out hx608_3
         replace p608 := eq_true p608
         replace q608 := eq_true q608
         go_wp2
         go_roundg k1
         case measure => have := HK1.out; omega
         case rel => exact ⟨(x5_1), (x6_1), (wrap64 (x7_1 - 1)), (sq), (sq), H', ⟨by have := HK1.out; omega⟩, ⟨rq HO_5.out⟩, ⟨bq⟩⟩
       ·rw [if_neg c9] at H
        exact absurd H (by simp)
      ·rw [if_neg c8] at H
       exact absurd H (by simp)
     ·rw [if_neg c7] at H
      have c7b0 : decide (0 ≤ x7_1) = false := decide_eq_false c7
      clear c7
      obtain rfl := Option.some.inj H
      go_wp2
      go_ret
      exact ⟨_, Y0, rq HO_5.out, bq⟩
  ·rw [if_neg c4] at H
   exact absurd H (by simp)
 ·rw [if_neg c3] at H
  exact absurd H (by simp)
def jwa.j0 : Nat → Int → Bool → List (S75) → Int → Int → Int → Int → Option (Bool)
 | 0, _, _, _, _, _, _, _ => none
 | k + 1, x6, x7, x535000, x536000, x536001, x536002, x536003 => if x7 = true then ((jH.f x536002 0 99).bind fun t536 => (if t536 = true then (some (x536003 == 0)) else (some false))) else (if x6 = 2 then ((jpb.f x535000 x536002).bind fun t537 => (if t537 = true then ((jH.f x536003 0 99).bind fun t538 => (some t538)) else (some false))) else (if x6 = 8 then ((jpb.f x535000 x536002).bind fun t539 => (if t539 = true then (some (x536003 == 0)) else (some false))) else (if x6 = 11 then ((jH.f x536002 0 9).bind fun t540 => (if t540 = true then ((jH.f x536003 0 1).bind fun t541 => (some t541)) else (some false))) else (if x6 = 12 then ((jH.f x536002 0 3).bind fun t542 => (if t542 = true then (some (x536003 == 0)) else (some false))) else ((jH.f x536001 0 10).bind fun t543 => (if t543 = true then (if x536002 = 0 then (some (x536003 == 0)) else (some false)) else (some false)))))))
def jwa.f (k : Nat) (l0_0 : List (S75)) (a1_0 : Int) (a1_1 : Int) (a1_2 : Int) (a1_3 : Int) : Option (Bool) := if a1_1 = 1 then (jwa.j0 k a1_1 (a1_1 == 1) l0_0 a1_0 a1_1 a1_2 a1_3) else (jwa.j0 k a1_1 (a1_1 == 4) l0_0 a1_0 a1_1 a1_2 a1_3)
set_option maxHeartbeats 8000000 in
set_option maxRecDepth 100000 in
theorem jwa.calls (k : Nat) (A0_0 : Option Addr) (c0_0 : Nat) (l0_0 : List (S75)) (a1_0 : Int) (a1_1 : Int) (a1_2 : Int) (a1_3 : Int) (r : Bool) (w : World) (hr0_0 : Kd.C k75 w A0_0 l0_0.length l0_0) (hc0_0 : l0_0.length ≤ c0_0) (h : jwa.f k l0_0 a1_0 a1_1 a1_2 a1_3 = some r) :
  Calls Try.prog 93 #[.agg #[.slice A0_0 l0_0.length c0_0], .agg #[.int .i64 a1_0, .int .i64 a1_1, .int .i64 a1_2, .int .i64 a1_3]] w fun e w' => e = .returned (.bool r) ∧ Below w.heap.size w w' := by
 have hu25 := Try.underlying25
 have hu36 := Try.underlying36
 have HR0_0 := am hr0_0
 have HC0_0 := am hc0_0
 clear hr0_0 hc0_0
 have HB := am (Below.refl w.heap.size w)
 have H : (if a1_1 = 1 then (jwa.j0 k a1_1 (a1_1 == 1) l0_0 a1_0 a1_1 a1_2 a1_3) else (jwa.j0 k a1_1 (a1_1 == 4) l0_0 a1_0 a1_1 a1_2 a1_3)) = some r := h
 clear h
 have HC3 := am H
 clear H
 go_enter Try.func93, Try.ntmps93
 go_upto_if 7 with (first | ((with_reducible refine jI (N := 2) rfl ?_); refine bE (N := 2) (cs := #[.slice A0_0 l0_0.length c0_0]) (t := 25) ?_; intro gb534 hg w4 hbox hb; have BK534 := am (hbox); have GW534 := am ((Y4 : w.heap.size ≤ gb534)); have GE534 := am ((Y4 : w.heap.size ≤ gb534)); replace HB := am (jf (bq) hb); clear hb hbox hg) | ((with_reducible refine jI (N := 3) rfl ?_); refine bE (N := 3) (cs := #[.int .i64 a1_0, .int .i64 a1_1, .int .i64 a1_2, .int .i64 a1_3]) (t := 36) ?_; intro gb535 hg w5 hbox hb; have BK535 := am (hbox); have GW535 := am ((Y135 : w.heap.size ≤ gb535)); have GE535 := am ((Y135 : w.heap.size ≤ gb535)); have NB534_535 := am ((by rw [hg]; exact Nat.ne_of_lt (jEb (g := gb534) (o := .cells #[.slice A0_0 l0_0.length c0_0] 25 (0, 0)) (kq BK534.out)) : gb534 ≠ gb535)); have NB535_534 := am ((by rw [hg]; exact Nat.ne_of_gt (jEb (g := gb534) (o := .cells #[.slice A0_0 l0_0.length c0_0] 25 (0, 0)) (kq BK534.out)) : gb535 ≠ gb534)); replace BK534 := am (ji (g := gb534) (o := .cells #[.slice A0_0 l0_0.length c0_0] 25 (0, 0)) (kq BK534.out) hb); replace HB := am (jf (by repeat (first | (with_reducible first | exact HB.out | apply jP | apply jq | apply jQ | refine jM ?_ GE534.out) | exact HB.out)) hb); clear hb hbox hg; have hnb6 := NB535_534.out; have hnc6 := NB534_535.out; have hcz7_0 := bc0 BK535.out; have hcz7_1 := bc1 BK535.out; have hcz7_2 := bc2 BK535.out; have hcz7_3 := bc3 BK535.out; have hfz7_0 := ja BK535.out 0; have hfz7_1 := ja BK535.out 1; have hfz7_2 := ja BK535.out 2; have hfz7_3 := ja BK535.out 3))
 (try simp only [Act.put, List.setIfInBounds_toArray, List.set_cons_zero, List.set_cons_succ])
 go_cut [7] (fun v7 wc => ∃ (kq : Nat) (x7_2 : Bool), v7 = .bool x7_2 ∧ jo (jwa.j0 kq a1_1 x7_2 l0_0 a1_0 a1_1 a1_2 a1_3 = some r) ∧ jo (kq ≤ k) ∧ jo (wc.heap[gb534]? = some (.cells #[(.slice A0_0 l0_0.length c0_0)] 25 (0, 0))) ∧ jo (wc.heap[gb535]? = some (.cells #[.int .i64 a1_0, .int .i64 a1_1, .int .i64 a1_2, .int .i64 a1_3] 36 (0, 0))) ∧ jo (Below w.heap.size w wc))
 case first =>
  have H := HC3.out
  clear HC3
  by_cases c8 : a1_1 = 1
  ·rw [if_pos c8] at H
   have c8b0 : (a1_1 == 1) = true := beq_iff_eq.mpr c8
   have c8b1 : (a1_1 != 1) = false := bne_eq_false_iff_eq.mpr c8
   clear c8
   (first | rw [c8b0] | (simp only [jrb, jvb]; rw [c8b0]) | skip)
   have H' := am H
   clear H
   go_wp2
   go_meet
   case rel => exact ⟨_, ((a1_1 == 1)), (sq), H', ⟨Y36⟩, ⟨kq BK534.out⟩, ⟨kq BK535.out⟩, ⟨Y23⟩⟩
  ·rw [if_neg c8] at H
   have c8b0 : (a1_1 == 1) = false := beq_eq_false_iff_ne.mpr c8
   have c8b1 : (a1_1 != 1) = true := bne_iff_ne.mpr c8
   (first | rw [c8b0] | (simp only [jrb, jvb]; rw [c8b0]) | skip)
   have H' := am H
   clear H
   go_wp2
   go_meet
   case rel => exact ⟨_, ((a1_1 == 4)), (sq), H', ⟨Y36⟩, ⟨kq BK534.out⟩, ⟨kq BK535.out⟩, ⟨Y23⟩⟩
 case rest =>
  clear HC3
  try clear p2
  try clear c6
  try clear c8
  try clear c8b0
  try clear c8b1
  try clear hcz7_0
  try clear hcz7_1
  try clear hcz7_2
  try clear hcz7_3
  try clear hfz7_0
  try clear hfz7_1
  try clear hfz7_2
  try clear hfz7_3
  obtain ⟨kq, x7_2, rfl, HA, HJ2, BK534, BK535, HB⟩ := hcut
  cases kq with
  | zero => exact absurd HA.out (by simp [jwa.j0])
  | succ kj2 =>
   have H := HA.out
   clear HA
   simp only [jwa.j0] at H
   by_cases c9 : x7_2 = true
   ·subst c9
    have H1 : ((jH.f a1_2 0 99).bind fun t536 => (if t536 = true then (some (a1_3 == 0)) else (some false))) = some r := by rw [if_pos rfl] at H; exact H
    clear H
    have H := H1
    clear H1
    replace H := Option.bind_eq_some_iff.mp H
    obtain ⟨t536, A100, H⟩ := H
    replace H : (if t536 = true then (some (a1_3 == 0)) else (some false)) = some r := H
    have A10 := am A100
    clear A100
    by_cases c11 : t536 = true
    ·subst c11
     have H1 : (some (a1_3 == 0)) = some r := by rw [if_pos rfl] at H; exact H
     clear H
     have H := H1
     clear H1
     obtain rfl := Option.some.inj H
     have hnb12 := NB535_534.out
     have hnc12 := NB534_535.out
     have hcz13_0 := bc0 BK535.out
     have hcz13_1 := bc1 BK535.out
     have hcz13_2 := bc2 BK535.out
     have hcz13_3 := bc3 BK535.out
     have hfz13_0 := ja BK535.out 0
     have hfz13_1 := ja BK535.out 1
     have hfz13_2 := ja BK535.out 2
     have hfz13_3 := ja BK535.out 3
     go_wp2_with (first | ((with_reducible refine jd (f := 61) rfl ?_); refine gL (some 12) Try.func61 #[.int .i64 a1_2, .int .i64 0, .int .i64 99] ?_; (with_reducible refine (jH.calls a1_2 0 99 true _ A10.out).mono ?_); rintro e w' ⟨rfl, ⟨nd, rfl⟩⟩; refine ⟨_, rfl, ?_⟩))
     go_ret
     exact ⟨Y0, Y23⟩
    ·replace c11 := Bool.eq_false_iff.mpr c11
     subst c11
     have H1 : (some false) = some r := by rw [if_neg (show ¬ (false = true) by decide)] at H; exact H
     clear H
     have H := H1
     clear H1
     obtain rfl := Option.some.inj H
     have hnb14 := NB535_534.out
     have hnc14 := NB534_535.out
     have hcz15_0 := bc0 BK535.out
     have hcz15_1 := bc1 BK535.out
     have hcz15_2 := bc2 BK535.out
     have hcz15_3 := bc3 BK535.out
     have hfz15_0 := ja BK535.out 0
     have hfz15_1 := ja BK535.out 1
     have hfz15_2 := ja BK535.out 2
     have hfz15_3 := ja BK535.out 3
     go_wp2_with (first | ((with_reducible refine jd (f := 61) rfl ?_); refine gL (some 12) Try.func61 #[.int .i64 a1_2, .int .i64 0, .int .i64 99] ?_; (with_reducible refine (jH.calls a1_2 0 99 false _ A10.out).mono ?_); rintro e w' ⟨rfl, ⟨nd, rfl⟩⟩; refine ⟨_, rfl, ?_⟩))
     go_ret
     exact ⟨Y0, Y23⟩
   ·replace c9 := Bool.eq_false_iff.mpr c9
    subst c9
    have H1 : (if a1_1 = 2 then ((jpb.f l0_0 a1_2).bind fun t537 => (if t537 = true then ((jH.f a1_3 0 99).bind fun t538 => (some t538)) else (some false))) else (if a1_1 = 8 then ((jpb.f l0_0 a1_2).bind fun t539 => (if t539 = true then (some (a1_3 == 0)) else (some false))) else (if a1_1 = 11 then ((jH.f a1_2 0 9).bind fun t540 => (if t540 = true then ((jH.f a1_3 0 1).bind fun t541 => (some t541)) else (some false))) else (if a1_1 = 12 then ((jH.f a1_2 0 3).bind fun t542 => (if t542 = true then (some (a1_3 == 0)) else (some false))) else ((jH.f a1_1 0 10).bind fun t543 => (if t543 = true then (if a1_2 = 0 then (some (a1_3 == 0)) else (some false)) else (some false))))))) = some r := by rw [if_neg (show ¬ (false = true) by decide)] at H; exact H
    clear H
    have H := H1
    clear H1
    by_cases c16 : a1_1 = 2
    ·rw [if_pos c16] at H
     have c16b0 : (a1_1 == 2) = true := beq_iff_eq.mpr c16
     have c16b1 : (a1_1 != 2) = false := bne_eq_false_iff_eq.mpr c16
     clear c16
     replace H := Option.bind_eq_some_iff.mp H
     obtain ⟨t537, A170, H⟩ := H
     replace H : (if t537 = true then ((jH.f a1_3 0 99).bind fun t538 => (some t538)) else (some false)) = some r := H
     have A17 := am A170
     clear A170
     by_cases c18 : t537 = true
     ·subst c18
      have H1 : ((jH.f a1_3 0 99).bind fun t538 => (some t538)) = some r := by rw [if_pos rfl] at H; exact H
      clear H
      have H := H1
      clear H1
      replace H := Option.bind_eq_some_iff.mp H
      obtain ⟨t538, A190, H⟩ := H
      replace H : (some t538) = some r := H
      have A19 := am A190
      clear A190
      obtain rfl := Option.some.inj H
      have hnb20 := NB534_535.out
      have hnc20 := NB535_534.out
      have hcz21_0 := bc0 BK534.out
      have hfz21_0 := ja BK534.out 0
      have hcz22_0 := bc0 BK535.out
      have hcz22_1 := bc1 BK535.out
      have hcz22_2 := bc2 BK535.out
      have hcz22_3 := bc3 BK535.out
      have hfz22_0 := ja BK535.out 0
      have hfz22_1 := ja BK535.out 1
      have hfz22_2 := ja BK535.out 2
      have hfz22_3 := ja BK535.out 3
      go_wp2_with (first | ((with_reducible refine jd (f := 70) rfl ?_); refine gL (some 23) Try.func70 #[.agg #[.slice A0_0 l0_0.length c0_0], .int .i64 a1_2] ?_; (with_reducible refine (jpb.calls _ _ l0_0 a1_2 true _ ?side1 ?side2 A17.out).mono ?_); (case side1 => exact cq (Kd.jU HR0_0.out HB.out)); (case side2 => exact HC0_0.out); rintro e w23 ⟨rfl, hb⟩; refine ⟨_, rfl, ?_⟩; replace BK534 := am (ji (g := gb534) (o := .cells #[.slice A0_0 l0_0.length c0_0] 25 (0, 0)) (kq BK534.out) hb); replace BK535 := am (ji (g := gb535) (o := .cells #[.int .i64 a1_0, .int .i64 a1_1, .int .i64 a1_2, .int .i64 a1_3] 36 (0, 0)) (kq BK535.out) hb); replace HB := am (jf (Y23) hb); (try clear hb); (try clear hb2); (try clear hk); (try clear hi); have hcz24_0 := bc0 BK535.out; have hcz24_1 := bc1 BK535.out; have hcz24_2 := bc2 BK535.out; have hcz24_3 := bc3 BK535.out; have hfz24_0 := ja BK535.out 0; have hfz24_1 := ja BK535.out 1; have hfz24_2 := ja BK535.out 2; have hfz24_3 := ja BK535.out 3) | (go_at_call 61; (with_reducible refine (jH.calls a1_3 0 99 t538 _ A19.out).mono ?_); rintro e w' ⟨rfl, ⟨nd, rfl⟩⟩))
      go_ret
      exact ⟨Y0, Y23⟩
     ·replace c18 := Bool.eq_false_iff.mpr c18
      subst c18
      have H1 : (some false) = some r := by rw [if_neg (show ¬ (false = true) by decide)] at H; exact H
      clear H
      have H := H1
      clear H1
      obtain rfl := Option.some.inj H
      have hnb25 := NB534_535.out
      have hnc25 := NB535_534.out
      have hcz26_0 := bc0 BK534.out
      have hfz26_0 := ja BK534.out 0
      have hcz27_0 := bc0 BK535.out
      have hcz27_1 := bc1 BK535.out
      have hcz27_2 := bc2 BK535.out
      have hcz27_3 := bc3 BK535.out
      have hfz27_0 := ja BK535.out 0
      have hfz27_1 := ja BK535.out 1
      have hfz27_2 := ja BK535.out 2
      have hfz27_3 := ja BK535.out 3
      go_wp2_with (first | ((with_reducible refine jd (f := 70) rfl ?_); refine gL (some 23) Try.func70 #[.agg #[.slice A0_0 l0_0.length c0_0], .int .i64 a1_2] ?_; (with_reducible refine (jpb.calls _ _ l0_0 a1_2 false _ ?side1 ?side2 A17.out).mono ?_); (case side1 => exact cq (Kd.jU HR0_0.out HB.out)); (case side2 => exact HC0_0.out); rintro e w28 ⟨rfl, hb⟩; refine ⟨_, rfl, ?_⟩; replace BK534 := am (ji (g := gb534) (o := .cells #[.slice A0_0 l0_0.length c0_0] 25 (0, 0)) (kq BK534.out) hb); replace BK535 := am (ji (g := gb535) (o := .cells #[.int .i64 a1_0, .int .i64 a1_1, .int .i64 a1_2, .int .i64 a1_3] 36 (0, 0)) (kq BK535.out) hb); replace HB := am (jf (Y23) hb); (try clear hb); (try clear hb2); (try clear hk); (try clear hi)))
      go_ret
      exact ⟨Y0, Y23⟩
    ·rw [if_neg c16] at H
     have c16b0 : (a1_1 == 2) = false := beq_eq_false_iff_ne.mpr c16
     have c16b1 : (a1_1 != 2) = true := bne_iff_ne.mpr c16
     by_cases c29 : a1_1 = 8
     ·rw [if_pos c29] at H
      have c29b0 : (a1_1 == 8) = true := beq_iff_eq.mpr c29
      have c29b1 : (a1_1 != 8) = false := bne_eq_false_iff_eq.mpr c29
      clear c29
      replace H := Option.bind_eq_some_iff.mp H
      obtain ⟨t539, A300, H⟩ := H
      replace H : (if t539 = true then (some (a1_3 == 0)) else (some false)) = some r := H
      have A30 := am A300
      clear A300
      by_cases c31 : t539 = true
      ·subst c31
       have H1 : (some (a1_3 == 0)) = some r := by rw [if_pos rfl] at H; exact H
       clear H
       have H := H1
       clear H1
       obtain rfl := Option.some.inj H
       have hnb32 := NB534_535.out
       have hnc32 := NB535_534.out
       have hcz33_0 := bc0 BK534.out
       have hfz33_0 := ja BK534.out 0
       have hcz34_0 := bc0 BK535.out
       have hcz34_1 := bc1 BK535.out
       have hcz34_2 := bc2 BK535.out
       have hcz34_3 := bc3 BK535.out
       have hfz34_0 := ja BK535.out 0
       have hfz34_1 := ja BK535.out 1
       have hfz34_2 := ja BK535.out 2
       have hfz34_3 := ja BK535.out 3
       go_wp2_with (first | ((with_reducible refine jd (f := 70) rfl ?_); refine gL (some 34) Try.func70 #[.agg #[.slice A0_0 l0_0.length c0_0], .int .i64 a1_2] ?_; (with_reducible refine (jpb.calls _ _ l0_0 a1_2 true _ ?side1 ?side2 A30.out).mono ?_); (case side1 => exact cq (Kd.jU HR0_0.out HB.out)); (case side2 => exact HC0_0.out); rintro e w35 ⟨rfl, hb⟩; refine ⟨_, rfl, ?_⟩; replace BK534 := am (ji (g := gb534) (o := .cells #[.slice A0_0 l0_0.length c0_0] 25 (0, 0)) (kq BK534.out) hb); replace BK535 := am (ji (g := gb535) (o := .cells #[.int .i64 a1_0, .int .i64 a1_1, .int .i64 a1_2, .int .i64 a1_3] 36 (0, 0)) (kq BK535.out) hb); replace HB := am (jf (Y23) hb); (try clear hb); (try clear hb2); (try clear hk); (try clear hi); have hcz36_0 := bc0 BK535.out; have hcz36_1 := bc1 BK535.out; have hcz36_2 := bc2 BK535.out; have hcz36_3 := bc3 BK535.out; have hfz36_0 := ja BK535.out 0; have hfz36_1 := ja BK535.out 1; have hfz36_2 := ja BK535.out 2; have hfz36_3 := ja BK535.out 3))
       go_ret
       exact ⟨Y0, Y23⟩
      ·replace c31 := Bool.eq_false_iff.mpr c31
       subst c31
       have H1 : (some false) = some r := by rw [if_neg (show ¬ (false = true) by decide)] at H; exact H
       clear H
       have H := H1
       clear H1
       obtain rfl := Option.some.inj H
       have hnb37 := NB534_535.out
       have hnc37 := NB535_534.out
       have hcz38_0 := bc0 BK534.out
       have hfz38_0 := ja BK534.out 0
       have hcz39_0 := bc0 BK535.out
       have hcz39_1 := bc1 BK535.out
       have hcz39_2 := bc2 BK535.out
       have hcz39_3 := bc3 BK535.out
       have hfz39_0 := ja BK535.out 0
       have hfz39_1 := ja BK535.out 1
       have hfz39_2 := ja BK535.out 2
       have hfz39_3 := ja BK535.out 3
       go_wp2_with (first | ((with_reducible refine jd (f := 70) rfl ?_); refine gL (some 34) Try.func70 #[.agg #[.slice A0_0 l0_0.length c0_0], .int .i64 a1_2] ?_; (with_reducible refine (jpb.calls _ _ l0_0 a1_2 false _ ?side1 ?side2 A30.out).mono ?_); (case side1 => exact cq (Kd.jU HR0_0.out HB.out)); (case side2 => exact HC0_0.out); rintro e w40 ⟨rfl, hb⟩; refine ⟨_, rfl, ?_⟩; replace BK534 := am (ji (g := gb534) (o := .cells #[.slice A0_0 l0_0.length c0_0] 25 (0, 0)) (kq BK534.out) hb); replace BK535 := am (ji (g := gb535) (o := .cells #[.int .i64 a1_0, .int .i64 a1_1, .int .i64 a1_2, .int .i64 a1_3] 36 (0, 0)) (kq BK535.out) hb); replace HB := am (jf (Y23) hb); (try clear hb); (try clear hb2); (try clear hk); (try clear hi)))
       go_ret
       exact ⟨Y0, Y23⟩
     ·rw [if_neg c29] at H
      have c29b0 : (a1_1 == 8) = false := beq_eq_false_iff_ne.mpr c29
      have c29b1 : (a1_1 != 8) = true := bne_iff_ne.mpr c29
      by_cases c41 : a1_1 = 11
      ·rw [if_pos c41] at H
       have c41b0 : (a1_1 == 11) = true := beq_iff_eq.mpr c41
       have c41b1 : (a1_1 != 11) = false := bne_eq_false_iff_eq.mpr c41
       clear c41
       replace H := Option.bind_eq_some_iff.mp H
       obtain ⟨t540, A420, H⟩ := H
       replace H : (if t540 = true then ((jH.f a1_3 0 1).bind fun t541 => (some t541)) else (some false)) = some r := H
       have A42 := am A420
       clear A420
       by_cases c43 : t540 = true
       ·subst c43
        have H1 : ((jH.f a1_3 0 1).bind fun t541 => (some t541)) = some r := by rw [if_pos rfl] at H; exact H
        clear H
        have H := H1
        clear H1
        replace H := Option.bind_eq_some_iff.mp H
        obtain ⟨t541, A440, H⟩ := H
        replace H : (some t541) = some r := H
        have A44 := am A440
        clear A440
        obtain rfl := Option.some.inj H
        have hnb45 := NB535_534.out
        have hnc45 := NB534_535.out
        have hcz46_0 := bc0 BK535.out
        have hcz46_1 := bc1 BK535.out
        have hcz46_2 := bc2 BK535.out
        have hcz46_3 := bc3 BK535.out
        have hfz46_0 := ja BK535.out 0
        have hfz46_1 := ja BK535.out 1
        have hfz46_2 := ja BK535.out 2
        have hfz46_3 := ja BK535.out 3
        go_wp2_with (first | ((with_reducible refine jd (f := 61) rfl ?_); refine gL (some 44) Try.func61 #[.int .i64 a1_2, .int .i64 0, .int .i64 9] ?_; (with_reducible refine (jH.calls a1_2 0 9 true _ A42.out).mono ?_); rintro e w' ⟨rfl, ⟨nd, rfl⟩⟩; refine ⟨_, rfl, ?_⟩) | (go_at_call 61; (with_reducible refine (jH.calls a1_3 0 1 t541 _ A44.out).mono ?_); rintro e w' ⟨rfl, ⟨nd, rfl⟩⟩))
        go_ret
        exact ⟨Y0, Y23⟩
       ·replace c43 := Bool.eq_false_iff.mpr c43
        subst c43
        have H1 : (some false) = some r := by rw [if_neg (show ¬ (false = true) by decide)] at H; exact H
        clear H
        have H := H1
        clear H1
        obtain rfl := Option.some.inj H
        have hnb47 := NB535_534.out
        have hnc47 := NB534_535.out
        have hcz48_0 := bc0 BK535.out
        have hcz48_1 := bc1 BK535.out
        have hcz48_2 := bc2 BK535.out
        have hcz48_3 := bc3 BK535.out
        have hfz48_0 := ja BK535.out 0
        have hfz48_1 := ja BK535.out 1
        have hfz48_2 := ja BK535.out 2
        have hfz48_3 := ja BK535.out 3
        go_wp2_with (first | ((with_reducible refine jd (f := 61) rfl ?_); refine gL (some 44) Try.func61 #[.int .i64 a1_2, .int .i64 0, .int .i64 9] ?_; (with_reducible refine (jH.calls a1_2 0 9 false _ A42.out).mono ?_); rintro e w' ⟨rfl, ⟨nd, rfl⟩⟩; refine ⟨_, rfl, ?_⟩))
        go_ret
        exact ⟨Y0, Y23⟩
      ·rw [if_neg c41] at H
       have c41b0 : (a1_1 == 11) = false := beq_eq_false_iff_ne.mpr c41
       have c41b1 : (a1_1 != 11) = true := bne_iff_ne.mpr c41
       by_cases c49 : a1_1 = 12
       ·rw [if_pos c49] at H
        have c49b0 : (a1_1 == 12) = true := beq_iff_eq.mpr c49
        have c49b1 : (a1_1 != 12) = false := bne_eq_false_iff_eq.mpr c49
        clear c49
        replace H := Option.bind_eq_some_iff.mp H
        obtain ⟨t542, A500, H⟩ := H
        replace H : (if t542 = true then (some (a1_3 == 0)) else (some false)) = some r := H
        have A50 := am A500
        clear A500
        by_cases c51 : t542 = true
        ·subst c51
         have H1 : (some (a1_3 == 0)) = some r := by rw [if_pos rfl] at H; exact H
         clear H
         have H := H1
         clear H1
         obtain rfl := Option.some.inj H
         have hnb52 := NB535_534.out
         have hnc52 := NB534_535.out
         have hcz53_0 := bc0 BK535.out
         have hcz53_1 := bc1 BK535.out
         have hcz53_2 := bc2 BK535.out
         have hcz53_3 := bc3 BK535.out
         have hfz53_0 := ja BK535.out 0
         have hfz53_1 := ja BK535.out 1
         have hfz53_2 := ja BK535.out 2
         have hfz53_3 := ja BK535.out 3
         go_wp2_with (first | ((with_reducible refine jd (f := 61) rfl ?_); refine gL (some 54) Try.func61 #[.int .i64 a1_2, .int .i64 0, .int .i64 3] ?_; (with_reducible refine (jH.calls a1_2 0 3 true _ A50.out).mono ?_); rintro e w' ⟨rfl, ⟨nd, rfl⟩⟩; refine ⟨_, rfl, ?_⟩))
         go_ret
         exact ⟨Y0, Y23⟩
        ·replace c51 := Bool.eq_false_iff.mpr c51
         subst c51
         have H1 : (some false) = some r := by rw [if_neg (show ¬ (false = true) by decide)] at H; exact H
         clear H
         have H := H1
         clear H1
         obtain rfl := Option.some.inj H
         have hnb54 := NB535_534.out
         have hnc54 := NB534_535.out
         have hcz55_0 := bc0 BK535.out
         have hcz55_1 := bc1 BK535.out
         have hcz55_2 := bc2 BK535.out
         have hcz55_3 := bc3 BK535.out
         have hfz55_0 := ja BK535.out 0
         have hfz55_1 := ja BK535.out 1
         have hfz55_2 := ja BK535.out 2
         have hfz55_3 := ja BK535.out 3
         go_wp2_with (first | ((with_reducible refine jd (f := 61) rfl ?_); refine gL (some 54) Try.func61 #[.int .i64 a1_2, .int .i64 0, .int .i64 3] ?_; (with_reducible refine (jH.calls a1_2 0 3 false _ A50.out).mono ?_); rintro e w' ⟨rfl, ⟨nd, rfl⟩⟩; refine ⟨_, rfl, ?_⟩))
         go_ret
         exact ⟨Y0, Y23⟩
       ·rw [if_neg c49] at H
        have c49b0 : (a1_1 == 12) = false := beq_eq_false_iff_ne.mpr c49
        have c49b1 : (a1_1 != 12) = true := bne_iff_ne.mpr c49
        replace H := Option.bind_eq_some_iff.mp H
        obtain ⟨t543, A560, H⟩ := H
        replace H : (if t543 = true then (if a1_2 = 0 then (some (a1_3 == 0)) else (some false)) else (some false)) = some r := H
        have A56 := am A560
        clear A560
        by_cases c57 : t543 = true
        ·subst c57
         have H1 : (if a1_2 = 0 then (some (a1_3 == 0)) else (some false)) = some r := by rw [if_pos rfl] at H; exact H
         clear H
         have H := H1
         clear H1
         by_cases c58 : a1_2 = 0
         ·rw [if_pos c58] at H
          have c58b0 : (a1_2 == 0) = true := beq_iff_eq.mpr c58
          have c58b1 : (a1_2 != 0) = false := bne_eq_false_iff_eq.mpr c58
          clear c58
          obtain rfl := Option.some.inj H
          have hnb59 := NB535_534.out
          have hnc59 := NB534_535.out
          have hcz60_0 := bc0 BK535.out
          have hcz60_1 := bc1 BK535.out
          have hcz60_2 := bc2 BK535.out
          have hcz60_3 := bc3 BK535.out
          have hfz60_0 := ja BK535.out 0
          have hfz60_1 := ja BK535.out 1
          have hfz60_2 := ja BK535.out 2
          have hfz60_3 := ja BK535.out 3
          go_wp2_with (first | ((with_reducible refine jd (f := 61) rfl ?_); refine gL (some 62) Try.func61 #[.int .i64 a1_1, .int .i64 0, .int .i64 10] ?_; (with_reducible refine (jH.calls a1_1 0 10 true _ A56.out).mono ?_); rintro e w' ⟨rfl, ⟨nd, rfl⟩⟩; refine ⟨_, rfl, ?_⟩))
          go_ret
          exact ⟨Y0, Y23⟩
         ·rw [if_neg c58] at H
          have c58b0 : (a1_2 == 0) = false := beq_eq_false_iff_ne.mpr c58
          have c58b1 : (a1_2 != 0) = true := bne_iff_ne.mpr c58
          obtain rfl := Option.some.inj H
          have hnb61 := NB535_534.out
          have hnc61 := NB534_535.out
          have hcz62_0 := bc0 BK535.out
          have hcz62_1 := bc1 BK535.out
          have hcz62_2 := bc2 BK535.out
          have hcz62_3 := bc3 BK535.out
          have hfz62_0 := ja BK535.out 0
          have hfz62_1 := ja BK535.out 1
          have hfz62_2 := ja BK535.out 2
          have hfz62_3 := ja BK535.out 3
          go_wp2_with (first | ((with_reducible refine jd (f := 61) rfl ?_); refine gL (some 62) Try.func61 #[.int .i64 a1_1, .int .i64 0, .int .i64 10] ?_; (with_reducible refine (jH.calls a1_1 0 10 true _ A56.out).mono ?_); rintro e w' ⟨rfl, ⟨nd, rfl⟩⟩; refine ⟨_, rfl, ?_⟩))
          go_ret
          exact ⟨Y0, Y23⟩
        ·replace c57 := Bool.eq_false_iff.mpr c57
         subst c57
         have H1 : (some false) = some r := by rw [if_neg (show ¬ (false = true) by decide)] at H; exact H
         clear H
         have H := H1
         clear H1
         obtain rfl := Option.some.inj H
         have hnb63 := NB535_534.out
         have hnc63 := NB534_535.out
         have hcz64_0 := bc0 BK535.out
         have hcz64_1 := bc1 BK535.out
         have hcz64_2 := bc2 BK535.out
         have hcz64_3 := bc3 BK535.out
         have hfz64_0 := ja BK535.out 0
         have hfz64_1 := ja BK535.out 1
         have hfz64_2 := ja BK535.out 2
         have hfz64_3 := ja BK535.out 3
         go_wp2_with (first | ((with_reducible refine jd (f := 61) rfl ?_); refine gL (some 62) Try.func61 #[.int .i64 a1_1, .int .i64 0, .int .i64 10] ?_; (with_reducible refine (jH.calls a1_1 0 10 false _ A56.out).mono ?_); rintro e w' ⟨rfl, ⟨nd, rfl⟩⟩; refine ⟨_, rfl, ?_⟩))
         go_ret
         exact ⟨Y0, Y23⟩
def jKc.f (a0 : Int) : Option (Bool) := (jH.f a0 7 12).bind fun t544 => (some t544)
set_option maxHeartbeats 8000000 in
set_option maxRecDepth 100000 in
theorem jKc.calls (a0 : Int) (r : Bool) (w : World) (h : jKc.f a0 = some r) :
  Calls Try.prog 94 #[.int .i64 a0] w fun e w' => e = .returned (.bool r) ∧ jnb w w' := by
 have H : ((jH.f a0 7 12).bind fun t544 => (some t544)) = some r := h
 clear h
 replace H := Option.bind_eq_some_iff.mp H
 obtain ⟨t544, A20, H⟩ := H
 replace H : (some t544) = some r := H
 have A2 := am A20
 clear A20
 obtain rfl := Option.some.inj H
 go_enter Try.func94, Try.ntmps94
 go_wp2_with (first | ((with_reducible refine jd (f := 61) rfl ?_); refine gL (some 4) Try.func61 #[.int .i64 a0, .int .i64 7, .int .i64 12] ?_; (with_reducible refine (jH.calls a0 7 12 t544 _ A2.out).mono ?_); rintro e w' ⟨rfl, ⟨nd, rfl⟩⟩; refine ⟨_, rfl, ?_⟩))
 go_ret
 exact ⟨sq, Y7⟩
mutual
def jE.l0 : Nat → List (S36) → List Int → Int → Int → Option (Bool)
 | 0, _, _, _, _ => none
 | k + 1, x0, x5, x6, x7 => if x7 < (x5.length : Int) then (if 0 ≤ x7 then (if 0 ≤ (rd x5 x7) then (if (rd x5 x7) < (x0.length : Int) then (if ((je x0 (rd x5 x7)).f1) = 8 then (jE.j1 k x0 x5 (wrap64 (x6 + 1)) x7 ((je x0 (rd x5 x7)).f1)) else (jE.j1 k x0 x5 x6 x7 ((je x0 (rd x5 x7)).f1))) else (none)) else (none)) else (none)) else (if (x5.length : Int) > 1 then (some (decide (x6 ≤ 6))) else (some false))
def jE.j1 : Nat → List (S36) → List Int → Int → Int → Int → Option (Bool)
 | 0, _, _, _, _, _ => none
 | k + 1, x0, x5, x6, x7, x8 => if x7 > 1 then (if 0 ≤ (wrap64 (x7 - 1)) then (if (wrap64 (x7 - 1)) < (x5.length : Int) then (if 0 ≤ (rd x5 (wrap64 (x7 - 1))) then (if (rd x5 (wrap64 (x7 - 1))) < (x0.length : Int) then (if x8 < ((je x0 (rd x5 (wrap64 (x7 - 1)))).f1) then (jE.j2 k x0 x5 x6 x7 true) else (if x8 = ((je x0 (rd x5 (wrap64 (x7 - 1)))).f1) then (if x8 = 8 then (if x8 = 9 then (jE.j2 k x0 x5 x6 x7 (x6 == 0)) else (jE.j2 k x0 x5 x6 x7 false)) else (jE.j2 k x0 x5 x6 x7 true)) else (if x8 = 9 then (jE.j2 k x0 x5 x6 x7 (x6 == 0)) else (jE.j2 k x0 x5 x6 x7 false)))) else (none)) else (none)) else (none)) else (none)) else (if x8 = 9 then (jE.j2 k x0 x5 x6 x7 (x6 == 0)) else (jE.j2 k x0 x5 x6 x7 false))
def jE.j2 : Nat → List (S36) → List Int → Int → Int → Bool → Option (Bool)
 | 0, _, _, _, _, _ => none
 | k + 1, x0, x5, x6, x7, x69 => if x69 = true then (some false) else (jE.l0 k x0 x5 x6 (wrap64 (x7 + 1)))
end
def jE.f (k : Nat) (l0 : List (S36)) (a1 : Int) : Option (Bool) := (jua.f k l0 a1).bind fun t560 => (jE.l0 k l0 t560 0 1)
set_option maxHeartbeats 8000000 in
set_option maxRecDepth 100000 in
theorem jE.calls (k : Nat) (A0 : Option Addr) (c0 : Nat) (l0 : List (S36)) (a1 : Int) (r : Bool) (w : World) (hr0 : Kd.C k36 w A0 l0.length l0) (hc0 : l0.length ≤ c0) (h : jE.f k l0 a1 = some r) :
  Calls Try.prog 95 #[.slice A0 l0.length c0, .int .i64 a1] w fun e w' => e = .returned (.bool r) ∧ Below w.heap.size w w' := by
 have HR0 := am hr0
 have HC0 := am hc0
 clear hr0 hc0
 have HB := am (Below.refl w.heap.size w)
 have H : ((jua.f k l0 a1).bind fun t560 => (jE.l0 k l0 t560 0 1)) = some r := h
 clear h
 replace H := Option.bind_eq_some_iff.mp H
 obtain ⟨t560, A30, H⟩ := H
 replace H : (jE.l0 k l0 t560 0 1) = some r := H
 have A3 := am A30
 clear A30
 have H' := am H
 clear H
 go_enter Try.func95, Try.ntmps95
 go_wp2_with (first | ((with_reducible refine jd (f := 71) rfl ?_); refine gL (some 11) Try.func71 #[.slice A0 l0.length c0, .int .i64 a1] ?_; (with_reducible refine (jua.calls k _ _ l0 a1 t560 _ ?side1 ?side2 A3.out).mono ?_); (case side1 => exact Y32); (case side2 => exact HC0.out); rintro e w4 ⟨v561, rfl, ho0, hb⟩; refine ⟨_, rfl, ?_⟩; have HO562 := am (Kd.jR ho0 (jK (bq))); replace HB := am (jf (bq) hb); (try clear hb); (try clear hb2); (try clear hk); (try clear hi); (try clear ho0)))
 go_loopg [6, 7] k (fun kq v6 v7 w' => ∃ (x6_1 : Int) (x7_1 : Int), v6 = .int .i64 x6_1 ∧ v7 = .int .i64 x7_1 ∧ jo (jE.l0 kq l0 t560 x6_1 x7_1 = some r) ∧ jo (kq ≤ k) ∧ jo (Kd.R (Kd.int .i64) 3 w' w.heap.size (fun _ => True) v561 t560) ∧ jo (Below w.heap.size w w'))
 case atStart => exact ⟨(0), (1), (sq), (sq), H', ⟨Nat.le_refl _⟩, ⟨rq HO562.out⟩, ⟨bq⟩⟩
 case round =>
  clear H'
  try clear p2
  obtain ⟨x6_1, x7_1, rfl, rfl, HA, HK1, HO_5, HB⟩ := hrel
  cases gk with
  | zero => exact absurd HA.out (by simp [jE.l0])
  | succ k1 =>
   have H := HA.out
   clear HA
   simp only [jE.l0] at H
   by_cases c5 : x7_1 < (t560.length : Int)
   ·rw [if_pos c5] at H
    have c5b0 : decide (x7_1 < (t560.length : Int)) = true := decide_eq_true c5
    clear c5
    by_cases c6 : 0 ≤ x7_1
    ·rw [if_pos c6] at H
     have c6b0 : decide (0 ≤ x7_1) = true := decide_eq_true c6
     clear c6
     by_cases c7 : 0 ≤ (rd t560 x7_1)
     ·rw [if_pos c7] at H
      have c7b0 : decide (0 ≤ (rd t560 x7_1)) = true := decide_eq_true c7
      clear c7
      by_cases c8 : (rd t560 x7_1) < (l0.length : Int)
      ·rw [if_pos c8] at H
       have c8b0 : decide ((rd t560 x7_1) < (l0.length : Int)) = true := decide_eq_true c8
       clear c8
       have HC9 := am H
       clear H
       obtain ⟨Ao10, co10, eo10⟩ := Kd.jY HO_5.out
       subst eo10
       have p563 : 0 ≤ (x7_1 : Int) := of_decide_eq_true (uq)
       have q563 : x7_1 < (t560.length : Int) := of_decide_eq_true (uq)
       obtain ⟨ad563, e563, hx563_0⟩ := Kd.jtb (Kd.jm HO_5.out).2.2 x7_1 p563 q563
       cases e563
       replace p563 := eq_true p563
       replace q563 := eq_true q563
       have p564 : 0 ≤ ((rd t560 x7_1) : Int) := of_decide_eq_true (uq)
       have q564 : (rd t560 x7_1) < (l0.length : Int) := of_decide_eq_true (uq)
       obtain ⟨ad564, e564, hx564_0, hx564_1, hx564_2, hx564_3⟩ := jsa HR0.out (rd t560 x7_1) p564 q564
       cases e564
       replace hx564_0 := cb HB.out hx564_0
       replace hx564_1 := cb HB.out hx564_1
       replace hx564_2 := cb HB.out hx564_2
       replace hx564_3 := cb HB.out hx564_3
       replace p564 := eq_true p564
       replace q564 := eq_true q564
       go_upto_if 27 with (fail)
       go_cut [6] (fun v6 wc => ∃ (kq : Nat) (x6_8 : Int), v6 = .int .i64 x6_8 ∧ jo (jE.j1 kq l0 t560 x6_8 x7_1 ((je l0 (rd t560 x7_1)).f1) = some r) ∧ jo (kq ≤ k1) ∧ jo (Kd.R (Kd.int .i64) 3 wc w.heap.size (fun _ => True) (.slice (some ad563) t560.length co10) t560) ∧ jo (Below w.heap.size w wc))
       case first =>
        have H := HC9.out
        clear HC9
        by_cases c11 : ((je l0 (rd t560 x7_1)).f1) = 8
        ·rw [if_pos c11] at H
         have c11b0 : (((je l0 (rd t560 x7_1)).f1) == 8) = true := beq_iff_eq.mpr c11
         have c11b1 : (((je l0 (rd t560 x7_1)).f1) != 8) = false := bne_eq_false_iff_eq.mpr c11
         clear c11
         (first | rw [c11b0] | (simp only [jrb, jvb]; rw [c11b0]) | skip)
         have H' := am H
         clear H
         go_wp2
         go_meet
         case rel => exact ⟨_, (wrap64 (x6_1 + 1)), (sq), H', ⟨by have := HK1.out; first | omega | exact Nat.le_refl _⟩, ⟨rq HO_5.out⟩, ⟨bq⟩⟩
        ·rw [if_neg c11] at H
         have c11b0 : (((je l0 (rd t560 x7_1)).f1) == 8) = false := beq_eq_false_iff_ne.mpr c11
         have c11b1 : (((je l0 (rd t560 x7_1)).f1) != 8) = true := bne_iff_ne.mpr c11
         (first | rw [c11b0] | (simp only [jrb, jvb]; rw [c11b0]) | skip)
         have H' := am H
         clear H
         go_wp2
         go_meet
         case rel => exact ⟨_, (x6_1), (sq), H', ⟨by have := HK1.out; first | omega | exact Nat.le_refl _⟩, ⟨rq HO_5.out⟩, ⟨bq⟩⟩
       case rest =>
        clear HC9
        try clear c1
        try clear p2
        try clear c5
        try clear c5b0
        try clear p5
        try clear q5
        try clear hx5
        try clear c6
        try clear c6b0
        try clear p6
        try clear c7
        try clear c7b0
        try clear c8
        try clear c8b0
        try clear c9
        try clear c11
        try clear c11b0
        try clear c11b1
        try clear hx563_0
        try clear hx564_0
        try clear hx564_1
        try clear hx564_2
        try clear hx564_3
        try clear p2
        try clear p563
        try clear p564
        try clear q563
        try clear q564
        obtain ⟨kq, x6_8, rfl, HA, HJ8, HO_5, HB⟩ := hcut
        cases kq with
        | zero => exact absurd HA.out (by simp [jE.j1])
        | succ kj8 =>
         have H := HA.out
         clear HA
         simp only [jE.j1] at H
         have HC12 := am H
         clear H
         go_upto_region 9 with (fail)
         go_cut [69] (fun v69 wc => ∃ (kq : Nat) (x69_11 : Bool), v69 = .bool x69_11 ∧ jo (jE.j2 kq l0 t560 x6_8 x7_1 x69_11 = some r) ∧ jo (kq ≤ kj8) ∧ jo (Kd.R (Kd.int .i64) 3 wc w.heap.size (fun _ => True) (.slice (some ad563) t560.length co10) t560) ∧ jo (Below w.heap.size w wc))
         case first =>
          have H := HC12.out
          clear HC12
          by_cases c13 : x7_1 > 1
          ·rw [if_pos c13] at H
           have c13b0 : decide (1 < x7_1) = true := decide_eq_true c13
           clear c13
           (first | rw [c13b0] | (simp only [jrb, jvb]; rw [c13b0]) | skip)
           obtain ⟨ji14, hji14⟩ : ∃ j_ : Int, (wrap64 (x7_1 - 1)) = j_ := ⟨_, rfl⟩
           replace H : (if 0 ≤ (ji14) then (if (ji14) < (t560.length : Int) then (if 0 ≤ (rd t560 (ji14)) then (if (rd t560 (ji14)) < (l0.length : Int) then (if ((je l0 (rd t560 x7_1)).f1) < ((je l0 (rd t560 (ji14))).f1) then (jE.j2 kj8 l0 t560 x6_8 x7_1 true) else (if ((je l0 (rd t560 x7_1)).f1) = ((je l0 (rd t560 (ji14))).f1) then (if ((je l0 (rd t560 x7_1)).f1) = 8 then (if ((je l0 (rd t560 x7_1)).f1) = 9 then (jE.j2 kj8 l0 t560 x6_8 x7_1 (x6_8 == 0)) else (jE.j2 kj8 l0 t560 x6_8 x7_1 false)) else (jE.j2 kj8 l0 t560 x6_8 x7_1 true)) else (if ((je l0 (rd t560 x7_1)).f1) = 9 then (jE.j2 kj8 l0 t560 x6_8 x7_1 (x6_8 == 0)) else (jE.j2 kj8 l0 t560 x6_8 x7_1 false)))) else (none)) else (none)) else (none)) else (none)) = some r := by first | (rw [hji14] at H; exact H) | (simp only [hji14] at H ⊢; exact H)
           have hji14w : (IntKind.i64.wrap (x7_1 - 1)) = ji14 := (jrb _).trans hji14
           by_cases c15 : 0 ≤ (ji14)
           ·rw [if_pos c15] at H
            have c15b0 : decide (0 ≤ (ji14)) = true := decide_eq_true c15
            clear c15
            by_cases c16 : (ji14) < (t560.length : Int)
            ·rw [if_pos c16] at H
             have c16b0 : decide ((ji14) < (t560.length : Int)) = true := decide_eq_true c16
             clear c16
             by_cases c17 : 0 ≤ (rd t560 (ji14))
             ·rw [if_pos c17] at H
              have c17b0 : decide (0 ≤ (rd t560 (ji14))) = true := decide_eq_true c17
              clear c17
              by_cases c18 : (rd t560 (ji14)) < (l0.length : Int)
              ·rw [if_pos c18] at H
               have c18b0 : decide ((rd t560 (ji14)) < (l0.length : Int)) = true := decide_eq_true c18
               clear c18
               by_cases c19 : ((je l0 (rd t560 x7_1)).f1) < ((je l0 (rd t560 (ji14))).f1)
               ·rw [if_pos c19] at H
                have c19b0 : decide (((je l0 (rd t560 x7_1)).f1) < ((je l0 (rd t560 (ji14))).f1)) = true := decide_eq_true c19
                clear c19
                have H' := am H
                clear H
                have p565 : 0 ≤ ((ji14) : Int) := of_decide_eq_true (uq)
                have q565 : (ji14) < (t560.length : Int) := of_decide_eq_true (uq)
                obtain ⟨ad565, e565, hx565_0⟩ := Kd.jtb (Kd.jm HO_5.out).2.2 (ji14) p565 q565
                obtain rfl : ad563 = ad565 := (by injection e565)
                replace p565 := eq_true p565
                replace q565 := eq_true q565
                have p566 : 0 ≤ ((rd t560 (ji14)) : Int) := of_decide_eq_true (uq)
                have q566 : (rd t560 (ji14)) < (l0.length : Int) := of_decide_eq_true (uq)
                obtain ⟨ad566, e566, hx566_0, hx566_1, hx566_2, hx566_3⟩ := jsa HR0.out (rd t560 (ji14)) p566 q566
                obtain rfl : ad564 = ad566 := (by injection e566)
                replace hx566_0 := cb HB.out hx566_0
                replace hx566_1 := cb HB.out hx566_1
                replace hx566_2 := cb HB.out hx566_2
                replace hx566_3 := cb HB.out hx566_3
                replace p566 := eq_true p566
                replace q566 := eq_true q566
                go_wp2
                go_meet
                case rel => exact ⟨_, (true), (sq), H', ⟨by have := HK1.out; have := HJ8.out; first | omega | exact Nat.le_refl _⟩, ⟨rq HO_5.out⟩, ⟨bq⟩⟩
               ·rw [if_neg c19] at H
                have c19b0 : decide (((je l0 (rd t560 x7_1)).f1) < ((je l0 (rd t560 (ji14))).f1)) = false := decide_eq_false c19
                clear c19
                by_cases c20 : ((je l0 (rd t560 x7_1)).f1) = ((je l0 (rd t560 (ji14))).f1)
                ·rw [if_pos c20] at H
                 have c20b0 : (((je l0 (rd t560 x7_1)).f1) == ((je l0 (rd t560 (ji14))).f1)) = true := beq_iff_eq.mpr c20
                 have c20b1 : (((je l0 (rd t560 x7_1)).f1) != ((je l0 (rd t560 (ji14))).f1)) = false := bne_eq_false_iff_eq.mpr c20
                 clear c20
                 by_cases c21 : ((je l0 (rd t560 x7_1)).f1) = 8
                 ·rw [if_pos c21] at H
                  have c21b0 : (((je l0 (rd t560 x7_1)).f1) == 8) = true := beq_iff_eq.mpr c21
                  have c21b1 : (((je l0 (rd t560 x7_1)).f1) != 8) = false := bne_eq_false_iff_eq.mpr c21
                  clear c21
                  by_cases c22 : ((je l0 (rd t560 x7_1)).f1) = 9
                  ·rw [if_pos c22] at H
                   have c22b0 : (((je l0 (rd t560 x7_1)).f1) == 9) = true := beq_iff_eq.mpr c22
                   have c22b1 : (((je l0 (rd t560 x7_1)).f1) != 9) = false := bne_eq_false_iff_eq.mpr c22
                   clear c22
                   have H' := am H
                   clear H
                   have p565 : 0 ≤ ((ji14) : Int) := of_decide_eq_true (uq)
                   have q565 : (ji14) < (t560.length : Int) := of_decide_eq_true (uq)
                   obtain ⟨ad565, e565, hx565_0⟩ := Kd.jtb (Kd.jm HO_5.out).2.2 (ji14) p565 q565
                   obtain rfl : ad563 = ad565 := (by injection e565)
                   replace p565 := eq_true p565
                   replace q565 := eq_true q565
                   have p566 : 0 ≤ ((rd t560 (ji14)) : Int) := of_decide_eq_true (uq)
                   have q566 : (rd t560 (ji14)) < (l0.length : Int) := of_decide_eq_true (uq)
                   obtain ⟨ad566, e566, hx566_0, hx566_1, hx566_2, hx566_3⟩ := jsa HR0.out (rd t560 (ji14)) p566 q566
                   obtain rfl : ad564 = ad566 := (by injection e566)
                   replace hx566_0 := cb HB.out hx566_0
                   replace hx566_1 := cb HB.out hx566_1
                   replace hx566_2 := cb HB.out hx566_2
                   replace hx566_3 := cb HB.out hx566_3
                   replace p566 := eq_true p566
                   replace q566 := eq_true q566
                   have p567 : 0 ≤ ((ji14) : Int) := of_decide_eq_true (uq)
                   have q567 : (ji14) < (t560.length : Int) := of_decide_eq_true (uq)
                   obtain ⟨ad567, e567, hx567_0⟩ := Kd.jtb (Kd.jm HO_5.out).2.2 (ji14) p567 q567
                   obtain rfl : ad563 = ad567 := (by injection e567)
                   replace p567 := eq_true p567
                   replace q567 := eq_true q567
                   have p568 : 0 ≤ ((rd t560 (ji14)) : Int) := of_decide_eq_true (uq)
                   have q568 : (rd t560 (ji14)) < (l0.length : Int) := of_decide_eq_true (uq)
                   obtain ⟨ad568, e568, hx568_0, hx568_1, hx568_2, hx568_3⟩ := jsa HR0.out (rd t560 (ji14)) p568 q568
                   obtain rfl : ad564 = ad568 := (by injection e568)
                   replace hx568_0 := cb HB.out hx568_0
                   replace hx568_1 := cb HB.out hx568_1
                   replace hx568_2 := cb HB.out hx568_2
                   replace hx568_3 := cb HB.out hx568_3
                   replace p568 := eq_true p568
                   replace q568 := eq_true q568
                   go_wp2
                   go_meet
                   case rel => exact ⟨_, ((x6_8 == 0)), (sq), H', ⟨by have := HK1.out; have := HJ8.out; first | omega | exact Nat.le_refl _⟩, ⟨rq HO_5.out⟩, ⟨bq⟩⟩
                  ·rw [if_neg c22] at H
                   have c22b0 : (((je l0 (rd t560 x7_1)).f1) == 9) = false := beq_eq_false_iff_ne.mpr c22
                   have c22b1 : (((je l0 (rd t560 x7_1)).f1) != 9) = true := bne_iff_ne.mpr c22
                   have H' := am H
                   clear H
                   have p565 : 0 ≤ ((ji14) : Int) := of_decide_eq_true (uq)
                   have q565 : (ji14) < (t560.length : Int) := of_decide_eq_true (uq)
                   obtain ⟨ad565, e565, hx565_0⟩ := Kd.jtb (Kd.jm HO_5.out).2.2 (ji14) p565 q565
                   obtain rfl : ad563 = ad565 := (by injection e565)
                   replace p565 := eq_true p565
                   replace q565 := eq_true q565
                   have p566 : 0 ≤ ((rd t560 (ji14)) : Int) := of_decide_eq_true (uq)
                   have q566 : (rd t560 (ji14)) < (l0.length : Int) := of_decide_eq_true (uq)
                   obtain ⟨ad566, e566, hx566_0, hx566_1, hx566_2, hx566_3⟩ := jsa HR0.out (rd t560 (ji14)) p566 q566
                   obtain rfl : ad564 = ad566 := (by injection e566)
                   replace hx566_0 := cb HB.out hx566_0
                   replace hx566_1 := cb HB.out hx566_1
                   replace hx566_2 := cb HB.out hx566_2
                   replace hx566_3 := cb HB.out hx566_3
                   replace p566 := eq_true p566
                   replace q566 := eq_true q566
                   have p567 : 0 ≤ ((ji14) : Int) := of_decide_eq_true (uq)
                   have q567 : (ji14) < (t560.length : Int) := of_decide_eq_true (uq)
                   obtain ⟨ad567, e567, hx567_0⟩ := Kd.jtb (Kd.jm HO_5.out).2.2 (ji14) p567 q567
                   obtain rfl : ad563 = ad567 := (by injection e567)
                   replace p567 := eq_true p567
                   replace q567 := eq_true q567
                   have p568 : 0 ≤ ((rd t560 (ji14)) : Int) := of_decide_eq_true (uq)
                   have q568 : (rd t560 (ji14)) < (l0.length : Int) := of_decide_eq_true (uq)
                   obtain ⟨ad568, e568, hx568_0, hx568_1, hx568_2, hx568_3⟩ := jsa HR0.out (rd t560 (ji14)) p568 q568
                   obtain rfl : ad564 = ad568 := (by injection e568)
                   replace hx568_0 := cb HB.out hx568_0
                   replace hx568_1 := cb HB.out hx568_1
                   replace hx568_2 := cb HB.out hx568_2
                   replace hx568_3 := cb HB.out hx568_3
                   replace p568 := eq_true p568
                   replace q568 := eq_true q568
                   go_wp2
                   go_meet
                   case rel => exact ⟨_, (false), (sq), H', ⟨by have := HK1.out; have := HJ8.out; first | omega | exact Nat.le_refl _⟩, ⟨rq HO_5.out⟩, ⟨bq⟩⟩
                 ·rw [if_neg c21] at H
                  have c21b0 : (((je l0 (rd t560 x7_1)).f1) == 8) = false := beq_eq_false_iff_ne.mpr c21
                  have c21b1 : (((je l0 (rd t560 x7_1)).f1) != 8) = true := bne_iff_ne.mpr c21
                  have H' := am H
                  clear H
                  have p565 : 0 ≤ ((ji14) : Int) := of_decide_eq_true (uq)
                  have q565 : (ji14) < (t560.length : Int) := of_decide_eq_true (uq)
                  obtain ⟨ad565, e565, hx565_0⟩ := Kd.jtb (Kd.jm HO_5.out).2.2 (ji14) p565 q565
                  obtain rfl : ad563 = ad565 := (by injection e565)
                  replace p565 := eq_true p565
                  replace q565 := eq_true q565
                  have p566 : 0 ≤ ((rd t560 (ji14)) : Int) := of_decide_eq_true (uq)
                  have q566 : (rd t560 (ji14)) < (l0.length : Int) := of_decide_eq_true (uq)
                  obtain ⟨ad566, e566, hx566_0, hx566_1, hx566_2, hx566_3⟩ := jsa HR0.out (rd t560 (ji14)) p566 q566
                  obtain rfl : ad564 = ad566 := (by injection e566)
                  replace hx566_0 := cb HB.out hx566_0
                  replace hx566_1 := cb HB.out hx566_1
                  replace hx566_2 := cb HB.out hx566_2
                  replace hx566_3 := cb HB.out hx566_3
                  replace p566 := eq_true p566
                  replace q566 := eq_true q566
                  have p567 : 0 ≤ ((ji14) : Int) := of_decide_eq_true (uq)
                  have q567 : (ji14) < (t560.length : Int) := of_decide_eq_true (uq)
                  obtain ⟨ad567, e567, hx567_0⟩ := Kd.jtb (Kd.jm HO_5.out).2.2 (ji14) p567 q567
                  obtain rfl : ad563 = ad567 := (by injection e567)
                  replace p567 := eq_true p567
                  replace q567 := eq_true q567
                  have p568 : 0 ≤ ((rd t560 (ji14)) : Int) := of_decide_eq_true (uq)
                  have q568 : (rd t560 (ji14)) < (l0.length : Int) := of_decide_eq_true (uq)
                  obtain ⟨ad568, e568, hx568_0, hx568_1, hx568_2, hx568_3⟩ := jsa HR0.out (rd t560 (ji14)) p568 q568
                  obtain rfl : ad564 = ad568 := (by injection e568)
                  replace hx568_0 := cb HB.out hx568_0
                  replace hx568_1 := cb HB.out hx568_1
                  replace hx568_2 := cb HB.out hx568_2
                  replace hx568_3 := cb HB.out hx568_3
                  replace p568 := eq_true p568
                  replace q568 := eq_true q568
                  go_wp2
                  go_meet
                  case rel => exact ⟨_, (true), (sq), H', ⟨by have := HK1.out; have := HJ8.out; first | omega | exact Nat.le_refl _⟩, ⟨rq HO_5.out⟩, ⟨bq⟩⟩
                ·rw [if_neg c20] at H
                 have c20b0 : (((je l0 (rd t560 x7_1)).f1) == ((je l0 (rd t560 (ji14))).f1)) = false := beq_eq_false_iff_ne.mpr c20
                 have c20b1 : (((je l0 (rd t560 x7_1)).f1) != ((je l0 (rd t560 (ji14))).f1)) = true := bne_iff_ne.mpr c20
                 by_cases c23 : ((je l0 (rd t560 x7_1)).f1) = 9
                 ·rw [if_pos c23] at H
                  have c23b0 : (((je l0 (rd t560 x7_1)).f1) == 9) = true := beq_iff_eq.mpr c23
                  have c23b1 : (((je l0 (rd t560 x7_1)).f1) != 9) = false := bne_eq_false_iff_eq.mpr c23
                  clear c23
                  have H' := am H
                  clear H
                  have p565 : 0 ≤ ((ji14) : Int) := of_decide_eq_true (uq)
                  have q565 : (ji14) < (t560.length : Int) := of_decide_eq_true (uq)
                  obtain ⟨ad565, e565, hx565_0⟩ := Kd.jtb (Kd.jm HO_5.out).2.2 (ji14) p565 q565
                  obtain rfl : ad563 = ad565 := (by injection e565)
                  replace p565 := eq_true p565
                  replace q565 := eq_true q565
                  have p566 : 0 ≤ ((rd t560 (ji14)) : Int) := of_decide_eq_true (uq)
                  have q566 : (rd t560 (ji14)) < (l0.length : Int) := of_decide_eq_true (uq)
                  obtain ⟨ad566, e566, hx566_0, hx566_1, hx566_2, hx566_3⟩ := jsa HR0.out (rd t560 (ji14)) p566 q566
                  obtain rfl : ad564 = ad566 := (by injection e566)
                  replace hx566_0 := cb HB.out hx566_0
                  replace hx566_1 := cb HB.out hx566_1
                  replace hx566_2 := cb HB.out hx566_2
                  replace hx566_3 := cb HB.out hx566_3
                  replace p566 := eq_true p566
                  replace q566 := eq_true q566
                  have p567 : 0 ≤ ((ji14) : Int) := of_decide_eq_true (uq)
                  have q567 : (ji14) < (t560.length : Int) := of_decide_eq_true (uq)
                  obtain ⟨ad567, e567, hx567_0⟩ := Kd.jtb (Kd.jm HO_5.out).2.2 (ji14) p567 q567
                  obtain rfl : ad563 = ad567 := (by injection e567)
                  replace p567 := eq_true p567
                  replace q567 := eq_true q567
                  have p568 : 0 ≤ ((rd t560 (ji14)) : Int) := of_decide_eq_true (uq)
                  have q568 : (rd t560 (ji14)) < (l0.length : Int) := of_decide_eq_true (uq)
                  obtain ⟨ad568, e568, hx568_0, hx568_1, hx568_2, hx568_3⟩ := jsa HR0.out (rd t560 (ji14)) p568 q568
                  obtain rfl : ad564 = ad568 := (by injection e568)
                  replace hx568_0 := cb HB.out hx568_0
                  replace hx568_1 := cb HB.out hx568_1
                  replace hx568_2 := cb HB.out hx568_2
                  replace hx568_3 := cb HB.out hx568_3
                  replace p568 := eq_true p568
                  replace q568 := eq_true q568
                  go_wp2
                  go_meet
                  case rel => exact ⟨_, ((x6_8 == 0)), (sq), H', ⟨by have := HK1.out; have := HJ8.out; first | omega | exact Nat.le_refl _⟩, ⟨rq HO_5.out⟩, ⟨bq⟩⟩
                 ·rw [if_neg c23] at H
                  have c23b0 : (((je l0 (rd t560 x7_1)).f1) == 9) = false := beq_eq_false_iff_ne.mpr c23
                  have c23b1 : (((je l0 (rd t560 x7_1)).f1) != 9) = true := bne_iff_ne.mpr c23
                  have H' := am H
                  clear H
                  have p565 : 0 ≤ ((ji14) : Int) := of_decide_eq_true (uq)
                  have q565 : (ji14) < (t560.length : Int) := of_decide_eq_true (uq)
                  obtain ⟨ad565, e565, hx565_0⟩ := Kd.jtb (Kd.jm HO_5.out).2.2 (ji14) p565 q565
                  obtain rfl : ad563 = ad565 := (by injection e565)
                  replace p565 := eq_true p565
                  replace q565 := eq_true q565
                  have p566 : 0 ≤ ((rd t560 (ji14)) : Int) := of_decide_eq_true (uq)
                  have q566 : (rd t560 (ji14)) < (l0.length : Int) := of_decide_eq_true (uq)
                  obtain ⟨ad566, e566, hx566_0, hx566_1, hx566_2, hx566_3⟩ := jsa HR0.out (rd t560 (ji14)) p566 q566
                  obtain rfl : ad564 = ad566 := (by injection e566)
                  replace hx566_0 := cb HB.out hx566_0
                  replace hx566_1 := cb HB.out hx566_1
                  replace hx566_2 := cb HB.out hx566_2
                  replace hx566_3 := cb HB.out hx566_3
                  replace p566 := eq_true p566
                  replace q566 := eq_true q566
                  have p567 : 0 ≤ ((ji14) : Int) := of_decide_eq_true (uq)
                  have q567 : (ji14) < (t560.length : Int) := of_decide_eq_true (uq)
                  obtain ⟨ad567, e567, hx567_0⟩ := Kd.jtb (Kd.jm HO_5.out).2.2 (ji14) p567 q567
                  obtain rfl : ad563 = ad567 := (by injection e567)
                  replace p567 := eq_true p567
                  replace q567 := eq_true q567
                  have p568 : 0 ≤ ((rd t560 (ji14)) : Int) := of_decide_eq_true (uq)
                  have q568 : (rd t560 (ji14)) < (l0.length : Int) := of_decide_eq_true (uq)
                  obtain ⟨ad568, e568, hx568_0, hx568_1, hx568_2, hx568_3⟩ := jsa HR0.out (rd t560 (ji14)) p568 q568
                  obtain rfl : ad564 = ad568 := (by injection e568)
                  replace hx568_0 := cb HB.out hx568_0
                  replace hx568_1 := cb HB.out hx568_1
                  replace hx568_2 := cb HB.out hx568_2
                  replace hx568_3 := cb HB.out hx568_3
                  replace p568 := eq_true p568
                  replace q568 := eq_true q568
                  go_wp2
                  go_meet
                  case rel => exact ⟨_, (false), (sq), H', ⟨by have := HK1.out; have := HJ8.out; first | omega | exact Nat.le_refl _⟩, ⟨rq HO_5.out⟩, ⟨bq⟩⟩
              ·rw [if_neg c18] at H
               exact absurd H (by simp)
             ·rw [if_neg c17] at H
              exact absurd H (by simp)
            ·rw [if_neg c16] at H
             exact absurd H (by simp)
           ·rw [if_neg c15] at H
            exact absurd H (by simp)
          ·rw [if_neg c13] at H
           have c13b0 : decide (1 < x7_1) = false := decide_eq_false c13
           clear c13
           (first | rw [c13b0] | (simp only [jrb, jvb]; rw [c13b0]) | skip)
           by_cases c24 : ((je l0 (rd t560 x7_1)).f1) = 9
           ·rw [if_pos c24] at H
            have c24b0 : (((je l0 (rd t560 x7_1)).f1) == 9) = true := beq_iff_eq.mpr c24
            have c24b1 : (((je l0 (rd t560 x7_1)).f1) != 9) = false := bne_eq_false_iff_eq.mpr c24
            clear c24
            have H' := am H
            clear H
            go_wp2
            go_meet
            case rel => exact ⟨_, ((x6_8 == 0)), (sq), H', ⟨by have := HK1.out; have := HJ8.out; first | omega | exact Nat.le_refl _⟩, ⟨rq HO_5.out⟩, ⟨bq⟩⟩
           ·rw [if_neg c24] at H
            have c24b0 : (((je l0 (rd t560 x7_1)).f1) == 9) = false := beq_eq_false_iff_ne.mpr c24
            have c24b1 : (((je l0 (rd t560 x7_1)).f1) != 9) = true := bne_iff_ne.mpr c24
            have H' := am H
            clear H
            go_wp2
            go_meet
            case rel => exact ⟨_, (false), (sq), H', ⟨by have := HK1.out; have := HJ8.out; first | omega | exact Nat.le_refl _⟩, ⟨rq HO_5.out⟩, ⟨bq⟩⟩
         case rest =>
          clear HC12
          try clear c1
          try clear c2
          try clear p2
          try clear c5
          try clear c5b0
          try clear p5
          try clear q5
          try clear hx5
          try clear c6
          try clear c6b0
          try clear p6
          try clear c7
          try clear c7b0
          try clear c8
          try clear c8b0
          try clear c9
          try clear c11
          try clear c11b0
          try clear c11b1
          try clear c13
          try clear c13b0
          try clear c15
          try clear c15b0
          try clear c16
          try clear c16b0
          try clear c17
          try clear c17b0
          try clear c18
          try clear c18b0
          try clear c19
          try clear c19b0
          try clear c20
          try clear c20b0
          try clear c20b1
          try clear c21
          try clear c21b0
          try clear c21b1
          try clear c22
          try clear c22b0
          try clear c22b1
          try clear c23
          try clear c23b0
          try clear c23b1
          try clear c24
          try clear c24b0
          try clear c24b1
          try clear hx563_0
          try clear hx564_0
          try clear hx564_1
          try clear hx564_2
          try clear hx564_3
          try clear hx565_0
          try clear hx566_0
          try clear hx566_1
          try clear hx566_2
          try clear hx566_3
          try clear hx567_0
          try clear hx568_0
          try clear hx568_1
          try clear hx568_2
          try clear hx568_3
          try clear p2
          try clear p5
          try clear p563
          try clear p564
          try clear p565
          try clear p566
          try clear p567
          try clear p568
          try clear p6
          try clear q5
          try clear q563
          try clear q564
          try clear q565
          try clear q566
          try clear q567
          try clear q568
          obtain ⟨kq, x69_11, rfl, HA, HJ11, HO_5, HB⟩ := hcut
          cases kq with
          | zero => exact absurd HA.out (by simp [jE.j2])
          | succ kj11 =>
           have H := HA.out
           clear HA
           simp only [jE.j2] at H
           by_cases c25 : x69_11 = true
           ·subst c25
            have H1 : (some false) = some r := by rw [if_pos rfl] at H; exact H
            clear H
            have H := H1
            clear H1
            obtain rfl := Option.some.inj H
            go_wp2
            go_ret
            exact ⟨Y0, bq⟩
           ·replace c25 := Bool.eq_false_iff.mpr c25
            subst c25
            have H1 : (jE.l0 kj11 l0 t560 x6_8 (wrap64 (x7_1 + 1))) = some r := by rw [if_neg (show ¬ (false = true) by decide)] at H; exact H
            clear H
            have H := H1
            clear H1
            have H' := am H
            clear H
            go_wp2
            go_roundg kj11
            case measure => have := HK1.out; have := HJ8.out; have := HJ11.out; omega
            case rel => exact ⟨(x6_8), (wrap64 (x7_1 + 1)), (sq), (sq), H', ⟨by have := HK1.out; have := HJ8.out; have := HJ11.out; omega⟩, ⟨rq HO_5.out⟩, ⟨bq⟩⟩
      ·rw [if_neg c8] at H
       exact absurd H (by simp)
     ·rw [if_neg c7] at H
      exact absurd H (by simp)
    ·rw [if_neg c6] at H
     exact absurd H (by simp)
   ·rw [if_neg c5] at H
    have c5b0 : decide (x7_1 < (t560.length : Int)) = false := decide_eq_false c5
    clear c5
    by_cases c26 : (t560.length : Int) > 1
    ·rw [if_pos c26] at H
     have c26b0 : decide (1 < (t560.length : Int)) = true := decide_eq_true c26
     have c26b1 : decide (1 < t560.length) = true := decide_eq_true (by omega)
     clear c26
     obtain rfl := Option.some.inj H
     obtain ⟨Ao27, co27, eo27⟩ := Kd.jY HO_5.out
     subst eo27
     go_wp2
     go_ret
     exact ⟨Y0, bq⟩
    ·rw [if_neg c26] at H
     have c26b0 : decide (1 < (t560.length : Int)) = false := decide_eq_false c26
     have c26b1 : decide (1 < t560.length) = false := decide_eq_false (by omega)
     clear c26
     obtain rfl := Option.some.inj H
     obtain ⟨Ao28, co28, eo28⟩ := Kd.jY HO_5.out
     subst eo28
     go_wp2
     go_ret
     exact ⟨Y0, bq⟩
end Go.Proofs.Ytkedkinojeoeaaa.P
end
