/- One part of the proofs on this program: functions of the program as plain functions, that the code comes to them, and facts on them. -/
import Derived.Test.YtkedkinojeoeaaaYAll1
import Derived.Test.YtkedkinojeoeaaaYAll6
import Derived.Test.YtkedkinojeoeaaaYAll7
import Derived.Test.YtkedkinojeoeaaaYWAuto
section
namespace Go.Proofs.Ytkedkinojeoeaaa.P
open Go.RowKit Go.Proofs.YtkedkinojeoeaaaW.PrintWords Go.Proofs.YtkedkinojeoeaaaW.PrintLast Go.Proofs.YtkedkinojeoeaaaW.PrintMore
attribute [local go_sem] jna jla jza jya jda jca jma jka jk
set_option linter.unusedVariables false
set_option linter.unusedSimpArgs false
def jYa.l0 : Nat → List (S36) → Int → Int → Option (Bool)
 | 0, _, _, _ => none
 | k + 1, x0, x5, x6 => if x6 ≥ 0 then (if 0 ≤ x6 then (if x6 < (x0.length : Int) then (if ((je x0 x6).f0) < x5 then (if ((je x0 x6).f1) = 12 then (some true) else (jYa.l0 k x0 ((je x0 x6).f0) (wrap64 (x6 - 1)))) else (jYa.l0 k x0 x5 (wrap64 (x6 - 1)))) else (none)) else (none)) else (some false)
def jYa.f (k : Nat) (l0 : List (S36)) (a1 : Int) : Option (Bool) := if 0 ≤ a1 then (if a1 < (l0.length : Int) then (jYa.l0 k l0 ((je l0 a1).f0) (wrap64 (a1 - 1))) else (none)) else (none)
set_option maxHeartbeats 8000000 in
set_option maxRecDepth 100000 in
theorem jYa.calls (k : Nat) (A0 : Option Addr) (c0 : Nat) (l0 : List (S36)) (a1 : Int) (r : Bool) (w : World) (hr0 : Kd.C k36 w A0 l0.length l0) (hc0 : l0.length ≤ c0) (h : jYa.f k l0 a1 = some r) :
  Calls Try.prog 96 #[.slice A0 l0.length c0, .int .i64 a1] w fun e w' => e = .returned (.bool r) ∧ jnb w w' := by
 have HR0 := am hr0
 have HC0 := am hc0
 clear hr0 hc0
 have H : (if 0 ≤ a1 then (if a1 < (l0.length : Int) then (jYa.l0 k l0 ((je l0 a1).f0) (wrap64 (a1 - 1))) else (none)) else (none)) = some r := h
 clear h
 by_cases c3 : 0 ≤ a1
 ·rw [if_pos c3] at H
  have c3b0 : decide (0 ≤ a1) = true := decide_eq_true c3
  clear c3
  by_cases c4 : a1 < (l0.length : Int)
  ·rw [if_pos c4] at H
   have c4b0 : decide (a1 < (l0.length : Int)) = true := decide_eq_true c4
   clear c4
   have H' := am H
   clear H
   have p569 : 0 ≤ (a1 : Int) := of_decide_eq_true (uq)
   have q569 : a1 < (l0.length : Int) := of_decide_eq_true (uq)
   obtain ⟨ad569, e569, hx569_0, hx569_1, hx569_2, hx569_3⟩ := jsa HR0.out a1 p569 q569
   cases e569
   replace p569 := eq_true p569
   replace q569 := eq_true q569
   go_enter Try.func96, Try.ntmps96
   go_wp2
   go_loopg [5, 6] k (fun kq v5 v6 w' => ∃ (x5_1 : Int) (x6_1 : Int), v5 = .int .i64 x5_1 ∧ v6 = .int .i64 x6_1 ∧ jo (jYa.l0 kq l0 x5_1 x6_1 = some r) ∧ jo (kq ≤ k) ∧ jnb w w')
   case atStart => exact ⟨((je l0 a1).f0), (wrap64 (a1 - 1)), (sq), (sq), H', ⟨Nat.le_refl _⟩, Y7⟩
   case round =>
    clear H'
    try clear p2
    try clear c3
    try clear c3b0
    try clear c4
    try clear c4b0
    try clear hx569_0
    try clear hx569_1
    try clear hx569_2
    try clear hx569_3
    try clear p569
    try clear q569
    obtain ⟨x5_1, x6_1, rfl, rfl, HA, HK1, ⟨m1, rfl⟩⟩ := hrel
    cases gk with
    | zero => exact absurd HA.out (by simp [jYa.l0])
    | succ k1 =>
     have H := HA.out
     clear HA
     simp only [jYa.l0] at H
     by_cases c5 : x6_1 ≥ 0
     ·rw [if_pos c5] at H
      have c5b0 : decide (0 ≤ x6_1) = true := decide_eq_true c5
      clear c5
      by_cases c6 : 0 ≤ x6_1
      ·rw [if_pos c6] at H
       have c6b0 : decide (0 ≤ x6_1) = true := decide_eq_true c6
       clear c6
       by_cases c7 : x6_1 < (l0.length : Int)
       ·rw [if_pos c7] at H
        have c7b0 : decide (x6_1 < (l0.length : Int)) = true := decide_eq_true c7
        clear c7
        by_cases c8 : ((je l0 x6_1).f0) < x5_1
        ·rw [if_pos c8] at H
         have c8b0 : decide (((je l0 x6_1).f0) < x5_1) = true := decide_eq_true c8
         clear c8
         by_cases c9 : ((je l0 x6_1).f1) = 12
         ·rw [if_pos c9] at H
          have c9b0 : (((je l0 x6_1).f1) == 12) = true := beq_iff_eq.mpr c9
          have c9b1 : (((je l0 x6_1).f1) != 12) = false := bne_eq_false_iff_eq.mpr c9
          clear c9
          obtain rfl := Option.some.inj H
          have p570 : 0 ≤ (x6_1 : Int) := of_decide_eq_true (uq)
          have q570 : x6_1 < (l0.length : Int) := of_decide_eq_true (uq)
          obtain ⟨ad570, e570, hx570_0, hx570_1, hx570_2, hx570_3⟩ := jsa HR0.out x6_1 p570 q570
          obtain rfl : ad569 = ad570 := (by injection e570)
          replace p570 := eq_true p570
          replace q570 := eq_true q570
          have p571 : 0 ≤ (x6_1 : Int) := of_decide_eq_true (uq)
          have q571 : x6_1 < (l0.length : Int) := of_decide_eq_true (uq)
          obtain ⟨ad571, e571, hx571_0, hx571_1, hx571_2, hx571_3⟩ := jsa HR0.out x6_1 p571 q571
          obtain rfl : ad569 = ad571 := (by injection e571)
          replace p571 := eq_true p571
          replace q571 := eq_true q571
          have p572 : 0 ≤ (x6_1 : Int) := of_decide_eq_true (uq)
          have q572 : x6_1 < (l0.length : Int) := of_decide_eq_true (uq)
          obtain ⟨ad572, e572, hx572_0, hx572_1, hx572_2, hx572_3⟩ := jsa HR0.out x6_1 p572 q572
          obtain rfl : ad569 = ad572 := (by injection e572)
          replace p572 := eq_true p572
          replace q572 := eq_true q572
          go_wp2
          go_ret
          exact ⟨sq, Y7⟩
         ·rw [if_neg c9] at H
          have c9b0 : (((je l0 x6_1).f1) == 12) = false := beq_eq_false_iff_ne.mpr c9
          have c9b1 : (((je l0 x6_1).f1) != 12) = true := bne_iff_ne.mpr c9
          have H' := am H
          clear H
          have p570 : 0 ≤ (x6_1 : Int) := of_decide_eq_true (uq)
          have q570 : x6_1 < (l0.length : Int) := of_decide_eq_true (uq)
          obtain ⟨ad570, e570, hx570_0, hx570_1, hx570_2, hx570_3⟩ := jsa HR0.out x6_1 p570 q570
          obtain rfl : ad569 = ad570 := (by injection e570)
          replace p570 := eq_true p570
          replace q570 := eq_true q570
          have p571 : 0 ≤ (x6_1 : Int) := of_decide_eq_true (uq)
          have q571 : x6_1 < (l0.length : Int) := of_decide_eq_true (uq)
          obtain ⟨ad571, e571, hx571_0, hx571_1, hx571_2, hx571_3⟩ := jsa HR0.out x6_1 p571 q571
          obtain rfl : ad569 = ad571 := (by injection e571)
          replace p571 := eq_true p571
          replace q571 := eq_true q571
          have p572 : 0 ≤ (x6_1 : Int) := of_decide_eq_true (uq)
          have q572 : x6_1 < (l0.length : Int) := of_decide_eq_true (uq)
          obtain ⟨ad572, e572, hx572_0, hx572_1, hx572_2, hx572_3⟩ := jsa HR0.out x6_1 p572 q572
          obtain rfl : ad569 = ad572 := (by injection e572)
          replace p572 := eq_true p572
          replace q572 := eq_true q572
          go_wp2
          go_roundg k1
          case measure => have := HK1.out; omega
          case rel => exact ⟨((je l0 x6_1).f0), (wrap64 (x6_1 - 1)), (sq), (sq), H', ⟨by have := HK1.out; omega⟩, Y7⟩
        ·rw [if_neg c8] at H
         have c8b0 : decide (((je l0 x6_1).f0) < x5_1) = false := decide_eq_false c8
         clear c8
         have H' := am H
         clear H
         have p570 : 0 ≤ (x6_1 : Int) := of_decide_eq_true (uq)
         have q570 : x6_1 < (l0.length : Int) := of_decide_eq_true (uq)
         obtain ⟨ad570, e570, hx570_0, hx570_1, hx570_2, hx570_3⟩ := jsa HR0.out x6_1 p570 q570
         obtain rfl : ad569 = ad570 := (by injection e570)
         replace p570 := eq_true p570
         replace q570 := eq_true q570
         go_wp2
         go_roundg k1
         case measure => have := HK1.out; omega
         case rel => exact ⟨(x5_1), (wrap64 (x6_1 - 1)), (sq), (sq), H', ⟨by have := HK1.out; omega⟩, Y7⟩
       ·rw [if_neg c7] at H
        exact absurd H (by simp)
      ·rw [if_neg c6] at H
       exact absurd H (by simp)
     ·rw [if_neg c5] at H
      have c5b0 : decide (0 ≤ x6_1) = false := decide_eq_false c5
      clear c5
      obtain rfl := Option.some.inj H
      go_wp2
      go_ret
      exact ⟨sq, Y7⟩
  ·rw [if_neg c4] at H
   exact absurd H (by simp)
 ·rw [if_neg c3] at H
  exact absurd H (by simp)
def jv.inB (a lo hi : Int) : Bool := decide (lo ≤ a) && decide (a ≤ hi)
theorem jic (a lo hi : Int) : jH.f a lo hi = some (jv.inB a lo hi) := by
 unfold jH.f jv.inB
 by_cases h : lo ≤ a
 ·rw [if_pos h]; simp [h]
 ·rw [if_neg h]; simp [h]
theorem spec_opens_eq (a : Int) : jKc.f a = some (jv.inB a 7 12) := by
 unfold jKc.f
 rw [jic]; rfl
theorem spec_follows_eq (a : Int) : jKb.f a = some (jv.inB a 8 10) := by
 unfold jKb.f
 rw [jic]; rfl
def jv.off (p : List S36) (i : Int) (x : S36) : Bool :=
 if (if i = 0 then decide (x.f0 ≠ 0) else if (wrap64 ((je p (i - 1)).f0 + 1)) < x.f0 then true else (jv.inB (je p (i - 1)).f1 7 12 != (x.f0 == wrap64 ((je p (i - 1)).f0 + 1)))) then true
 else decide (i + 1 = (p.length : Int)) && jv.inB x.f1 7 12
def jv.f (k : Nat) (l0_0 : List S75) (l1 : List S36) (a2 : Int) : Option Bool :=
 if 0 ≤ a2 then if a2 < (l1.length : Int) then
  (jwa.f k l0_0 (je l1 a2).f0 (je l1 a2).f1 (je l1 a2).f2 (je l1 a2).f3).bind fun v =>
  if v = false then some false else if jv.inB (je l1 a2).f0 0 5 = false then some false else
  if jv.off l1 a2 (je l1 a2) then some false else
  (if (je l1 a2).f1 = 7 then jE.f k l1 a2 else some true).bind fun c1 => if c1 = false then some false else
  (if (je l1 a2).f1 = 5 ∨ (je l1 a2).f1 = 6 then jYa.f k l1 a2 else some true).bind fun c2 => if c2 = false then some false else
  if jv.inB (je l1 a2).f1 8 10 = false then some true else
  (jZa.f k l1 a2).bind fun h => if 0 ≤ h then if h < (l1.length : Int) then some ((je l1 h).f1 == 7 || jv.inB (je l1 h).f1 8 10) else none else some false
 else none else none
def VX (W : World) (BX : Nat) (x : S36) : Prop := W.heap[BX]? = some (.cells #[.int .i64 x.f0, .int .i64 x.f1, .int .i64 x.f2, .int .i64 x.f3] 36 (0, 0))
theorem VX.below {W W' : World} {BX : Nat} {x : S36} (h : VX W BX x) (hb : Below W.heap.size W W') : VX W' BX x := (hb.block _ (jEb h)).trans h
theorem VX.cells {W : World} {BX : Nat} {x : S36} (h : VX W BX x) : W.cell? ⟨BX, 0, none⟩ = some (.int .i64 x.f0) ∧ W.cell? ⟨BX, 1, none⟩ = some (.int .i64 x.f1) ∧ W.cell? ⟨BX, 2, none⟩ = some (.int .i64 x.f2) ∧ W.cell? ⟨BX, 3, none⟩ = some (.int .i64 x.f3) :=
 ⟨(jN h 0).trans rfl, (jN h 1).trans rfl, (jN h 2).trans rfl, (jN h 3).trans rfl⟩
set_option maxHeartbeats 8000000 in
set_option maxRecDepth 100000 in
theorem jv.calls (k : Nat) (A0_0 : Option Addr) (c0_0 : Nat) (l0_0 : List S75) (A1 : Option Addr) (c1 : Nat) (l1 : List S36) (a2 : Int) (r : Bool) (w : World) (hr0_0 : Kd.C k75 w A0_0 l0_0.length l0_0) (hc0_0 : l0_0.length ≤ c0_0) (hr1 : Kd.C k36 w A1 l1.length l1) (hc1 : l1.length ≤ c1) (h : jv.f k l0_0 l1 a2 = some r) :
  Calls Try.prog 79 #[.agg #[.slice A0_0 l0_0.length c0_0], .slice A1 l1.length c1, .int .i64 a2] w fun e w' => e = .returned (.bool r) ∧ Below w.heap.size w w' := by
 have hu25 := Try.underlying25
 have hu36 := Try.underlying36
 have hm : l1.length ≤ 9223372036854775807 := Kd.C_max hr1
 unfold jv.f at h
 by_cases h0 : 0 ≤ a2
 ·rw [if_pos h0] at h
  by_cases h1 : a2 < (l1.length : Int)
  ·rw [if_pos h1] at h
   obtain ⟨v, hv, h⟩ := Option.bind_eq_some_iff.mp h
   have HN := am (fun W (hb : Below w.heap.size w W) => jwa.calls k A0_0 c0_0 l0_0 _ _ _ _ v W (Kd.jU hr0_0 hb) hc0_0 hv)
   clear hv
   obtain ⟨ad, rfl, hx0, hx1, hx2, hx3⟩ := jsa hr1 a2 h0 h1
   have HR1 := am hr1
   clear hr0_0 hr1
   generalize hgx : je l1 a2 = x at h HN hx0 hx1 hx2 hx3
   clear hgx
   have X1 := am (show VX ((w.alloc (.cells #[.slice A0_0 l0_0.length c0_0] 25)).alloc (.cells #[.int .i64 x.f0, .int .i64 x.f1, .int .i64 x.f2, .int .i64 x.f3] 36)) (w.heap.size + 1) x by have := heap_alloc_new (w.alloc (.cells #[.slice A0_0 l0_0.length c0_0] 25)) (.cells #[.int .i64 x.f0, .int .i64 x.f1, .int .i64 x.f2, .int .i64 x.f3] 36); simpa [VX] using this)
   have HB1 := am (((Below.refl w.heap.size w).alloc (Nat.le_refl _) (.cells #[.slice A0_0 l0_0.length c0_0] 25)).alloc (by simp) (.cells #[.int .i64 x.f0, .int .i64 x.f1, .int .i64 x.f2, .int .i64 x.f3] 36))
   have hbt := (Below.refl w.heap.size w).alloc (Nat.le_refl _) (.cells #[.slice A0_0 l0_0.length c0_0] 25)
   replace hx0 := jxa hbt hx0
   replace hx1 := jxa hbt hx1
   replace hx2 := jxa hbt hx2
   replace hx3 := jxa hbt hx3
   clear hbt
   have p0 := eq_true h0
   have p1 := eq_true h1
   cases v with
   | false =>
    obtain rfl : false = r := by simpa using h
    clear h
    go_enter Try.func79, Try.ntmps79
    go_wp2_with (first | (go_at_call 93; refine (HN.out _ HB1.out).mono ?_; rintro e w2 ⟨rfl, hb2⟩; have X2 := am (VX.below X1.out hb2); have HB2 := am (jia HB1.out HB1.out.size hb2); clear hb2; obtain ⟨e0, e1, e2, e3⟩ := VX.cells X2.out))
    go_ret
    exact ⟨rfl, HB2.out⟩
   | true =>
    simp only [Bool.true_eq_false, if_false] at h
    cases h5 : jv.inB x.f0 0 5 with
    | false =>
     have H5 := am h5
     rw [h5, if_pos rfl] at h
     obtain rfl : false = r := by simpa using h
     clear h h5
     go_enter Try.func79, Try.ntmps79
     go_wp2_with (first | (go_at_call 93; refine (HN.out _ HB1.out).mono ?_; rintro e w2 ⟨rfl, hb2⟩; have X2 := am (VX.below X1.out hb2); have HB2 := am (jia HB1.out HB1.out.size hb2); clear hb2; obtain ⟨e0, e1, e2, e3⟩ := VX.cells X2.out) | (go_at_call 61; refine (jH.calls _ _ _ _ _ (jic _ _ _)).mono ?_; rintro e w3 ⟨rfl, hd3⟩; have hb3 := hd3.below; clear hd3; have X3 := am (VX.below X2.out hb3); have HB3 := am (jia HB2.out HB2.out.size hb3); clear hb3 e0 e1 e2 e3; obtain ⟨e0, e1, e2, e3⟩ := VX.cells X3.out; rw [H5.out]))
     go_ret
     exact ⟨rfl, HB3.out⟩
    | true =>
     have H5 := am h5
     rw [h5] at h
     simp only [Bool.true_eq_false, if_false] at h
     clear h5
     have HH := am h
     clear h
     go_enter Try.func79, Try.ntmps79
     go_upto_region 4 with (first | (go_at_call 93; refine (HN.out _ HB1.out).mono ?_; rintro e w2 ⟨rfl, hb2⟩; have X2 := am (VX.below X1.out hb2); have HB2 := am (jia HB1.out HB1.out.size hb2); clear hb2; obtain ⟨e0, e1, e2, e3⟩ := VX.cells X2.out) | (go_at_call 61; refine (jH.calls _ _ _ _ _ (jic _ _ _)).mono ?_; rintro e w3 ⟨rfl, hd3⟩; have hb3 := hd3.below; clear hd3; have X3 := am (VX.below X2.out hb3); have HB3 := am (jia HB2.out HB2.out.size hb3); clear hb3 e0 e1 e2 e3; obtain ⟨e0, e1, e2, e3⟩ := VX.cells X3.out; rw [H5.out]))
     go_cut [77] (fun v77 wc => v77 = .bool (jv.off l1 a2 x) ∧ jo (VX wc (w.heap.size + 1) x) ∧ jo (Below w.heap.size w wc))
     case first =>
      clear HH
      have HO := am (fun (a : Int) (b : Bool) (hb : jv.inB a 7 12 = b) W => (jKc.calls a b W (by rw [spec_opens_eq, hb])).mono fun e w' h => (⟨h.1, h.2.out⟩ : e = .returned (.bool b) ∧ ∃ m, w' = W.drewN m))
      have hw2 : IntKind.i64.wrap (a2 + 1) = a2 + 1 := IntWalk.i64_in _ (by omega)
      by_cases z0 : a2 = 0
      ·have b0 : (a2 == 0) = true := beq_iff_eq.2 z0
       have b0' : decide (0 < a2) = false := decide_eq_false (by omega)
       by_cases zx : x.f0 = 0
       ·have b1 : (x.f0 != 0) = false := by simpa using zx
        have HE := am (by unfold jv.off; rw [if_pos z0]; simp [zx] : jv.off l1 a2 x = (decide (a2 + 1 = (l1.length : Int)) && jv.inB x.f1 7 12))
        clear z0
        clear zx
        by_cases zl : a2 + 1 = (l1.length : Int)
        ·have b3 : (a2 + 1 == (l1.length : Int)) = true := by rw [beq_iff_eq]; omega
         cases hx : jv.inB x.f1 7 12 with
         | true =>
          have HX := am hx
          have HF := am (by rw [HE.out, hx, decide_eq_true zl]; rfl : jv.off l1 a2 x = true)
          clear zl hx HE
          go_big_quiet ((go_at_call 94; exact Calls.quiet_of (HO.out x.f1 _ HX.out _)))
          go_wp2
          go_meet
          case rel => exact ⟨by rw [HF.out], X3, ⟨jq HB3.out _⟩⟩
         | false =>
          have HX := am hx
          have HF := am (by rw [HE.out, hx]; simp : jv.off l1 a2 x = false)
          clear zl hx HE
          go_big_quiet ((go_at_call 94; exact Calls.quiet_of (HO.out x.f1 _ HX.out _)))
          go_wp2
          go_meet
          case rel => exact ⟨by rw [HF.out], X3, ⟨jq HB3.out _⟩⟩
        ·have b3 : (a2 + 1 == (l1.length : Int)) = false := by rw [beq_eq_false_iff_ne]; omega
         have HF := am (by rw [HE.out, decide_eq_false zl]; rfl : jv.off l1 a2 x = false)
         clear zl HE
         go_big_quiet (fail)
         go_wp2
         go_meet
         case rel => exact ⟨by rw [HF.out], X3, ⟨jq HB3.out _⟩⟩
       ·have b1 : (x.f0 != 0) = true := by simpa using zx
        have HF := am (by unfold jv.off; rw [if_pos z0]; simp [zx] : jv.off l1 a2 x = true)
        clear zx z0
        go_big_quiet (fail)
        go_wp2
        go_meet
        case rel => exact ⟨by rw [HF.out], X3, ⟨jq HB3.out _⟩⟩
      ·have b0 : (a2 == 0) = false := beq_eq_false_iff_ne.2 z0
       have b0' : decide (0 < a2) = true := decide_eq_true (by omega)
       have q0 : 0 ≤ a2 - 1 := by omega
       have q1 : a2 - 1 < (l1.length : Int) := by omega
       obtain ⟨j, hj⟩ : ∃ j, a2 - 1 = j := ⟨_, rfl⟩
       rw [hj] at q0 q1
       obtain ⟨ad', he, y0, y1, y2, y3⟩ := jsa HR1.out j q0 q1
       cases he
       replace y0 := jxa HB3.out y0
       replace y1 := jxa HB3.out y1
       clear y2 y3
       replace q0 := eq_true q0
       replace q1 := eq_true q1
       have HD := am (by unfold jv.off; rw [if_neg z0] : jv.off l1 a2 x = if (if (wrap64 ((je l1 (a2 - 1)).f0 + 1)) < x.f0 then true else (jv.inB (je l1 (a2 - 1)).f1 7 12 != (x.f0 == wrap64 ((je l1 (a2 - 1)).f0 + 1)))) then true else decide (a2 + 1 = (l1.length : Int)) && jv.inB x.f1 7 12)
       clear z0
       rw [hj] at HD
       generalize je l1 j = y at HD y0 y1
       generalize hz : wrap64 (y.f0 + 1) = z at HD
       have HZ := am hz
       by_cases zt : z < x.f0
       ·have b4 : decide (z < x.f0) = true := decide_eq_true zt
        have HF := am (by rw [HD.out]; simp [zt] : jv.off l1 a2 x = true)
        clear zt HD
        go_big_quiet (fail)
        go_wp2
        go_meet
        case rel => exact ⟨by rw [HF.out], X3, ⟨jq HB3.out _⟩⟩
       ·have b4 : decide (z < x.f0) = false := decide_eq_false zt
        cases hy : jv.inB y.f1 7 12 with
        | true =>
         have HY := am hy
         by_cases ze : x.f0 = z
         ·have b5 : (x.f0 == z) = true := beq_iff_eq.2 ze
          have HE := am (by rw [HD.out, hy, b5]; simp [zt] : jv.off l1 a2 x = (decide (a2 + 1 = (l1.length : Int)) && jv.inB x.f1 7 12))
          clear zt HD hy ze
          by_cases zl : a2 + 1 = (l1.length : Int)
          ·have b3 : (a2 + 1 == (l1.length : Int)) = true := by rw [beq_iff_eq]; omega
           cases hx : jv.inB x.f1 7 12 with
           | true =>
            have HX := am hx
            have HF := am (by rw [HE.out, hx, decide_eq_true zl]; rfl : jv.off l1 a2 x = true)
            clear zl hx HE
            go_big_quiet (first | (go_at_call 94; exact Calls.quiet_of (HO.out y.f1 _ HY.out _)) | (go_at_call 94; exact Calls.quiet_of (HO.out x.f1 _ HX.out _)))
            go_wp2
            go_meet
            case rel => exact ⟨by rw [HF.out], X3, ⟨jq HB3.out _⟩⟩
           | false =>
            have HX := am hx
            have HF := am (by rw [HE.out, hx]; simp : jv.off l1 a2 x = false)
            clear zl hx HE
            go_big_quiet (first | (go_at_call 94; exact Calls.quiet_of (HO.out y.f1 _ HY.out _)) | (go_at_call 94; exact Calls.quiet_of (HO.out x.f1 _ HX.out _)))
            go_wp2
            go_meet
            case rel => exact ⟨by rw [HF.out], X3, ⟨jq HB3.out _⟩⟩
          ·have b3 : (a2 + 1 == (l1.length : Int)) = false := by rw [beq_eq_false_iff_ne]; omega
           have HF := am (by rw [HE.out, decide_eq_false zl]; rfl : jv.off l1 a2 x = false)
           clear zl HE
           go_big_quiet ((go_at_call 94; exact Calls.quiet_of (HO.out y.f1 _ HY.out _)))
           go_wp2
           go_meet
           case rel => exact ⟨by rw [HF.out], X3, ⟨jq HB3.out _⟩⟩
         ·have b5 : (x.f0 == z) = false := beq_eq_false_iff_ne.2 ze
          have HF := am (by rw [HD.out, hy, b5]; simp : jv.off l1 a2 x = true)
          clear zt HD hy ze
          go_big_quiet ((go_at_call 94; exact Calls.quiet_of (HO.out y.f1 _ HY.out _)))
          go_wp2
          go_meet
          case rel => exact ⟨by rw [HF.out], X3, ⟨jq HB3.out _⟩⟩
        | false =>
         have HY := am hy
         by_cases ze : x.f0 = z
         ·have b5 : (x.f0 == z) = true := beq_iff_eq.2 ze
          have HF := am (by rw [HD.out, hy, b5]; simp : jv.off l1 a2 x = true)
          clear zt HD hy ze
          go_big_quiet ((go_at_call 94; exact Calls.quiet_of (HO.out y.f1 _ HY.out _)))
          go_wp2
          go_meet
          case rel => exact ⟨by rw [HF.out], X3, ⟨jq HB3.out _⟩⟩
         ·have b5 : (x.f0 == z) = false := beq_eq_false_iff_ne.2 ze
          have HE := am (by rw [HD.out, hy, b5]; simp [zt] : jv.off l1 a2 x = (decide (a2 + 1 = (l1.length : Int)) && jv.inB x.f1 7 12))
          clear zt HD hy ze
          by_cases zl : a2 + 1 = (l1.length : Int)
          ·have b3 : (a2 + 1 == (l1.length : Int)) = true := by rw [beq_iff_eq]; omega
           cases hx : jv.inB x.f1 7 12 with
           | true =>
            have HX := am hx
            have HF := am (by rw [HE.out, hx, decide_eq_true zl]; rfl : jv.off l1 a2 x = true)
            clear zl hx HE
            go_big_quiet (first | (go_at_call 94; exact Calls.quiet_of (HO.out y.f1 _ HY.out _)) | (go_at_call 94; exact Calls.quiet_of (HO.out x.f1 _ HX.out _)))
            go_wp2
            go_meet
            case rel => exact ⟨by rw [HF.out], X3, ⟨jq HB3.out _⟩⟩
           | false =>
            have HX := am hx
            have HF := am (by rw [HE.out, hx]; simp : jv.off l1 a2 x = false)
            clear zl hx HE
            go_big_quiet (first | (go_at_call 94; exact Calls.quiet_of (HO.out y.f1 _ HY.out _)) | (go_at_call 94; exact Calls.quiet_of (HO.out x.f1 _ HX.out _)))
            go_wp2
            go_meet
            case rel => exact ⟨by rw [HF.out], X3, ⟨jq HB3.out _⟩⟩
          ·have b3 : (a2 + 1 == (l1.length : Int)) = false := by rw [beq_eq_false_iff_ne]; omega
           have HF := am (by rw [HE.out, decide_eq_false zl]; rfl : jv.off l1 a2 x = false)
           clear zl HE
           go_big_quiet ((go_at_call 94; exact Calls.quiet_of (HO.out y.f1 _ HY.out _)))
           go_wp2
           go_meet
           case rel => exact ⟨by rw [HF.out], X3, ⟨jq HB3.out _⟩⟩
     case rest =>
      obtain ⟨rfl, X4, HB4⟩ := hcut
      clear X1 HB1
      have h := HH.out
      clear HH
      obtain ⟨e0, e1, e2, e3⟩ := VX.cells X4.out
      have tok : True := trivial
      have HO := am (fun (a : Int) (b : Bool) (hb : jv.inB a 8 10 = b) W => jKb.calls a b W (by rw [spec_follows_eq, hb]))
      cases ho : jv.off l1 a2 x with
      | true =>
       rw [ho, if_pos rfl] at h
       obtain rfl : false = r := by simpa using h
       clear h ho
       go_wp2
       go_ret
       exact ⟨rfl, HB4.out⟩
      | false =>
       rw [ho] at h
       simp only [Bool.false_eq_true, if_false] at h
       clear ho
       obtain ⟨c, hc, h⟩ := Option.bind_eq_some_iff.mp h
       by_cases z7 : x.f1 = 7
       ·rw [if_pos z7] at hc
        have HC := am (fun W (hb : Below w.heap.size w W) => jE.calls k _ c1 l1 a2 c W (Kd.jU HR1.out hb) hc1 hc)
        have b7 : (x.f1 == 7) = true := beq_iff_eq.2 z7
        have b5 : (x.f1 == 5) = false := beq_eq_false_iff_ne.2 (by omega)
        have b6 : (x.f1 == 6) = false := beq_eq_false_iff_ne.2 (by omega)
        cases c with
        | false =>
         obtain rfl : false = r := by simpa using h
         clear h hc z7
         go_wp2_with (first | (go_at_call 95; refine (HC.out _ HB4.out).mono ?_; rintro e w5 ⟨rfl, hb5⟩; have X5 := am (VX.below X4.out hb5); have HB5 := am (jia HB4.out HB4.out.size hb5); clear hb5 e0 e1 e2 e3; obtain ⟨e0, e1, e2, e3⟩ := VX.cells X5.out))
         go_ret
         exact ⟨rfl, HB5.out⟩
        | true =>
         have hx : jv.inB x.f1 8 10 = false := by unfold jv.inB; rw [z7]; rfl
         have HX := am hx
         obtain rfl : true = r := by simpa [z7, show jv.inB 7 8 10 = false from rfl] using h
         clear h hc z7 hx
         go_wp2_with (first | (go_at_call 95; refine (HC.out _ HB4.out).mono ?_; rintro e w5 ⟨rfl, hb5⟩; have X5 := am (VX.below X4.out hb5); have HB5 := am (jia HB4.out HB4.out.size hb5); clear hb5 e0 e1 e2 e3; obtain ⟨e0, e1, e2, e3⟩ := VX.cells X5.out) | (go_at_call 85; have tk := tok; clear tok; refine (HO.out x.f1 _ HX.out _).mono ?_; rintro e w6 ⟨rfl, hd6⟩; have hb6 := hd6.below; clear hd6; have X6 := am (VX.below X5.out hb6); have HB6 := am (jia HB5.out HB5.out.size hb6); clear hb6 e0 e1 e2 e3; obtain ⟨e0, e1, e2, e3⟩ := VX.cells X6.out))
         go_ret
         exact ⟨rfl, HB6.out⟩
       ·rw [if_neg z7] at hc
        obtain rfl : true = c := by simpa using hc
        clear hc
        have b7 : (x.f1 == 7) = false := beq_eq_false_iff_ne.2 z7
        simp only [Bool.true_eq_false, if_false] at h
        obtain ⟨c, hc, h⟩ := Option.bind_eq_some_iff.mp h
        by_cases z56 : x.f1 = 5 ∨ x.f1 = 6
        ·rw [if_pos z56] at hc
         have HC := am (fun W (hb : Below w.heap.size w W) => jYa.calls k _ c1 l1 a2 c W (Kd.jU HR1.out hb) hc1 hc)
         have hx : jv.inB x.f1 8 10 = false := by rcases z56 with z | z <;> (unfold jv.inB; rw [z]; rfl)
         have HX := am hx
         cases c with
         | false =>
          obtain rfl : false = r := by simpa using h
          clear h hc hx
          rcases z56 with z | z
          ·have b5 : (x.f1 == 5) = true := beq_iff_eq.2 z
           clear z z7
           go_wp2_with (first | (go_at_call 96; refine (HC.out _ HB4.out).mono ?_; rintro e w5 ⟨rfl, hd5⟩; have hb5 := hd5.below; clear hd5; have X5 := am (VX.below X4.out hb5); have HB5 := am (jia HB4.out HB4.out.size hb5); clear hb5 e0 e1 e2 e3; obtain ⟨e0, e1, e2, e3⟩ := VX.cells X5.out))
           go_ret
           exact ⟨rfl, HB5.out⟩
          ·have b5 : (x.f1 == 5) = false := beq_eq_false_iff_ne.2 (by omega)
           have b6 : (x.f1 == 6) = true := beq_iff_eq.2 z
           clear z z7
           go_wp2_with (first | (go_at_call 96; refine (HC.out _ HB4.out).mono ?_; rintro e w5 ⟨rfl, hd5⟩; have hb5 := hd5.below; clear hd5; have X5 := am (VX.below X4.out hb5); have HB5 := am (jia HB4.out HB4.out.size hb5); clear hb5 e0 e1 e2 e3; obtain ⟨e0, e1, e2, e3⟩ := VX.cells X5.out))
           go_ret
           exact ⟨rfl, HB5.out⟩
         | true =>
          obtain rfl : true = r := by simpa [hx] using h
          clear h hc hx
          rcases z56 with z | z
          ·have b5 : (x.f1 == 5) = true := beq_iff_eq.2 z
           clear z z7
           go_wp2_with (first | (go_at_call 96; refine (HC.out _ HB4.out).mono ?_; rintro e w5 ⟨rfl, hd5⟩; have hb5 := hd5.below; clear hd5; have X5 := am (VX.below X4.out hb5); have HB5 := am (jia HB4.out HB4.out.size hb5); clear hb5 e0 e1 e2 e3; obtain ⟨e0, e1, e2, e3⟩ := VX.cells X5.out) | (go_at_call 85; have tk := tok; clear tok; refine (HO.out x.f1 _ HX.out _).mono ?_; rintro e w6 ⟨rfl, hd6⟩; have hb6 := hd6.below; clear hd6; have X6 := am (VX.below X5.out hb6); have HB6 := am (jia HB5.out HB5.out.size hb6); clear hb6 e0 e1 e2 e3; obtain ⟨e0, e1, e2, e3⟩ := VX.cells X6.out))
           go_ret
           exact ⟨rfl, HB6.out⟩
          ·have b5 : (x.f1 == 5) = false := beq_eq_false_iff_ne.2 (by omega)
           have b6 : (x.f1 == 6) = true := beq_iff_eq.2 z
           clear z z7
           go_wp2_with (first | (go_at_call 96; refine (HC.out _ HB4.out).mono ?_; rintro e w5 ⟨rfl, hd5⟩; have hb5 := hd5.below; clear hd5; have X5 := am (VX.below X4.out hb5); have HB5 := am (jia HB4.out HB4.out.size hb5); clear hb5 e0 e1 e2 e3; obtain ⟨e0, e1, e2, e3⟩ := VX.cells X5.out) | (go_at_call 85; have tk := tok; clear tok; refine (HO.out x.f1 _ HX.out _).mono ?_; rintro e w6 ⟨rfl, hd6⟩; have hb6 := hd6.below; clear hd6; have X6 := am (VX.below X5.out hb6); have HB6 := am (jia HB5.out HB5.out.size hb6); clear hb6 e0 e1 e2 e3; obtain ⟨e0, e1, e2, e3⟩ := VX.cells X6.out))
           go_ret
           exact ⟨rfl, HB6.out⟩
        ·rw [if_neg z56] at hc
         obtain rfl : true = c := by simpa using hc
         clear hc
         have b5 : (x.f1 == 5) = false := beq_eq_false_iff_ne.2 (fun z => z56 (.inl z))
         have b6 : (x.f1 == 6) = false := beq_eq_false_iff_ne.2 (fun z => z56 (.inr z))
         simp only [Bool.true_eq_false, if_false] at h
         clear z7 z56
         cases hx : jv.inB x.f1 8 10 with
         | false =>
          have HX := am hx
          rw [hx, if_pos rfl] at h
          obtain rfl : true = r := by simpa using h
          clear h hx
          go_wp2_with (first | (go_at_call 85; have tk := tok; clear tok; refine (HO.out x.f1 _ HX.out _).mono ?_; rintro e w6 ⟨rfl, hd6⟩; have hb6 := hd6.below; clear hd6; have X6 := am (VX.below X4.out hb6); have HB6 := am (jia HB4.out HB4.out.size hb6); clear hb6 e0 e1 e2 e3; obtain ⟨e0, e1, e2, e3⟩ := VX.cells X6.out))
          go_ret
          exact ⟨rfl, HB6.out⟩
         | true =>
          have HX := am hx
          rw [hx] at h
          simp only [Bool.true_eq_false, if_false] at h
          clear hx
          obtain ⟨q, hq, h⟩ := Option.bind_eq_some_iff.mp h
          have HQ := am (fun W (hb : Below w.heap.size w W) => jZa.calls k _ c1 l1 a2 q W (Kd.jU HR1.out hb) hc1 hq)
          clear hq
          by_cases q0 : 0 ≤ q
          ·rw [if_pos q0] at h
           have q0b := decide_eq_true q0
           by_cases q1 : q < (l1.length : Int)
           ·rw [if_pos q1] at h
            obtain ⟨ad', he, y0, y1, y2, y3⟩ := jsa HR1.out q q0 q1
            cases he
            generalize je l1 q = y at h y0 y1
            have HK := am y1
            clear y0 y1 y2 y3
            have q0 := eq_true q0
            have q1 := eq_true q1
            by_cases zy : y.f1 = 7
            ·have by7 : (y.f1 == 7) = true := beq_iff_eq.2 zy
             obtain rfl : true = r := by simpa [zy] using h
             clear h zy
             go_wp2_with (first | (go_at_call 85; have tk := tok; clear tok; refine (HO.out x.f1 _ HX.out _).mono ?_; rintro e w6 ⟨rfl, hd6⟩; have hb6 := hd6.below; clear hd6; have X6 := am (VX.below X4.out hb6); have HB6 := am (jia HB4.out HB4.out.size hb6); clear hb6 e0 e1 e2 e3; obtain ⟨e0, e1, e2, e3⟩ := VX.cells X6.out) | (go_at_call 97; refine (HQ.out _ HB6.out).mono ?_; rintro e w7 ⟨rfl, hd7⟩; have hb7 := hd7.below; clear hd7; have X7 := am (VX.below X6.out hb7); have HB7 := am (jia HB6.out HB6.out.size hb7); clear hb7 e0 e1 e2 e3; obtain ⟨e0, e1, e2, e3⟩ := VX.cells X7.out; have y1 := jxa HB7.out HK.out))
             go_ret
             exact ⟨rfl, HB7.out⟩
            ·have by7 : (y.f1 == 7) = false := beq_eq_false_iff_ne.2 zy
             cases hy : jv.inB y.f1 8 10 with
             | true =>
              have HY := am hy
              obtain rfl : true = r := by rw [hy, by7] at h; simpa using h
              clear h hy zy
              go_wp2_with (first | (go_at_call 85; have tk := tok; clear tok; refine (HO.out x.f1 _ HX.out _).mono ?_; rintro e w6 ⟨rfl, hd6⟩; have hb6 := hd6.below; clear hd6; have X6 := am (VX.below X4.out hb6); have HB6 := am (jia HB4.out HB4.out.size hb6); clear hb6 e0 e1 e2 e3; obtain ⟨e0, e1, e2, e3⟩ := VX.cells X6.out) | (go_at_call 97; refine (HQ.out _ HB6.out).mono ?_; rintro e w7 ⟨rfl, hd7⟩; have hb7 := hd7.below; clear hd7; have X7 := am (VX.below X6.out hb7); have HB7 := am (jia HB6.out HB6.out.size hb7); clear hb7 e0 e1 e2 e3; obtain ⟨e0, e1, e2, e3⟩ := VX.cells X7.out; have y1 := jxa HB7.out HK.out) | (go_at_call 85; refine (HO.out y.f1 _ HY.out _).mono ?_; rintro e w8 ⟨rfl, hd8⟩; have hb8 := hd8.below; clear hd8; have X8 := am (VX.below X7.out hb8); have HB8 := am (jia HB7.out HB7.out.size hb8); clear hb8 e0 e1 e2 e3; obtain ⟨e0, e1, e2, e3⟩ := VX.cells X8.out))
              go_ret
              exact ⟨rfl, HB8.out⟩
             | false =>
              have HY := am hy
              obtain rfl : false = r := by rw [hy, by7] at h; simpa using h
              clear h hy zy
              go_wp2_with (first | (go_at_call 85; have tk := tok; clear tok; refine (HO.out x.f1 _ HX.out _).mono ?_; rintro e w6 ⟨rfl, hd6⟩; have hb6 := hd6.below; clear hd6; have X6 := am (VX.below X4.out hb6); have HB6 := am (jia HB4.out HB4.out.size hb6); clear hb6 e0 e1 e2 e3; obtain ⟨e0, e1, e2, e3⟩ := VX.cells X6.out) | (go_at_call 97; refine (HQ.out _ HB6.out).mono ?_; rintro e w7 ⟨rfl, hd7⟩; have hb7 := hd7.below; clear hd7; have X7 := am (VX.below X6.out hb7); have HB7 := am (jia HB6.out HB6.out.size hb7); clear hb7 e0 e1 e2 e3; obtain ⟨e0, e1, e2, e3⟩ := VX.cells X7.out; have y1 := jxa HB7.out HK.out) | (go_at_call 85; refine (HO.out y.f1 _ HY.out _).mono ?_; rintro e w8 ⟨rfl, hd8⟩; have hb8 := hd8.below; clear hd8; have X8 := am (VX.below X7.out hb8); have HB8 := am (jia HB7.out HB7.out.size hb8); clear hb8 e0 e1 e2 e3; obtain ⟨e0, e1, e2, e3⟩ := VX.cells X8.out))
              go_ret
              exact ⟨rfl, HB8.out⟩
           ·rw [if_neg q1] at h
            cases h
          ·rw [if_neg q0] at h
           have q0b := decide_eq_false q0
           obtain rfl : false = r := by simpa using h
           clear h q0
           go_wp2_with (first | (go_at_call 85; have tk := tok; clear tok; refine (HO.out x.f1 _ HX.out _).mono ?_; rintro e w6 ⟨rfl, hd6⟩; have hb6 := hd6.below; clear hd6; have X6 := am (VX.below X4.out hb6); have HB6 := am (jia HB4.out HB4.out.size hb6); clear hb6 e0 e1 e2 e3; obtain ⟨e0, e1, e2, e3⟩ := VX.cells X6.out) | (go_at_call 97; refine (HQ.out _ HB6.out).mono ?_; rintro e w7 ⟨rfl, hd7⟩; have hb7 := hd7.below; clear hd7; have X7 := am (VX.below X6.out hb7); have HB7 := am (jia HB6.out HB6.out.size hb7); clear hb7 e0 e1 e2 e3; obtain ⟨e0, e1, e2, e3⟩ := VX.cells X7.out))
           go_ret
           exact ⟨rfl, HB7.out⟩
  ·rw [if_neg h1] at h
   cases h
 ·rw [if_neg h0] at h
  cases h
def jPa.l0 : Nat → ByteArray → Int → Option (Bool)
 | 0, _, _ => none
 | k + 1, x0, x3 => if x3 < (x0.size : Int) then (if 0 ≤ x3 then (if (bt x0 x3) < 97 then (some false) else (if (bt x0 x3) > 122 then (some false) else (jPa.l0 k x0 (wrap64 (x3 + 1))))) else (none)) else ((jH.f (x0.size : Int) 1 6).bind fun t577 => (some t577))
def jPa.f (k : Nat) (a0 : ByteArray) : Option (Bool) := jPa.l0 k a0 0
set_option maxHeartbeats 8000000 in
set_option maxRecDepth 100000 in
theorem jPa.calls (k : Nat) (a0 : ByteArray) (r : Bool) (w : World) (h : jPa.f k a0 = some r) :
  Calls Try.prog 98 #[.string a0] w fun e w' => e = .returned (.bool r) ∧ jnb w w' := by
 have H : (jPa.l0 k a0 0) = some r := h
 clear h
 have H' := am H
 clear H
 go_enter Try.func98, Try.ntmps98
 go_wp2
 go_loopg [3] k (fun kq v3 w' => ∃ (x3_1 : Int), v3 = .int .i64 x3_1 ∧ jo (jPa.l0 kq a0 x3_1 = some r) ∧ jo (kq ≤ k) ∧ jnb w w')
 case atStart => exact ⟨(0), (sq), H', ⟨Nat.le_refl _⟩, Y7⟩
 case round =>
  clear H'
  obtain ⟨x3_1, rfl, HA, HK1, ⟨m1, rfl⟩⟩ := hrel
  cases gk with
  | zero => exact absurd HA.out (by simp [jPa.l0])
  | succ k1 =>
   have H := HA.out
   clear HA
   simp only [jPa.l0] at H
   by_cases c2 : x3_1 < (a0.size : Int)
   ·rw [if_pos c2] at H
    have c2b0 : decide (x3_1 < (a0.size : Int)) = true := decide_eq_true c2
    clear c2
    by_cases c3 : 0 ≤ x3_1
    ·rw [if_pos c3] at H
     have c3b0 : decide (0 ≤ x3_1) = true := decide_eq_true c3
     clear c3
     by_cases c5 : (bt a0 x3_1) < 97
     ·rw [if_pos c5] at H
      have c5b0 : decide ((bt a0 x3_1) < 97) = true := decide_eq_true c5
      clear c5
      obtain rfl := Option.some.inj H
      have p4 : 0 ≤ (x3_1 : Int) := of_decide_eq_true (uq)
      have q4 : x3_1 < (a0.size : Int) := of_decide_eq_true (uq)
      have hx4 := bt_at a0 x3_1
      replace p4 := eq_true p4
      replace q4 := eq_true q4
      go_wp2
      go_ret
      exact ⟨sq, Y7⟩
     ·rw [if_neg c5] at H
      have c5b0 : decide ((bt a0 x3_1) < 97) = false := decide_eq_false c5
      clear c5
      by_cases c7 : (bt a0 x3_1) > 122
      ·rw [if_pos c7] at H
       have c7b0 : decide (122 < (bt a0 x3_1)) = true := decide_eq_true c7
       clear c7
       obtain rfl := Option.some.inj H
       have p4 : 0 ≤ (x3_1 : Int) := of_decide_eq_true (uq)
       have q4 : x3_1 < (a0.size : Int) := of_decide_eq_true (uq)
       have hx4 := bt_at a0 x3_1
       replace p4 := eq_true p4
       replace q4 := eq_true q4
       have p6 : 0 ≤ (x3_1 : Int) := of_decide_eq_true (uq)
       have q6 : x3_1 < (a0.size : Int) := of_decide_eq_true (uq)
       have hx6 := bt_at a0 x3_1
       replace p6 := eq_true p6
       replace q6 := eq_true q6
       go_wp2
       go_ret
       exact ⟨sq, Y7⟩
      ·rw [if_neg c7] at H
       have c7b0 : decide (122 < (bt a0 x3_1)) = false := decide_eq_false c7
       clear c7
       have H' := am H
       clear H
       have p4 : 0 ≤ (x3_1 : Int) := of_decide_eq_true (uq)
       have q4 : x3_1 < (a0.size : Int) := of_decide_eq_true (uq)
       have hx4 := bt_at a0 x3_1
       replace p4 := eq_true p4
       replace q4 := eq_true q4
       have p6 : 0 ≤ (x3_1 : Int) := of_decide_eq_true (uq)
       have q6 : x3_1 < (a0.size : Int) := of_decide_eq_true (uq)
       have hx6 := bt_at a0 x3_1
       replace p6 := eq_true p6
       replace q6 := eq_true q6
       go_wp2
       go_roundg k1
       case measure => have := HK1.out; omega
       case rel => exact ⟨(wrap64 (x3_1 + 1)), (sq), H', ⟨by have := HK1.out; omega⟩, Y7⟩
    ·rw [if_neg c3] at H
     exact absurd H (by simp)
   ·rw [if_neg c2] at H
    have c2b0 : decide (x3_1 < (a0.size : Int)) = false := decide_eq_false c2
    clear c2
    replace H := Option.bind_eq_some_iff.mp H
    obtain ⟨t577, A80, H⟩ := H
    replace H : (some t577) = some r := H
    have A8 := am A80
    clear A80
    obtain rfl := Option.some.inj H
    go_wp2_with (first | ((with_reducible refine jd (f := 61) rfl ?_); refine gL (some 22) Try.func61 #[.int .i64 (a0.size : Int), .int .i64 1, .int .i64 6] ?_; (with_reducible refine (jH.calls (a0.size : Int) 1 6 t577 _ A8.out).mono ?_); rintro e w' ⟨rfl, ⟨nd, rfl⟩⟩; refine ⟨_, rfl, ?_⟩))
    go_ret
    exact ⟨sq, Y7⟩
def jKa.l0 : Nat → List (S75) → ByteArray → Int → Option (Int)
 | 0, _, _, _ => none
 | k + 1, x0, x1, x5 => if x5 < (x0.length : Int) then (if 0 ≤ x5 then (if ((jga x0 x5).f0).toList = x1.toList then (some x5) else (jKa.l0 k x0 x1 (wrap64 (x5 + 1)))) else (none)) else (some (-1))
def jKa.f (k : Nat) (l0 : List (S75)) (a1 : ByteArray) : Option (Int) := jKa.l0 k l0 a1 0
set_option maxHeartbeats 8000000 in
set_option maxRecDepth 100000 in
theorem jKa.calls (k : Nat) (A0 : Option Addr) (c0 : Nat) (l0 : List (S75)) (a1 : ByteArray) (r : Int) (w : World) (hr0 : Kd.C k75 w A0 l0.length l0) (hc0 : l0.length ≤ c0) (h : jKa.f k l0 a1 = some r) :
  Calls Try.prog 99 #[.slice A0 l0.length c0, .string a1] w fun e w' => e = .returned (.int .i64 r) ∧ jnb w w' := by
 have HR0 := am hr0
 have HC0 := am hc0
 clear hr0 hc0
 have H : (jKa.l0 k l0 a1 0) = some r := h
 clear h
 have H' := am H
 clear H
 go_enter Try.func99, Try.ntmps99
 go_wp2
 go_loopg [5] k (fun kq v5 w' => ∃ (x5_1 : Int), v5 = .int .i64 x5_1 ∧ jo (jKa.l0 kq l0 a1 x5_1 = some r) ∧ jo (kq ≤ k) ∧ jnb w w')
 case atStart => exact ⟨(0), (sq), H', ⟨Nat.le_refl _⟩, Y7⟩
 case round =>
  clear H'
  try clear p2
  obtain ⟨x5_1, rfl, HA, HK1, ⟨m1, rfl⟩⟩ := hrel
  cases gk with
  | zero => exact absurd HA.out (by simp [jKa.l0])
  | succ k1 =>
   have H := HA.out
   clear HA
   simp only [jKa.l0] at H
   by_cases c3 : x5_1 < (l0.length : Int)
   ·rw [if_pos c3] at H
    have c3b0 : decide (x5_1 < (l0.length : Int)) = true := decide_eq_true c3
    clear c3
    by_cases c4 : 0 ≤ x5_1
    ·rw [if_pos c4] at H
     have c4b0 : decide (0 ≤ x5_1) = true := decide_eq_true c4
     clear c4
     by_cases c5 : ((jga l0 x5_1).f0).toList = a1.toList
     ·rw [if_pos c5] at H
      have c5b0 : (((jga l0 x5_1).f0).toList == a1.toList) = true := beq_iff_eq.mpr c5
      have c5b1 : (((jga l0 x5_1).f0).toList != a1.toList) = false := bne_eq_false_iff_eq.mpr c5
      clear c5
      obtain rfl := Option.some.inj H
      have p578 : 0 ≤ (x5_1 : Int) := of_decide_eq_true (uq)
      have q578 : x5_1 < (l0.length : Int) := of_decide_eq_true (uq)
      obtain ⟨ad578, e578, hx578_0, hx578_1⟩ := at_T75 HR0.out x5_1 p578 q578
      cases e578
      replace p578 := eq_true p578
      replace q578 := eq_true q578
      go_wp2
      go_ret
      exact ⟨sq, Y7⟩
     ·rw [if_neg c5] at H
      have c5b0 : (((jga l0 x5_1).f0).toList == a1.toList) = false := beq_eq_false_iff_ne.mpr c5
      have c5b1 : (((jga l0 x5_1).f0).toList != a1.toList) = true := bne_iff_ne.mpr c5
      have H' := am H
      clear H
      have p578 : 0 ≤ (x5_1 : Int) := of_decide_eq_true (uq)
      have q578 : x5_1 < (l0.length : Int) := of_decide_eq_true (uq)
      obtain ⟨ad578, e578, hx578_0, hx578_1⟩ := at_T75 HR0.out x5_1 p578 q578
      cases e578
      replace p578 := eq_true p578
      replace q578 := eq_true q578
      go_wp2
      go_roundg k1
      case measure => have := HK1.out; omega
      case rel => exact ⟨(wrap64 (x5_1 + 1)), (sq), H', ⟨by have := HK1.out; omega⟩, Y7⟩
    ·rw [if_neg c4] at H
     exact absurd H (by simp)
   ·rw [if_neg c3] at H
    have c3b0 : decide (x5_1 < (l0.length : Int)) = false := decide_eq_false c3
    clear c3
    obtain rfl := Option.some.inj H
    go_wp2
    go_ret
    exact ⟨sq, Y7⟩
mutual
def jS.l0 : Nat → Int → List (S75) → Option (Bool)
 | 0, _, _ => none
 | k + 1, x3, x155000 => if x3 < (x155000.length : Int) then (if 0 ≤ x3 then ((jPa.f k ((jga x155000 x3).f0)).bind fun t158 => (if t158 = true then (if x3 ≤ (x155000.length : Int) then ((jKa.f k (x155000.take (x3 : Int).toNat) ((jga x155000 x3).f0)).bind fun t163 => (if t163 ≥ 0 then (jS.j1 k x3 true x155000) else (if x3 = 0 then (if ((jga x155000 x3).f1) = (-1) then (if x3 > 0 then ((jH.f ((jga x155000 x3).f1) 0 (wrap64 (x3 - 1))).bind fun t164 => (jS.j1 k x3 (!t164) x155000)) else (jS.j1 k x3 false x155000)) else (jS.j1 k x3 true x155000)) else (if x3 > 0 then ((jH.f ((jga x155000 x3).f1) 0 (wrap64 (x3 - 1))).bind fun t165 => (jS.j1 k x3 (!t165) x155000)) else (jS.j1 k x3 false x155000))))) else (none)) else (jS.j1 k x3 true x155000))) else (none)) else ((jH.f (x155000.length : Int) 1 8).bind fun t155 => (some t155))
def jS.j1 : Nat → Int → Bool → List (S75) → Option (Bool)
 | 0, _, _, _ => none
 | k + 1, x3, x51, x155000 => if x51 = true then (some false) else (jS.l0 k (wrap64 (x3 + 1)) x155000)
end
def jS.f (k : Nat) (l0_0 : List (S75)) : Option (Bool) := jS.l0 k 0 l0_0
set_option maxHeartbeats 8000000 in
set_option maxRecDepth 100000 in
theorem jS.calls (k : Nat) (A0_0 : Option Addr) (c0_0 : Nat) (l0_0 : List (S75)) (r : Bool) (w : World) (hr0_0 : Kd.C k75 w A0_0 l0_0.length l0_0) (hc0_0 : l0_0.length ≤ c0_0) (h : jS.f k l0_0 = some r) :
  Calls Try.prog 80 #[.agg #[.slice A0_0 l0_0.length c0_0]] w fun e w' => e = .returned (.bool r) ∧ Below w.heap.size w w' := by
 have hu25 := Try.underlying25
 have hu75 := Try.underlying75
 have HR0_0 := am hr0_0
 have HC0_0 := am hc0_0
 clear hr0_0 hc0_0
 have HB := am (Below.refl w.heap.size w)
 have H : (jS.l0 k 0 l0_0) = some r := h
 clear h
 have H' := am H
 clear H
 go_enter Try.func80, Try.ntmps80
 go_wp2_with (first | ((with_reducible refine jI (N := 1) rfl ?_); refine bE (N := 1) (cs := #[.slice A0_0 l0_0.length c0_0]) (t := 25) ?_; intro gb154 hg w2 hbox hb; have BK154 := am (hbox); have GW154 := am ((Y4 : w.heap.size ≤ gb154)); have GE154 := am ((Y4 : w.heap.size ≤ gb154)); replace HB := am (jf (bq) hb); clear hb hbox hg))
 go_loopg [3] k (fun kq v3 w' => ∃ (x3_1 : Int), v3 = .int .i64 x3_1 ∧ jo (jS.l0 kq x3_1 l0_0 = some r) ∧ jo (kq ≤ k) ∧ jo (w'.heap[gb154]? = some (.cells #[(.slice A0_0 l0_0.length c0_0)] 25 (0, 0))) ∧ jo (Below w.heap.size w w'))
 case atStart => exact ⟨(0), (sq), H', ⟨Nat.le_refl _⟩, ⟨kq BK154.out⟩, ⟨Y113⟩⟩
 case round =>
  clear H'
  try clear c1
  try clear p2
  obtain ⟨x3_1, rfl, HA, HK1, BK154, HB⟩ := hrel
  cases gk with
  | zero => exact absurd HA.out (by simp [jS.l0])
  | succ k1 =>
   have H := HA.out
   clear HA
   simp only [jS.l0] at H
   by_cases c3 : x3_1 < (l0_0.length : Int)
   ·rw [if_pos c3] at H
    have c3b0 : decide (x3_1 < (l0_0.length : Int)) = true := decide_eq_true c3
    clear c3
    by_cases c4 : 0 ≤ x3_1
    ·rw [if_pos c4] at H
     have c4b0 : decide (0 ≤ x3_1) = true := decide_eq_true c4
     clear c4
     have HC5 := am H
     clear H
     have hcz6_0 := bc0 BK154.out
     have hfz6_0 := ja BK154.out 0
     have p156 : 0 ≤ (x3_1 : Int) := of_decide_eq_true (uq)
     have q156 : x3_1 < (l0_0.length : Int) := of_decide_eq_true (uq)
     obtain ⟨ad156, e156, hx156_0, hx156_1⟩ := at_T75 HR0_0.out x3_1 p156 q156
     cases e156
     replace hx156_0 := cb HB.out hx156_0
     replace hx156_1 := cb HB.out hx156_1
     replace p156 := eq_true p156
     replace q156 := eq_true q156
     go_upto_region 5 with (first | ((with_reducible refine jI (N := 4) rfl ?_); refine bE (N := 4) (cs := #[.string (⟨#[]⟩ : ByteArray), .int .i64 0]) (t := 75) ?_; intro gb157 hg w7 hbox hb; have BK157 := am (hbox); have GW157 := am ((Y136 : w.heap.size ≤ gb157)); have GE157 := am ((Y136 : w.heap.size ≤ gb157)); have NB154_157 := am ((by rw [hg]; exact Nat.ne_of_lt (jEb (g := gb154) (o := .cells #[.slice (some ad156) l0_0.length c0_0] 25 (0, 0)) (kq BK154.out)) : gb154 ≠ gb157)); have NB157_154 := am ((by rw [hg]; exact Nat.ne_of_gt (jEb (g := gb154) (o := .cells #[.slice (some ad156) l0_0.length c0_0] 25 (0, 0)) (kq BK154.out)) : gb157 ≠ gb154)); replace BK154 := am (ji (g := gb154) (o := .cells #[.slice (some ad156) l0_0.length c0_0] 25 (0, 0)) (kq BK154.out) hb); replace HB := am (jf (Y113) hb); clear hb hbox hg; have hnb8 := NB157_154.out; have hnc8 := NB154_157.out; have hcz9_0 := bc0 BK157.out; have hcz9_1 := bc1 BK157.out; have hfz9_0 := ja BK157.out 0; have hfz9_1 := ja BK157.out 1))
     (try simp only [Act.put, List.setIfInBounds_toArray, List.set_cons_zero, List.set_cons_succ])
     go_cut [51] (fun v51 wc => ∃ (kq : Nat) (x51_4 : Bool), v51 = .bool x51_4 ∧ jo (jS.j1 kq x3_1 x51_4 l0_0 = some r) ∧ jo (kq ≤ k1) ∧ jo (wc.heap[gb154]? = some (.cells #[(.slice (some ad156) l0_0.length c0_0)] 25 (0, 0))) ∧ jo (wc.heap[gb157]? = some (.cells #[.string ((jga l0_0 x3_1).f0), .int .i64 ((jga l0_0 x3_1).f1)] 75 (0, 0))) ∧ jo (Below w.heap.size w wc))
     case first =>
      have n0_ : jo (((w7.setCell ⟨gb157, 0, none⟩ (.string ((jga l0_0 x3_1).f0))).setCell ⟨gb157, 1, none⟩ (.int .i64 ((jga l0_0 x3_1).f1))).heap[gb154]? = some (.cells #[.slice (some ad156) l0_0.length c0_0] 25 (0, 0))) := ⟨by (with_reducible repeat (first | refine jr ?_ _ | refine jB ?_ | refine jw ?_ _)); refine jlb ?_ NB154_157.out _; (with_reducible repeat (first | refine jr ?_ _ | refine jB ?_ | refine jw ?_ _)); refine jlb ?_ NB154_157.out _; (with_reducible repeat (first | refine jr ?_ _ | refine jB ?_ | refine jw ?_ _)); exact BK154.out⟩
      have n1_ : jo (((w7.setCell ⟨gb157, 0, none⟩ (.string ((jga l0_0 x3_1).f0))).setCell ⟨gb157, 1, none⟩ (.int .i64 ((jga l0_0 x3_1).f1))).heap[gb157]? = some (.cells #[.string ((jga l0_0 x3_1).f0), .int .i64 ((jga l0_0 x3_1).f1)] 75 (0, 0))) := ⟨by (with_reducible repeat (first | refine jr ?_ _ | refine jB ?_ | refine jw ?_ _)); refine jab (cs := #[.string ((jga l0_0 x3_1).f0), .int .i64 0]) ?_ 1 _ rfl; (with_reducible repeat (first | refine jr ?_ _ | refine jB ?_ | refine jw ?_ _)); refine jab (cs := #[.string (⟨#[]⟩ : ByteArray), .int .i64 0]) ?_ 0 _ rfl; (with_reducible repeat (first | refine jr ?_ _ | refine jB ?_ | refine jw ?_ _)); exact BK157.out⟩
      have n2_ : jo (Below w.heap.size w ((w7.setCell ⟨gb157, 0, none⟩ (.string ((jga l0_0 x3_1).f0))).setCell ⟨gb157, 1, none⟩ (.int .i64 ((jga l0_0 x3_1).f1)))) := ⟨Y114⟩
      clear BK154 BK157 HB hcz9_0 hcz9_1 hfz9_0 hfz9_1
      generalize ((w7.setCell ⟨gb157, 0, none⟩ (.string ((jga l0_0 x3_1).f0))).setCell ⟨gb157, 1, none⟩ (.int .i64 ((jga l0_0 x3_1).f1))) = w16 at n0_ n1_ n2_ ⊢
      have BK154 := n0_
      have BK157 := n1_
      have HB := n2_
      clear n0_ n1_ n2_
      have HRW := am (Kd.jU HR0_0.out HB.out)
      have e0 : w16.cell? ⟨gb157, 0, none⟩ = some (.string ((jga l0_0 x3_1).f0)) := (jN BK157.out 0).trans rfl
      have e1 : w16.cell? ⟨gb157, 1, none⟩ = some (.int .i64 ((jga l0_0 x3_1).f1)) := (jN BK157.out 1).trans rfl
      have e2 : w16.cell? ⟨gb154, 0, none⟩ = some (.slice (some ad156) l0_0.length c0_0) := (jN BK154.out 0).trans rfl
      have H := HC5.out
      clear HC5
      obtain ⟨v, hv, H⟩ := Option.bind_eq_some_iff.mp H
      have HN := am (fun W => (jPa.calls k1 _ v W hv).mono fun e w' h => (⟨h.1, h.2.out⟩ : e = .returned (.bool v) ∧ ∃ m, w' = W.drewN m))
      clear hv hx156_0 hx156_1
      generalize hgx : jga l0_0 x3_1 = x at H e0 e1 HN BK157
      have HGX := am hgx
      clear hgx
      cases v with
      | false =>
       have H' := am (show jS.j1 k1 x3_1 true l0_0 = some r from H)
       clear H
       go_big_quiet ((go_at_call 98; exact Calls.quiet_of (HN.out _)))
       go_wp2
       go_meet
       case rel => exact ⟨_, _, rfl, H', ⟨by have := HK1.out; omega⟩, ⟨jr BK154.out _⟩, ⟨by rw [HGX.out]; exact jr BK157.out _⟩, ⟨jq HB.out _⟩⟩
      | true =>
       replace H : (if x3_1 ≤ (l0_0.length : Int) then ((jKa.f k1 (l0_0.take (x3_1 : Int).toNat) x.f0).bind fun t163 => (if t163 ≥ 0 then (jS.j1 k1 x3_1 true l0_0) else (if x3_1 = 0 then (if x.f1 = (-1) then (if x3_1 > 0 then ((jH.f x.f1 0 (wrap64 (x3_1 - 1))).bind fun t164 => (jS.j1 k1 x3_1 (!t164) l0_0)) else (jS.j1 k1 x3_1 false l0_0)) else (jS.j1 k1 x3_1 true l0_0)) else (if x3_1 > 0 then ((jH.f x.f1 0 (wrap64 (x3_1 - 1))).bind fun t165 => (jS.j1 k1 x3_1 (!t165) l0_0)) else (jS.j1 k1 x3_1 false l0_0))))) else (none)) = some r := H
       have hle : x3_1 ≤ (l0_0.length : Int) := by have := of_decide_eq_true c3b0; omega
       have h0 : 0 ≤ x3_1 := of_decide_eq_true c4b0
       rw [if_pos hle] at H
       obtain ⟨c, hc, H⟩ := Option.bind_eq_some_iff.mp H
       obtain ⟨i0, hi0, _, _, _⟩ := info_parts info75
       have hcut := cut_to (P := Try.prog) 23 75 .i64 Try.underlying23 hi0 (some ad156) l0_0.length c0_0 x3_1 h0 hle HC0_0.out
       have hr18 := Kd.C_take (m := (x3_1 : Int).toNat) HRW.out (by omega)
       obtain ⟨y, hy⟩ : ∃ y : List S75, y = l0_0.take (x3_1 : Int).toNat := ⟨_, rfl⟩
       have hyl : y.length = (x3_1 : Int).toNat := by rw [hy, List.length_take]; omega
       have hyc : y.length ≤ c0_0 := by have := HC0_0.out; omega
       rw [← hy] at hr18
       rw [← hyl] at hcut
       rw [← hy] at hc
       have HCN := am (fun m => (jKa.calls k1 _ _ y x.f0 c (w16.drewN m) (Kd.jUb hr18 m) hyc hc).mono fun e w' h => (⟨h.1, h.2.out⟩ : e = .returned (.int .i64 c) ∧ ∃ m', w' = (w16.drewN m).drewN m'))
       clear hr18 hc hy hyl hyc
       have b0 := eq_true h0
       have b1 := eq_true hle
       by_cases hc0 : c ≥ 0
       ·rw [if_pos hc0] at H
        have b2 : decide (0 ≤ c) = true := decide_eq_true hc0
        have H' := am H
        clear H hc0 h0 hle
        go_big_quiet (first | (go_at_call 98; exact Calls.quiet_of (HN.out _)) | (go_at_call 99; exact Calls.quiet_of (HCN.out _)))
        go_wp2
        go_meet
        case rel => exact ⟨_, _, rfl, H', ⟨by have := HK1.out; omega⟩, ⟨jr BK154.out _⟩, ⟨by rw [HGX.out]; exact jr BK157.out _⟩, ⟨jq HB.out _⟩⟩
       ·rw [if_neg hc0] at H
        have b2 : decide (0 ≤ c) = false := decide_eq_false hc0
        clear hc0
        by_cases hz : x3_1 = 0
        ·rw [if_pos hz] at H
         have b3 : (x3_1 == 0) = true := beq_iff_eq.2 hz
         have b4 : decide (0 < x3_1) = false := decide_eq_false (by omega)
         by_cases hf : x.f1 = -1
         ·rw [if_pos hf, if_neg (by omega)] at H
          have b5 : (x.f1 != -1) = false := by simpa using hf
          have H' := am H
          clear H hf h0 hle hz
          go_big_quiet (first | (go_at_call 98; exact Calls.quiet_of (HN.out _)) | (go_at_call 99; exact Calls.quiet_of (HCN.out _)))
          go_wp2
          go_meet
          case rel => exact ⟨_, _, rfl, H', ⟨by have := HK1.out; omega⟩, ⟨jr BK154.out _⟩, ⟨by rw [HGX.out]; exact jr BK157.out _⟩, ⟨jq HB.out _⟩⟩
         ·rw [if_neg hf] at H
          have b5 : (x.f1 != -1) = true := by simpa using hf
          have H' := am H
          clear H hf h0 hle hz
          go_big_quiet (first | (go_at_call 98; exact Calls.quiet_of (HN.out _)) | (go_at_call 99; exact Calls.quiet_of (HCN.out _)))
          go_wp2
          go_meet
          case rel => exact ⟨_, _, rfl, H', ⟨by have := HK1.out; omega⟩, ⟨jr BK154.out _⟩, ⟨by rw [HGX.out]; exact jr BK157.out _⟩, ⟨jq HB.out _⟩⟩
        ·rw [if_neg hz, if_pos (by omega)] at H
         have b3 : (x3_1 == 0) = false := beq_eq_false_iff_ne.2 hz
         have b4 : decide (0 < x3_1) = true := decide_eq_true (by omega)
         obtain ⟨t, ht, H⟩ := Option.bind_eq_some_iff.mp H
         have H' := am H
         have HI := am (fun W => (jH.calls _ _ _ t W ht).mono fun e w' h => (⟨h.1, h.2.out⟩ : e = .returned (.bool t) ∧ ∃ m, w' = W.drewN m))
         clear H ht h0 hle hz
         go_big_quiet (first | (go_at_call 98; exact Calls.quiet_of (HN.out _)) | (go_at_call 99; exact Calls.quiet_of (HCN.out _)) | (go_at_call 61; exact Calls.quiet_of (HI.out _)))
         go_wp2
         go_meet
         case rel => exact ⟨_, _, rfl, H', ⟨by have := HK1.out; omega⟩, ⟨jr BK154.out _⟩, ⟨by rw [HGX.out]; exact jr BK157.out _⟩, ⟨jq HB.out _⟩⟩
     case rest =>
      clear HC5
      try clear c1
      try clear c2
      try clear p2
      try clear c3
      try clear q3
      try clear p6
      try clear c11
      try clear c12
      try clear c13
      try clear c21
      try clear c32
      try clear c32b0
      try clear q39
      try clear q39
      obtain ⟨kq, x51_4, rfl, HA, HJ4, BK154, BK157, HB⟩ := hcut
      cases kq with
      | zero => exact absurd HA.out (by simp [jS.j1])
      | succ kj4 =>
       have H := HA.out
       clear HA
       simp only [jS.j1] at H
       by_cases c42 : x51_4 = true
       ·subst c42
        have H1 : (some false) = some r := by rw [if_pos rfl] at H; exact H
        clear H
        have H := H1
        clear H1
        obtain rfl := Option.some.inj H
        go_wp2
        go_ret
        exact ⟨Y0, Y114⟩
       ·replace c42 := Bool.eq_false_iff.mpr c42
        subst c42
        have H1 : (jS.l0 kj4 (wrap64 (x3_1 + 1)) l0_0) = some r := by rw [if_neg (show ¬ (false = true) by decide)] at H; exact H
        clear H
        have H := H1
        clear H1
        have H' := am H
        clear H
        go_wp2
        go_roundg kj4
        case measure => have := HK1.out; have := HJ4.out; omega
        case rel => exact ⟨(wrap64 (x3_1 + 1)), (sq), H', ⟨by have := HK1.out; have := HJ4.out; omega⟩, ⟨kq BK154.out⟩, ⟨Y114⟩⟩
    ·rw [if_neg c4] at H
     exact absurd H (by simp)
   ·rw [if_neg c3] at H
    have c3b0 : decide (x3_1 < (l0_0.length : Int)) = false := decide_eq_false c3
    clear c3
    replace H := Option.bind_eq_some_iff.mp H
    obtain ⟨t155, A430, H⟩ := H
    replace H : (some t155) = some r := H
    have A43 := am A430
    clear A430
    obtain rfl := Option.some.inj H
    have hcz44_0 := bc0 BK154.out
    have hfz44_0 := ja BK154.out 0
    go_wp2_with (first | ((with_reducible refine jd (f := 61) rfl ?_); refine gL (some 55) Try.func61 #[.int .i64 (l0_0.length : Int), .int .i64 1, .int .i64 8] ?_; (with_reducible refine (jH.calls (l0_0.length : Int) 1 8 t155 _ A43.out).mono ?_); rintro e w' ⟨rfl, ⟨nd, rfl⟩⟩; refine ⟨_, rfl, ?_⟩))
    go_ret
    exact ⟨Y0, Y113⟩
def jaa.l0 : Nat → List (S36) → Int → List (S75) → Option (Bool)
 | 0, _, _, _ => none
 | k + 1, x1, x5, x580000 => if x5 < (x1.length : Int) then ((jv.f k x580000 x1 x5).bind fun t581 => (if t581 = true then (jaa.l0 k x1 (wrap64 (x5 + 1)) x580000) else (some false))) else ((jS.f k x580000).bind fun t580 => (if t580 = true then (some (decide ((x1.length : Int) ≤ 24))) else (some false)))
def jaa.f (k : Nat) (l0_0 : List (S75)) (l1 : List (S36)) : Option (Bool) := jaa.l0 k l1 0 l0_0
set_option maxHeartbeats 8000000 in
set_option maxRecDepth 100000 in
theorem jaa.calls (k : Nat) (A0_0 : Option Addr) (c0_0 : Nat) (l0_0 : List (S75)) (A1 : Option Addr) (c1 : Nat) (l1 : List (S36)) (r : Bool) (w : World) (hr0_0 : Kd.C k75 w A0_0 l0_0.length l0_0) (hc0_0 : l0_0.length ≤ c0_0) (hr1 : Kd.C k36 w A1 l1.length l1) (hc1 : l1.length ≤ c1) (h : jaa.f k l0_0 l1 = some r) :
  Calls Try.prog 60 #[.agg #[.slice A0_0 l0_0.length c0_0], .slice A1 l1.length c1] w fun e w' => e = .returned (.bool r) ∧ Below w.heap.size w w' := by
 have hu25 := Try.underlying25
 have HR0_0 := am hr0_0
 have HC0_0 := am hc0_0
 clear hr0_0 hc0_0
 have HR1 := am hr1
 have HC1 := am hc1
 clear hr1 hc1
 have HB := am (Below.refl w.heap.size w)
 have H : (jaa.l0 k l1 0 l0_0) = some r := h
 clear h
 have H' := am H
 clear H
 go_enter Try.func60, Try.ntmps60
 go_wp2_with (first | ((with_reducible refine jI (N := 2) rfl ?_); (try (refine jgc (by rfl) ?_; dsimp only)); refine jkc ?hg (N := 2) ?hd (cs := #[.slice A0_0 l0_0.length c0_0]) (t := 25) ?hr ?_; (case hd => rfl); (case hg => rfl); (case hr => exact Y5); intro gb579 hg w3 hbox hb; have BK579 := am (hbox); have GW579 := am ((Y4 : w.heap.size ≤ gb579)); have GE579 := am ((Y4 : w.heap.size ≤ gb579)); replace HB := am (jf (bq) hb); clear hb hbox hg))
 go_loopg [5] k (fun kq v5 w' => ∃ (x5_1 : Int), v5 = .int .i64 x5_1 ∧ jo (jaa.l0 kq l1 x5_1 l0_0 = some r) ∧ jo (kq ≤ k) ∧ jo (w'.heap[gb579]? = some (.cells #[(.slice A0_0 l0_0.length c0_0)] 25 (0, 0))) ∧ jo (Below w.heap.size w w'))
 case atStart => exact ⟨(0), (sq), H', ⟨Nat.le_refl _⟩, ⟨kq BK579.out⟩, ⟨Y48⟩⟩
 case round =>
  clear H'
  try clear c1
  try clear p2
  obtain ⟨x5_1, rfl, HA, HK1, BK579, HB⟩ := hrel
  cases gk with
  | zero => exact absurd HA.out (by simp [jaa.l0])
  | succ k1 =>
   have H := HA.out
   clear HA
   simp only [jaa.l0] at H
   by_cases c4 : x5_1 < (l1.length : Int)
   ·rw [if_pos c4] at H
    have c4b0 : decide (x5_1 < (l1.length : Int)) = true := decide_eq_true c4
    clear c4
    replace H := Option.bind_eq_some_iff.mp H
    obtain ⟨t581, A50, H⟩ := H
    replace H : (if t581 = true then (jaa.l0 k1 l1 (wrap64 (x5_1 + 1)) l0_0) else (some false)) = some r := H
    have A5 := am A50
    clear A50
    by_cases c6 : t581 = true
    ·subst c6
     have H1 : (jaa.l0 k1 l1 (wrap64 (x5_1 + 1)) l0_0) = some r := by rw [if_pos rfl] at H; exact H
     clear H
     have H := H1
     clear H1
     have H' := am H
     clear H
     have hcz7_0 := bc0 BK579.out
     have hfz7_0 := ja BK579.out 0
     go_wp2_with (first | ((with_reducible refine jd (f := 79) rfl ?_); refine gL (some 15) Try.func79 #[.agg #[.slice A0_0 l0_0.length c0_0], .slice A1 l1.length c1, .int .i64 x5_1] ?_; (with_reducible refine (jv.calls k1 _ _ l0_0 _ _ l1 x5_1 true _ ?side1 ?side2 ?side3 ?side4 A5.out).mono ?_); (case side1 => exact cq (Kd.jU HR0_0.out HB.out)); (case side2 => exact HC0_0.out); (case side3 => exact cq (Kd.jU HR1.out HB.out)); (case side4 => exact HC1.out); rintro e w8 ⟨rfl, hb⟩; refine ⟨_, rfl, ?_⟩; replace BK579 := am (ji (g := gb579) (o := .cells #[.slice A0_0 l0_0.length c0_0] 25 (0, 0)) (kq BK579.out) hb); replace HB := am (jf (Y48) hb); (try clear hb); (try clear hb2); (try clear hk); (try clear hi)))
     go_roundg k1
     case measure => have := HK1.out; omega
     case rel => exact ⟨(wrap64 (x5_1 + 1)), (sq), H', ⟨by have := HK1.out; omega⟩, ⟨kq BK579.out⟩, ⟨Y48⟩⟩
    ·replace c6 := Bool.eq_false_iff.mpr c6
     subst c6
     have H1 : (some false) = some r := by rw [if_neg (show ¬ (false = true) by decide)] at H; exact H
     clear H
     have H := H1
     clear H1
     obtain rfl := Option.some.inj H
     have hcz9_0 := bc0 BK579.out
     have hfz9_0 := ja BK579.out 0
     go_wp2_with (first | ((with_reducible refine jd (f := 79) rfl ?_); refine gL (some 15) Try.func79 #[.agg #[.slice A0_0 l0_0.length c0_0], .slice A1 l1.length c1, .int .i64 x5_1] ?_; (with_reducible refine (jv.calls k1 _ _ l0_0 _ _ l1 x5_1 false _ ?side1 ?side2 ?side3 ?side4 A5.out).mono ?_); (case side1 => exact cq (Kd.jU HR0_0.out HB.out)); (case side2 => exact HC0_0.out); (case side3 => exact cq (Kd.jU HR1.out HB.out)); (case side4 => exact HC1.out); rintro e w10 ⟨rfl, hb⟩; refine ⟨_, rfl, ?_⟩; replace BK579 := am (ji (g := gb579) (o := .cells #[.slice A0_0 l0_0.length c0_0] 25 (0, 0)) (kq BK579.out) hb); replace HB := am (jf (Y48) hb); (try clear hb); (try clear hb2); (try clear hk); (try clear hi)))
     go_ret
     exact ⟨Y0, Y48⟩
   ·rw [if_neg c4] at H
    have c4b0 : decide (x5_1 < (l1.length : Int)) = false := decide_eq_false c4
    clear c4
    replace H := Option.bind_eq_some_iff.mp H
    obtain ⟨t580, A110, H⟩ := H
    replace H : (if t580 = true then (some (decide ((l1.length : Int) ≤ 24))) else (some false)) = some r := H
    have A11 := am A110
    clear A110
    by_cases c12 : t580 = true
    ·subst c12
     have H1 : (some (decide ((l1.length : Int) ≤ 24))) = some r := by rw [if_pos rfl] at H; exact H
     clear H
     have H := H1
     clear H1
     obtain rfl := Option.some.inj H
     have hcz13_0 := bc0 BK579.out
     have hfz13_0 := ja BK579.out 0
     go_wp2_with (first | ((with_reducible refine jd (f := 80) rfl ?_); refine gL (some 18) Try.func80 #[.agg #[.slice A0_0 l0_0.length c0_0]] ?_; (with_reducible refine (jS.calls k1 _ _ l0_0 true _ ?side1 ?side2 A11.out).mono ?_); (case side1 => exact cq (Kd.jU HR0_0.out HB.out)); (case side2 => exact HC0_0.out); rintro e w14 ⟨rfl, hb⟩; refine ⟨_, rfl, ?_⟩; replace BK579 := am (ji (g := gb579) (o := .cells #[.slice A0_0 l0_0.length c0_0] 25 (0, 0)) (kq BK579.out) hb); replace HB := am (jf (Y48) hb); (try clear hb); (try clear hb2); (try clear hk); (try clear hi)))
     go_ret
     exact ⟨Y0, Y48⟩
    ·replace c12 := Bool.eq_false_iff.mpr c12
     subst c12
     have H1 : (some false) = some r := by rw [if_neg (show ¬ (false = true) by decide)] at H; exact H
     clear H
     have H := H1
     clear H1
     obtain rfl := Option.some.inj H
     have hcz15_0 := bc0 BK579.out
     have hfz15_0 := ja BK579.out 0
     go_wp2_with (first | ((with_reducible refine jd (f := 80) rfl ?_); refine gL (some 18) Try.func80 #[.agg #[.slice A0_0 l0_0.length c0_0]] ?_; (with_reducible refine (jS.calls k1 _ _ l0_0 false _ ?side1 ?side2 A11.out).mono ?_); (case side1 => exact cq (Kd.jU HR0_0.out HB.out)); (case side2 => exact HC0_0.out); rintro e w16 ⟨rfl, hb⟩; refine ⟨_, rfl, ?_⟩; replace BK579 := am (ji (g := gb579) (o := .cells #[.slice A0_0 l0_0.length c0_0] 25 (0, 0)) (kq BK579.out) hb); replace HB := am (jf (Y48) hb); (try clear hb); (try clear hb2); (try clear hk); (try clear hi)))
     go_ret
     exact ⟨Y0, Y48⟩
def jIb.f (k : Nat) (l0_0 : List (S75)) (l1 : List (S36)) (a2 : Int) : Option (Bool) := (jaa.f k l0_0 l1).bind fun t583 => (if t583 = true then ((jH.f a2 0 (wrap64 ((l1.length : Int) - 1))).bind fun t584 => (some t584)) else (some false))
set_option maxHeartbeats 8000000 in
set_option maxRecDepth 100000 in
theorem jIb.calls (k : Nat) (A0_0 : Option Addr) (c0_0 : Nat) (l0_0 : List (S75)) (A1 : Option Addr) (c1 : Nat) (l1 : List (S36)) (a2 : Int) (r : Bool) (w : World) (hr0_0 : Kd.C k75 w A0_0 l0_0.length l0_0) (hc0_0 : l0_0.length ≤ c0_0) (hr1 : Kd.C k36 w A1 l1.length l1) (hc1 : l1.length ≤ c1) (h : jIb.f k l0_0 l1 a2 = some r) :
  Calls Try.prog 33 #[.agg #[.slice A0_0 l0_0.length c0_0], .slice A1 l1.length c1, .int .i64 a2] w fun e w' => e = .returned (.bool r) ∧ Below w.heap.size w w' := by
 have hu25 := Try.underlying25
 have HR0_0 := am hr0_0
 have HC0_0 := am hc0_0
 clear hr0_0 hc0_0
 have HR1 := am hr1
 have HC1 := am hc1
 clear hr1 hc1
 have HB := am (Below.refl w.heap.size w)
 have H : ((jaa.f k l0_0 l1).bind fun t583 => (if t583 = true then ((jH.f a2 0 (wrap64 ((l1.length : Int) - 1))).bind fun t584 => (some t584)) else (some false))) = some r := h
 clear h
 replace H := Option.bind_eq_some_iff.mp H
 obtain ⟨t583, A40, H⟩ := H
 replace H : (if t583 = true then ((jH.f a2 0 (wrap64 ((l1.length : Int) - 1))).bind fun t584 => (some t584)) else (some false)) = some r := H
 have A4 := am A40
 clear A40
 by_cases c5 : t583 = true
 ·subst c5
  have H1 : ((jH.f a2 0 (wrap64 ((l1.length : Int) - 1))).bind fun t584 => (some t584)) = some r := by rw [if_pos rfl] at H; exact H
  clear H
  have H := H1
  clear H1
  replace H := Option.bind_eq_some_iff.mp H
  obtain ⟨t584, A60, H⟩ := H
  replace H : (some t584) = some r := H
  have A6 := am A60
  clear A60
  obtain rfl := Option.some.inj H
  go_enter Try.func33, Try.ntmps33
  go_wp2_with (first | ((with_reducible refine jI (N := 3) rfl ?_); (try (refine jgc (by rfl) ?_; dsimp only)); refine jkc ?hg (N := 3) ?hd (cs := #[.slice A0_0 l0_0.length c0_0]) (t := 25) ?hr ?_; (case hd => rfl); (case hg => rfl); (case hr => exact Y5); intro gb582 hg w7 hbox hb; have BK582 := am (hbox); have GW582 := am ((Y4 : w.heap.size ≤ gb582)); have GE582 := am ((Y4 : w.heap.size ≤ gb582)); replace HB := am (jf (bq) hb); clear hb hbox hg; have hcz8_0 := bc0 BK582.out; have hfz8_0 := ja BK582.out 0) | ((with_reducible refine jd (f := 60) rfl ?_); refine gL (some 9) Try.func60 #[.agg #[.slice A0_0 l0_0.length c0_0], .slice A1 l1.length c1] ?_; (with_reducible refine (jaa.calls k _ _ l0_0 _ _ l1 true _ ?side1 ?side2 ?side3 ?side4 A4.out).mono ?_); (case side1 => exact cq (Kd.jU HR0_0.out HB.out)); (case side2 => exact HC0_0.out); (case side3 => exact cq (Kd.jU HR1.out HB.out)); (case side4 => exact HC1.out); rintro e w9 ⟨rfl, hb⟩; refine ⟨_, rfl, ?_⟩; replace BK582 := am (ji (g := gb582) (o := .cells #[.slice A0_0 l0_0.length c0_0] 25 (0, 0)) (kq BK582.out) hb); replace HB := am (jf (Y102) hb); (try clear hb); (try clear hb2); (try clear hk); (try clear hi)) | (go_at_call 61; (with_reducible refine (jH.calls a2 0 (wrap64 ((l1.length : Int) - 1)) t584 _ A6.out).mono ?_); rintro e w' ⟨rfl, ⟨nd, rfl⟩⟩))
  go_ret
  exact ⟨Y0, Y102⟩
 ·replace c5 := Bool.eq_false_iff.mpr c5
  subst c5
  have H1 : (some false) = some r := by rw [if_neg (show ¬ (false = true) by decide)] at H; exact H
  clear H
  have H := H1
  clear H1
  obtain rfl := Option.some.inj H
  go_enter Try.func33, Try.ntmps33
  go_wp2_with (first | ((with_reducible refine jI (N := 3) rfl ?_); (try (refine jgc (by rfl) ?_; dsimp only)); refine jkc ?hg (N := 3) ?hd (cs := #[.slice A0_0 l0_0.length c0_0]) (t := 25) ?hr ?_; (case hd => rfl); (case hg => rfl); (case hr => exact Y5); intro gb582 hg w10 hbox hb; have BK582 := am (hbox); have GW582 := am ((Y4 : w.heap.size ≤ gb582)); have GE582 := am ((Y4 : w.heap.size ≤ gb582)); replace HB := am (jf (bq) hb); clear hb hbox hg; have hcz11_0 := bc0 BK582.out; have hfz11_0 := ja BK582.out 0) | ((with_reducible refine jd (f := 60) rfl ?_); refine gL (some 9) Try.func60 #[.agg #[.slice A0_0 l0_0.length c0_0], .slice A1 l1.length c1] ?_; (with_reducible refine (jaa.calls k _ _ l0_0 _ _ l1 false _ ?side1 ?side2 ?side3 ?side4 A4.out).mono ?_); (case side1 => exact cq (Kd.jU HR0_0.out HB.out)); (case side2 => exact HC0_0.out); (case side3 => exact cq (Kd.jU HR1.out HB.out)); (case side4 => exact HC1.out); rintro e w12 ⟨rfl, hb⟩; refine ⟨_, rfl, ?_⟩; replace BK582 := am (ji (g := gb582) (o := .cells #[.slice A0_0 l0_0.length c0_0] 25 (0, 0)) (kq BK582.out) hb); replace HB := am (jf (Y102) hb); (try clear hb); (try clear hb2); (try clear hk); (try clear hi)))
  go_ret
  exact ⟨Y0, Y102⟩
def jQa.l0 : Nat → List (S36) → List Int → Int → Option (Int)
 | 0, _, _, _ => none
 | k + 1, x1, x7, x8 => if x8 < (x7.length : Int) then (if 0 ≤ x8 then (if 0 ≤ (rd x7 x8) then (if (rd x7 x8) < (x1.length : Int) then (if ((je x1 (rd x7 x8)).f1) = 12 then (some (rd x7 x8)) else (jQa.l0 k x1 x7 (wrap64 (x8 + 1)))) else (none)) else (none)) else (none)) else (some (-1))
def jQa.f (k : Nat) (l0_0 : List (S75)) (l1 : List (S36)) (a2 : Int) : Option (Int) := (jIb.f k l0_0 l1 a2).bind fun t703 => (if t703 = true then ((joa.f k l1 a2).bind fun t704 => (jQa.l0 k l1 t704 0)) else (some (-1)))
set_option maxHeartbeats 8000000 in
set_option maxRecDepth 100000 in
theorem jQa.calls (k : Nat) (A0_0 : Option Addr) (c0_0 : Nat) (l0_0 : List (S75)) (A1 : Option Addr) (c1 : Nat) (l1 : List (S36)) (a2 : Int) (r : Int) (w : World) (hr0_0 : Kd.C k75 w A0_0 l0_0.length l0_0) (hc0_0 : l0_0.length ≤ c0_0) (hr1 : Kd.C k36 w A1 l1.length l1) (hc1 : l1.length ≤ c1) (h : jQa.f k l0_0 l1 a2 = some r) :
  Calls Try.prog 45 #[.agg #[.slice A0_0 l0_0.length c0_0], .slice A1 l1.length c1, .int .i64 a2] w fun e w' => e = .returned (.int .i64 r) ∧ Below w.heap.size w w' := by
 have hu25 := Try.underlying25
 have HR0_0 := am hr0_0
 have HC0_0 := am hc0_0
 clear hr0_0 hc0_0
 have HR1 := am hr1
 have HC1 := am hc1
 clear hr1 hc1
 have HB := am (Below.refl w.heap.size w)
 have H : ((jIb.f k l0_0 l1 a2).bind fun t703 => (if t703 = true then ((joa.f k l1 a2).bind fun t704 => (jQa.l0 k l1 t704 0)) else (some (-1)))) = some r := h
 clear h
 replace H := Option.bind_eq_some_iff.mp H
 obtain ⟨t703, A40, H⟩ := H
 replace H : (if t703 = true then ((joa.f k l1 a2).bind fun t704 => (jQa.l0 k l1 t704 0)) else (some (-1))) = some r := H
 have A4 := am A40
 clear A40
 by_cases c5 : t703 = true
 ·subst c5
  have H1 : ((joa.f k l1 a2).bind fun t704 => (jQa.l0 k l1 t704 0)) = some r := by rw [if_pos rfl] at H; exact H
  clear H
  have H := H1
  clear H1
  replace H := Option.bind_eq_some_iff.mp H
  obtain ⟨t704, A60, H⟩ := H
  replace H : (jQa.l0 k l1 t704 0) = some r := H
  have A6 := am A60
  clear A60
  have H' := am H
  clear H
  go_enter Try.func45, Try.ntmps45
  go_wp2_with (first | ((with_reducible refine jI (N := 3) rfl ?_); refine bE (N := 3) (cs := #[.slice A0_0 l0_0.length c0_0]) (t := 25) ?_; intro gb702 hg w7 hbox hb; have BK702 := am (hbox); have GW702 := am ((Y4 : w.heap.size ≤ gb702)); have GE702 := am ((Y4 : w.heap.size ≤ gb702)); replace HB := am (jf (bq) hb); clear hb hbox hg; have hcz8_0 := bc0 BK702.out; have hfz8_0 := ja BK702.out 0) | ((with_reducible refine jd (f := 33) rfl ?_); refine gL (some 12) Try.func33 #[.agg #[.slice A0_0 l0_0.length c0_0], .slice A1 l1.length c1, .int .i64 a2] ?_; (with_reducible refine (jIb.calls k _ _ l0_0 _ _ l1 a2 true _ ?side1 ?side2 ?side3 ?side4 A4.out).mono ?_); (case side1 => exact cq (Kd.jU HR0_0.out HB.out)); (case side2 => exact HC0_0.out); (case side3 => exact cq (Kd.jU HR1.out HB.out)); (case side4 => exact HC1.out); rintro e w9 ⟨rfl, hb⟩; refine ⟨_, rfl, ?_⟩; replace BK702 := am (ji (g := gb702) (o := .cells #[.slice A0_0 l0_0.length c0_0] 25 (0, 0)) (kq BK702.out) hb); replace HB := am (jf (Y49) hb); (try clear hb); (try clear hb2); (try clear hk); (try clear hi)) | ((with_reducible refine jd (f := 35) rfl ?_); refine gL (some 16) Try.func35 #[.slice A1 l1.length c1, .int .i64 a2] ?_; (with_reducible refine (joa.calls k _ _ l1 a2 t704 _ ?side1 ?side2 A6.out).mono ?_); (case side1 => exact cq (Kd.jU HR1.out HB.out)); (case side2 => exact HC1.out); rintro e w10 ⟨v705, rfl, ho0, hb⟩; refine ⟨_, rfl, ?_⟩; have HO706 := am (Kd.jR ho0 (jK (Y49))); replace BK702 := am (ji (g := gb702) (o := .cells #[.slice A0_0 l0_0.length c0_0] 25 (0, 0)) (kq BK702.out) hb); replace HB := am (jf (Y49) hb); (try clear hb); (try clear hb2); (try clear hk); (try clear hi); (try clear ho0)))
  go_loopg [8] k (fun kq v8 w' => ∃ (x8_1 : Int), v8 = .int .i64 x8_1 ∧ jo (jQa.l0 kq l1 t704 x8_1 = some r) ∧ jo (kq ≤ k) ∧ jo (Kd.R (Kd.int .i64) 3 w' w.heap.size (fun _ => True) v705 t704) ∧ jo (w'.heap[gb702]? = some (.cells #[(.slice A0_0 l0_0.length c0_0)] 25 (0, 0))) ∧ jo (Below w.heap.size w w'))
  case atStart => exact ⟨(0), (sq), H', ⟨Nat.le_refl _⟩, ⟨rq HO706.out⟩, ⟨kq BK702.out⟩, ⟨Y49⟩⟩
  case round =>
   clear H'
   try clear c1
   try clear p2
   try clear c3
   try clear c4
   try clear c5
   try clear hcz8_0
   try clear hfz8_0
   obtain ⟨x8_1, rfl, HA, HK1, HO_7, BK702, HB⟩ := hrel
   cases gk with
   | zero => exact absurd HA.out (by simp [jQa.l0])
   | succ k1 =>
    have H := HA.out
    clear HA
    simp only [jQa.l0] at H
    by_cases c11 : x8_1 < (t704.length : Int)
    ·rw [if_pos c11] at H
     have c11b0 : decide (x8_1 < (t704.length : Int)) = true := decide_eq_true c11
     clear c11
     by_cases c12 : 0 ≤ x8_1
     ·rw [if_pos c12] at H
      have c12b0 : decide (0 ≤ x8_1) = true := decide_eq_true c12
      clear c12
      by_cases c13 : 0 ≤ (rd t704 x8_1)
      ·rw [if_pos c13] at H
       have c13b0 : decide (0 ≤ (rd t704 x8_1)) = true := decide_eq_true c13
       clear c13
       by_cases c14 : (rd t704 x8_1) < (l1.length : Int)
       ·rw [if_pos c14] at H
        have c14b0 : decide ((rd t704 x8_1) < (l1.length : Int)) = true := decide_eq_true c14
        clear c14
        by_cases c15 : ((je l1 (rd t704 x8_1)).f1) = 12
        ·rw [if_pos c15] at H
         have c15b0 : (((je l1 (rd t704 x8_1)).f1) == 12) = true := beq_iff_eq.mpr c15
         have c15b1 : (((je l1 (rd t704 x8_1)).f1) != 12) = false := bne_eq_false_iff_eq.mpr c15
         clear c15
         obtain rfl := Option.some.inj H
         obtain ⟨Ao16, co16, eo16⟩ := Kd.jY HO_7.out
         subst eo16
         have p707 : 0 ≤ (x8_1 : Int) := of_decide_eq_true (uq)
         have q707 : x8_1 < (t704.length : Int) := of_decide_eq_true (uq)
         obtain ⟨ad707, e707, hx707_0⟩ := Kd.jtb (Kd.jm HO_7.out).2.2 x8_1 p707 q707
         cases e707
         replace p707 := eq_true p707
         replace q707 := eq_true q707
         have p708 : 0 ≤ ((rd t704 x8_1) : Int) := of_decide_eq_true (uq)
         have q708 : (rd t704 x8_1) < (l1.length : Int) := of_decide_eq_true (uq)
         obtain ⟨ad708, e708, hx708_0, hx708_1, hx708_2, hx708_3⟩ := jsa HR1.out (rd t704 x8_1) p708 q708
         cases e708
         replace hx708_0 := cb HB.out hx708_0
         replace hx708_1 := cb HB.out hx708_1
         replace hx708_2 := cb HB.out hx708_2
         replace hx708_3 := cb HB.out hx708_3
         replace p708 := eq_true p708
         replace q708 := eq_true q708
         have p709 : 0 ≤ (x8_1 : Int) := of_decide_eq_true (uq)
         have q709 : x8_1 < (t704.length : Int) := of_decide_eq_true (uq)
         obtain ⟨ad709, e709, hx709_0⟩ := Kd.jtb (Kd.jm HO_7.out).2.2 x8_1 p709 q709
         obtain rfl : ad707 = ad709 := (by injection e709)
         replace p709 := eq_true p709
         replace q709 := eq_true q709
         go_wp2
         go_ret
         exact ⟨Y0, Y49⟩
        ·rw [if_neg c15] at H
         have c15b0 : (((je l1 (rd t704 x8_1)).f1) == 12) = false := beq_eq_false_iff_ne.mpr c15
         have c15b1 : (((je l1 (rd t704 x8_1)).f1) != 12) = true := bne_iff_ne.mpr c15
         have H' := am H
         clear H
         obtain ⟨Ao17, co17, eo17⟩ := Kd.jY HO_7.out
         subst eo17
         have p707 : 0 ≤ (x8_1 : Int) := of_decide_eq_true (uq)
         have q707 : x8_1 < (t704.length : Int) := of_decide_eq_true (uq)
         obtain ⟨ad707, e707, hx707_0⟩ := Kd.jtb (Kd.jm HO_7.out).2.2 x8_1 p707 q707
         cases e707
         replace p707 := eq_true p707
         replace q707 := eq_true q707
         have p708 : 0 ≤ ((rd t704 x8_1) : Int) := of_decide_eq_true (uq)
         have q708 : (rd t704 x8_1) < (l1.length : Int) := of_decide_eq_true (uq)
         obtain ⟨ad708, e708, hx708_0, hx708_1, hx708_2, hx708_3⟩ := jsa HR1.out (rd t704 x8_1) p708 q708
         cases e708
         replace hx708_0 := cb HB.out hx708_0
         replace hx708_1 := cb HB.out hx708_1
         replace hx708_2 := cb HB.out hx708_2
         replace hx708_3 := cb HB.out hx708_3
         replace p708 := eq_true p708
         replace q708 := eq_true q708
         go_wp2
         go_roundg k1
         case measure => have := HK1.out; omega
         case rel => exact ⟨(wrap64 (x8_1 + 1)), (sq), H', ⟨by have := HK1.out; omega⟩, ⟨rq HO_7.out⟩, ⟨kq BK702.out⟩, ⟨Y49⟩⟩
       ·rw [if_neg c14] at H
        exact absurd H (by simp)
      ·rw [if_neg c13] at H
       exact absurd H (by simp)
     ·rw [if_neg c12] at H
      exact absurd H (by simp)
    ·rw [if_neg c11] at H
     have c11b0 : decide (x8_1 < (t704.length : Int)) = false := decide_eq_false c11
     clear c11
     obtain rfl := Option.some.inj H
     obtain ⟨Ao18, co18, eo18⟩ := Kd.jY HO_7.out
     subst eo18
     go_wp2
     go_ret
     exact ⟨Y0, Y49⟩
 ·replace c5 := Bool.eq_false_iff.mpr c5
  subst c5
  have H1 : (some (-1)) = some r := by rw [if_neg (show ¬ (false = true) by decide)] at H; exact H
  clear H
  have H := H1
  clear H1
  obtain rfl := Option.some.inj H
  go_enter Try.func45, Try.ntmps45
  go_wp2_with (first | ((with_reducible refine jI (N := 3) rfl ?_); refine bE (N := 3) (cs := #[.slice A0_0 l0_0.length c0_0]) (t := 25) ?_; intro gb702 hg w19 hbox hb; have BK702 := am (hbox); have GW702 := am ((Y4 : w.heap.size ≤ gb702)); have GE702 := am ((Y4 : w.heap.size ≤ gb702)); replace HB := am (jf (bq) hb); clear hb hbox hg; have hcz20_0 := bc0 BK702.out; have hfz20_0 := ja BK702.out 0) | ((with_reducible refine jd (f := 33) rfl ?_); refine gL (some 12) Try.func33 #[.agg #[.slice A0_0 l0_0.length c0_0], .slice A1 l1.length c1, .int .i64 a2] ?_; (with_reducible refine (jIb.calls k _ _ l0_0 _ _ l1 a2 false _ ?side1 ?side2 ?side3 ?side4 A4.out).mono ?_); (case side1 => exact cq (Kd.jU HR0_0.out HB.out)); (case side2 => exact HC0_0.out); (case side3 => exact cq (Kd.jU HR1.out HB.out)); (case side4 => exact HC1.out); rintro e w21 ⟨rfl, hb⟩; refine ⟨_, rfl, ?_⟩; replace BK702 := am (ji (g := gb702) (o := .cells #[.slice A0_0 l0_0.length c0_0] 25 (0, 0)) (kq BK702.out) hb); replace HB := am (jf (Y49) hb); (try clear hb); (try clear hb2); (try clear hk); (try clear hi)))
  go_ret
  exact ⟨Y0, Y49⟩
def jTa.l0 : Nat → List Int → Int → Int → Option (Int)
 | 0, _, _, _ => none
 | k + 1, x0, x1, x5 => if x5 < (x0.length : Int) then (if 0 ≤ x5 then (if (rd x0 x5) = x1 then (some x5) else (jTa.l0 k x0 x1 (wrap64 (x5 + 1)))) else (none)) else (some (-1))
def jTa.f (k : Nat) (l0 : List Int) (a1 : Int) : Option (Int) := jTa.l0 k l0 a1 0
set_option maxHeartbeats 8000000 in
set_option maxRecDepth 100000 in
theorem jTa.calls (k : Nat) (A0 : Option Addr) (c0 : Nat) (l0 : List Int) (a1 : Int) (r : Int) (w : World) (hr0 : Kd.C (Kd.int .i64) w A0 l0.length l0) (hc0 : l0.length ≤ c0) (h : jTa.f k l0 a1 = some r) :
  Calls Try.prog 46 #[.slice A0 l0.length c0, .int .i64 a1] w fun e w' => e = .returned (.int .i64 r) ∧ jnb w w' := by
 have HR0 := am hr0
 have HC0 := am hc0
 clear hr0 hc0
 have H : (jTa.l0 k l0 a1 0) = some r := h
 clear h
 have H' := am H
 clear H
 go_enter Try.func46, Try.ntmps46
 go_wp2
 go_loopg [5] k (fun kq v5 w' => ∃ (x5_1 : Int), v5 = .int .i64 x5_1 ∧ jo (jTa.l0 kq l0 a1 x5_1 = some r) ∧ jo (kq ≤ k) ∧ jnb w w')
 case atStart => exact ⟨(0), (sq), H', ⟨Nat.le_refl _⟩, Y7⟩
 case round =>
  clear H'
  try clear p2
  obtain ⟨x5_1, rfl, HA, HK1, ⟨m1, rfl⟩⟩ := hrel
  cases gk with
  | zero => exact absurd HA.out (by simp [jTa.l0])
  | succ k1 =>
   have H := HA.out
   clear HA
   simp only [jTa.l0] at H
   by_cases c3 : x5_1 < (l0.length : Int)
   ·rw [if_pos c3] at H
    have c3b0 : decide (x5_1 < (l0.length : Int)) = true := decide_eq_true c3
    clear c3
    by_cases c4 : 0 ≤ x5_1
    ·rw [if_pos c4] at H
     have c4b0 : decide (0 ≤ x5_1) = true := decide_eq_true c4
     clear c4
     by_cases c5 : (rd l0 x5_1) = a1
     ·rw [if_pos c5] at H
      have c5b0 : ((rd l0 x5_1) == a1) = true := beq_iff_eq.mpr c5
      have c5b1 : ((rd l0 x5_1) != a1) = false := bne_eq_false_iff_eq.mpr c5
      clear c5
      obtain rfl := Option.some.inj H
      have p710 : 0 ≤ (x5_1 : Int) := of_decide_eq_true (uq)
      have q710 : x5_1 < (l0.length : Int) := of_decide_eq_true (uq)
      obtain ⟨ad710, e710, hx710_0⟩ := Kd.jtb HR0.out x5_1 p710 q710
      cases e710
      replace p710 := eq_true p710
      replace q710 := eq_true q710
      go_wp2
      go_ret
      exact ⟨sq, Y7⟩
     ·rw [if_neg c5] at H
      have c5b0 : ((rd l0 x5_1) == a1) = false := beq_eq_false_iff_ne.mpr c5
      have c5b1 : ((rd l0 x5_1) != a1) = true := bne_iff_ne.mpr c5
      have H' := am H
      clear H
      have p710 : 0 ≤ (x5_1 : Int) := of_decide_eq_true (uq)
      have q710 : x5_1 < (l0.length : Int) := of_decide_eq_true (uq)
      obtain ⟨ad710, e710, hx710_0⟩ := Kd.jtb HR0.out x5_1 p710 q710
      cases e710
      replace p710 := eq_true p710
      replace q710 := eq_true q710
      go_wp2
      go_roundg k1
      case measure => have := HK1.out; omega
      case rel => exact ⟨(wrap64 (x5_1 + 1)), (sq), H', ⟨by have := HK1.out; omega⟩, Y7⟩
    ·rw [if_neg c4] at H
     exact absurd H (by simp)
   ·rw [if_neg c3] at H
    have c3b0 : decide (x5_1 < (l0.length : Int)) = false := decide_eq_false c3
    clear c3
    obtain rfl := Option.some.inj H
    go_wp2
    go_ret
    exact ⟨sq, Y7⟩
def jGa.f (k : Nat) (l0_0 : List (S75)) (l1 : List (S36)) (a2 : Int) : Option (List Int) := (jQa.f k l0_0 l1 a2).bind fun t712 => (if t712 < 0 then (some ([] : List Int)) else ((joa.f k l1 a2).bind fun t713 => ((jTa.f k t713 t712).bind fun t716 => (if 0 ≤ t716 then (if t716 ≤ (t713.length : Int) then ((jHa.f k l1 (t713.take (t716 : Int).toNat)).bind fun t721 => (some t721)) else (none)) else (none)))))
set_option maxHeartbeats 8000000 in
set_option maxRecDepth 100000 in
theorem jGa.calls (k : Nat) (A0_0 : Option Addr) (c0_0 : Nat) (l0_0 : List (S75)) (A1 : Option Addr) (c1 : Nat) (l1 : List (S36)) (a2 : Int) (r : List Int) (w : World) (hr0_0 : Kd.C k75 w A0_0 l0_0.length l0_0) (hc0_0 : l0_0.length ≤ c0_0) (hr1 : Kd.C k36 w A1 l1.length l1) (hc1 : l1.length ≤ c1) (h : jGa.f k l0_0 l1 a2 = some r) :
  Calls Try.prog 16 #[.agg #[.slice A0_0 l0_0.length c0_0], .slice A1 l1.length c1, .int .i64 a2] w fun e w' => ∃ v0_ : Value, e = .returned (v0_) ∧ Kd.R (Kd.int .i64) 3 w' w.heap.size (fun _ => True) v0_ r ∧ Below w.heap.size w w' := by
 have hu25 := Try.underlying25
 have HR0_0 := am hr0_0
 have HC0_0 := am hc0_0
 clear hr0_0 hc0_0
 have HR1 := am hr1
 have HC1 := am hc1
 clear hr1 hc1
 have HB := am (Below.refl w.heap.size w)
 have H : ((jQa.f k l0_0 l1 a2).bind fun t712 => (if t712 < 0 then (some ([] : List Int)) else ((joa.f k l1 a2).bind fun t713 => ((jTa.f k t713 t712).bind fun t716 => (if 0 ≤ t716 then (if t716 ≤ (t713.length : Int) then ((jHa.f k l1 (t713.take (t716 : Int).toNat)).bind fun t721 => (some t721)) else (none)) else (none)))))) = some r := h
 clear h
 replace H := Option.bind_eq_some_iff.mp H
 obtain ⟨t712, A40, H⟩ := H
 replace H : (if t712 < 0 then (some ([] : List Int)) else ((joa.f k l1 a2).bind fun t713 => ((jTa.f k t713 t712).bind fun t716 => (if 0 ≤ t716 then (if t716 ≤ (t713.length : Int) then ((jHa.f k l1 (t713.take (t716 : Int).toNat)).bind fun t721 => (some t721)) else (none)) else (none))))) = some r := H
 have A4 := am A40
 clear A40
 by_cases c5 : t712 < 0
 ·rw [if_pos c5] at H
  have c5b0 : decide (t712 < 0) = true := decide_eq_true c5
  clear c5
  obtain rfl := Option.some.inj H
  go_enter Try.func16, Try.ntmps16
  go_wp2_with (first | ((with_reducible refine jI (N := 3) rfl ?_); refine bE (N := 3) (cs := #[.slice A0_0 l0_0.length c0_0]) (t := 25) ?_; intro gb711 hg w6 hbox hb; have BK711 := am (hbox); have GW711 := am ((Y4 : w.heap.size ≤ gb711)); have GE711 := am ((Y4 : w.heap.size ≤ gb711)); replace HB := am (jf (bq) hb); clear hb hbox hg; have hcz7_0 := bc0 BK711.out; have hfz7_0 := ja BK711.out 0) | ((with_reducible refine jd (f := 45) rfl ?_); refine gL (some 12) Try.func45 #[.agg #[.slice A0_0 l0_0.length c0_0], .slice A1 l1.length c1, .int .i64 a2] ?_; (with_reducible refine (jQa.calls k _ _ l0_0 _ _ l1 a2 t712 _ ?side1 ?side2 ?side3 ?side4 A4.out).mono ?_); (case side1 => exact cq (Kd.jU HR0_0.out HB.out)); (case side2 => exact HC0_0.out); (case side3 => exact cq (Kd.jU HR1.out HB.out)); (case side4 => exact HC1.out); rintro e w8 ⟨rfl, hb⟩; refine ⟨_, rfl, ?_⟩; replace BK711 := am (ji (g := gb711) (o := .cells #[.slice A0_0 l0_0.length c0_0] 25 (0, 0)) (kq BK711.out) hb); replace HB := am (jf (Y62) hb); (try clear hb); (try clear hb2); (try clear hk); (try clear hi)))
  go_ret
  exact ⟨_, Y0, Y80, Y62⟩
 ·rw [if_neg c5] at H
  have c5b0 : decide (t712 < 0) = false := decide_eq_false c5
  clear c5
  replace H := Option.bind_eq_some_iff.mp H
  obtain ⟨t713, A90, H⟩ := H
  replace H : ((jTa.f k t713 t712).bind fun t716 => (if 0 ≤ t716 then (if t716 ≤ (t713.length : Int) then ((jHa.f k l1 (t713.take (t716 : Int).toNat)).bind fun t721 => (some t721)) else (none)) else (none))) = some r := H
  have A9 := am A90
  clear A90
  replace H := Option.bind_eq_some_iff.mp H
  obtain ⟨t716, A100, H⟩ := H
  replace H : (if 0 ≤ t716 then (if t716 ≤ (t713.length : Int) then ((jHa.f k l1 (t713.take (t716 : Int).toNat)).bind fun t721 => (some t721)) else (none)) else (none)) = some r := H
  have A10 := am A100
  clear A100
  by_cases c11 : 0 ≤ t716
  ·rw [if_pos c11] at H
   have c11b0 := eq_true c11
   have c11b1 : decide (0 ≤ t716) = true := decide_eq_true c11
   clear c11
   by_cases c12 : t716 ≤ (t713.length : Int)
   ·rw [if_pos c12] at H
    have c12b0 := eq_true c12
    have c12b1 : decide (t716 ≤ (t713.length : Int)) = true := decide_eq_true c12
    clear c12
    obtain ⟨y717, hy717⟩ : ∃ y_ : List Int, y_ = (t713.take (t716 : Int).toNat) := ⟨_, rfl⟩
    replace H : ((jHa.f k l1 y717).bind fun t721 => (some t721)) = some r := by first | (rw [hy717]; with_reducible exact H) | (have H2_ := (Option.bind_some _ _).symm.trans H; rw [hy717]; with_reducible exact H2_) | (have H2_ := (Option.bind_some _ _).symm.trans H; with_reducible exact H2_) | with_reducible exact H | (rw [hy717]; exact H) | exact H
    have Ny717 := am hy717
    clear hy717
    replace H := Option.bind_eq_some_iff.mp H
    obtain ⟨t721, A130, H⟩ := H
    replace H : (some t721) = some r := H
    have A13 := am A130
    clear A130
    obtain rfl := Option.some.inj H
    go_enter Try.func16, Try.ntmps16
    go_wp2_with (first | ((with_reducible refine jI (N := 3) rfl ?_); refine bE (N := 3) (cs := #[.slice A0_0 l0_0.length c0_0]) (t := 25) ?_; intro gb711 hg w14 hbox hb; have BK711 := am (hbox); have GW711 := am ((Y4 : w.heap.size ≤ gb711)); have GE711 := am ((Y4 : w.heap.size ≤ gb711)); replace HB := am (jf (bq) hb); clear hb hbox hg; have hcz15_0 := bc0 BK711.out; have hfz15_0 := ja BK711.out 0) | ((with_reducible refine jd (f := 45) rfl ?_); refine gL (some 12) Try.func45 #[.agg #[.slice A0_0 l0_0.length c0_0], .slice A1 l1.length c1, .int .i64 a2] ?_; (with_reducible refine (jQa.calls k _ _ l0_0 _ _ l1 a2 t712 _ ?side1 ?side2 ?side3 ?side4 A4.out).mono ?_); (case side1 => exact cq (Kd.jU HR0_0.out HB.out)); (case side2 => exact HC0_0.out); (case side3 => exact cq (Kd.jU HR1.out HB.out)); (case side4 => exact HC1.out); rintro e w16 ⟨rfl, hb⟩; refine ⟨_, rfl, ?_⟩; replace BK711 := am (ji (g := gb711) (o := .cells #[.slice A0_0 l0_0.length c0_0] 25 (0, 0)) (kq BK711.out) hb); replace HB := am (jf (Y62) hb); (try clear hb); (try clear hb2); (try clear hk); (try clear hi)) | ((with_reducible refine jd (f := 35) rfl ?_); refine gL (some 17) Try.func35 #[.slice A1 l1.length c1, .int .i64 a2] ?_; (with_reducible refine (joa.calls k _ _ l1 a2 t713 _ ?side1 ?side2 A9.out).mono ?_); (case side1 => exact cq (Kd.jU HR1.out HB.out)); (case side2 => exact HC1.out); rintro e w17 ⟨v714, rfl, ho0, hb⟩; refine ⟨_, rfl, ?_⟩; have HO715 := am (Kd.jR ho0 (jK (Y62))); replace BK711 := am (ji (g := gb711) (o := .cells #[.slice A0_0 l0_0.length c0_0] 25 (0, 0)) (kq BK711.out) hb); replace HB := am (jf (Y62) hb); (try clear hb); (try clear hb2); (try clear hk); (try clear hi); (try clear ho0); obtain ⟨Ao18, co18, eo18⟩ := Kd.jY HO715.out; subst eo18) | ((with_reducible refine jd (f := 46) rfl ?_); refine gL (some 22) Try.func46 #[.slice Ao18 t713.length co18, .int .i64 t712] ?_; (with_reducible refine (jTa.calls k _ _ t713 t712 t716 _ ?side1 ?side2 A10.out).mono ?_); (case side1 => exact cq (Kd.jm HO715.out).2.2); (case side2 => exact (Kd.jm HO715.out).2.1); rintro e w' ⟨rfl, ⟨nd, rfl⟩⟩; refine ⟨_, rfl, ?_⟩; have q19 : (t716 : Int) ≤ ((t713.length : Int) : Int) := of_decide_eq_true (uq); obtain ⟨i019, hi019, _, hsz19, _⟩ := info_parts info3; have hroom19 : t713.length ≤ co18 := (Kd.jm HO715.out).2.1; have hC19 : Kd.C (Kd.int .i64) _ Ao18 t713.length t713 := (Kd.jm HO715.out).2.2; have hcut19 := cut_to (P := Try.prog) 29 3 .i64 Try.underlying29 hi019 Ao18 t713.length co18 t716 (of_decide_eq_true (uq)) q19 hroom19; have hr19 := Kd.C_take (m := (t716 : Int).toNat) hC19 (by omega); have hy19 : y717.length = (t716 : Int).toNat := (by rw [Ny717.out, List.length_take]; omega); rw [← Ny717.out] at hr19; rw [← hy19] at hcut19; have HR720 := am hr19; have HC720 := am (show y717.length ≤ co18 from by omega); clear hr19 hC19 hroom19 hi019 hsz19; have KY19 := am hy19; clear hy19; have KL19 := am (show (t716 : Int).toNat ≤ t713.length from by omega); replace q19 := eq_true q19) | ((with_reducible refine jd (f := 34) rfl ?_); refine gL (some 24) Try.func34 #[.slice A1 l1.length c1, .slice Ao18 y717.length co18] ?_; (with_reducible refine (jHa.calls k _ _ l1 _ _ y717 t721 _ ?side1 ?side2 ?side3 ?side4 A13.out).mono ?_); (case side1 => repeat (first | exact (Kd.jU HR1.out (by repeat (first | (with_reducible first | exact HB.out | apply jP | apply jq | apply jQ | refine jM ?_ GE711.out) | exact HB.out))) | (with_reducible refine Kd.jdc ?_ _) | (with_reducible refine Kd.jUb ?_ _) | (with_reducible refine Kd.jrc ?_))); (case side2 => exact HC1.out); (case side3 => repeat (first | exact (by repeat (first | (with_reducible exact HR720.out) | (with_reducible refine Kd.jdc ?_ _) | (with_reducible refine Kd.jUb ?_ _) | (with_reducible refine Kd.jrc ?_) | exact HR720.out)) | (with_reducible refine Kd.jdc ?_ _) | (with_reducible refine Kd.jUb ?_ _) | (with_reducible refine Kd.jrc ?_))); (case side4 => exact HC720.out); rintro e w20 ⟨v722, rfl, ho0, hb⟩; refine ⟨_, rfl, ?_⟩; have HO723 := am (Kd.jR (Kd.jLb ho0 (Kd.R_lt (rq HO715.out))) (jK (Y62))); replace HO715 := am (Kd.jyb (rq HO715.out) (Kd.jMb ho0) hb); replace BK711 := am (ji (g := gb711) (o := .cells #[.slice A0_0 l0_0.length c0_0] 25 (0, 0)) (kq BK711.out) hb); replace HR720 := am (Kd.jU (by repeat (first | (with_reducible exact HR720.out) | (with_reducible refine Kd.jdc ?_ _) | (with_reducible refine Kd.jUb ?_ _) | (with_reducible refine Kd.jrc ?_) | exact HR720.out)) hb); replace HB := am (jf (Y62) hb); (try clear hb); (try clear hb2); (try clear hk); (try clear hi); (try clear ho0)))
    go_ret
    exact ⟨_, Y0, by (with_reducible repeat (first | apply Kd.jW | apply Kd.jV | apply Kd.jha)); exact Kd.jA HO723.out (fun _ hk => trivial), Y62⟩
   ·rw [if_neg c12] at H
    exact absurd H (by simp)
  ·rw [if_neg c11] at H
   exact absurd H (by simp)
def jNb.f (k : Nat) (l0_0 : List (S75)) (l1 : List (S36)) (a2 : Int) : Option (Int) := (jkb.f k l0_0 l1 a2).bind fun t725 => (if t725 = true then ((jDa.f k l1 a2).bind fun t726 => (some t726)) else (some (-1)))
set_option maxHeartbeats 8000000 in
set_option maxRecDepth 100000 in
theorem jNb.calls (k : Nat) (A0_0 : Option Addr) (c0_0 : Nat) (l0_0 : List (S75)) (A1 : Option Addr) (c1 : Nat) (l1 : List (S36)) (a2 : Int) (r : Int) (w : World) (hr0_0 : Kd.C k75 w A0_0 l0_0.length l0_0) (hc0_0 : l0_0.length ≤ c0_0) (hr1 : Kd.C k36 w A1 l1.length l1) (hc1 : l1.length ≤ c1) (h : jNb.f k l0_0 l1 a2 = some r) :
  Calls Try.prog 17 #[.agg #[.slice A0_0 l0_0.length c0_0], .slice A1 l1.length c1, .int .i64 a2] w fun e w' => e = .returned (.int .i64 r) ∧ Below w.heap.size w w' := by
 have hu25 := Try.underlying25
 have HR0_0 := am hr0_0
 have HC0_0 := am hc0_0
 clear hr0_0 hc0_0
 have HR1 := am hr1
 have HC1 := am hc1
 clear hr1 hc1
 have HB := am (Below.refl w.heap.size w)
 have H : ((jkb.f k l0_0 l1 a2).bind fun t725 => (if t725 = true then ((jDa.f k l1 a2).bind fun t726 => (some t726)) else (some (-1)))) = some r := h
 clear h
 replace H := Option.bind_eq_some_iff.mp H
 obtain ⟨t725, A40, H⟩ := H
 replace H : (if t725 = true then ((jDa.f k l1 a2).bind fun t726 => (some t726)) else (some (-1))) = some r := H
 have A4 := am A40
 clear A40
 by_cases c5 : t725 = true
 ·subst c5
  have H1 : ((jDa.f k l1 a2).bind fun t726 => (some t726)) = some r := by rw [if_pos rfl] at H; exact H
  clear H
  have H := H1
  clear H1
  replace H := Option.bind_eq_some_iff.mp H
  obtain ⟨t726, A60, H⟩ := H
  replace H : (some t726) = some r := H
  have A6 := am A60
  clear A60
  obtain rfl := Option.some.inj H
  go_enter Try.func17, Try.ntmps17
  go_wp2_with (first | ((with_reducible refine jI (N := 3) rfl ?_); refine bE (N := 3) (cs := #[.slice A0_0 l0_0.length c0_0]) (t := 25) ?_; intro gb724 hg w7 hbox hb; have BK724 := am (hbox); have GW724 := am ((Y4 : w.heap.size ≤ gb724)); have GE724 := am ((Y4 : w.heap.size ≤ gb724)); replace HB := am (jf (bq) hb); clear hb hbox hg; have hcz8_0 := bc0 BK724.out; have hfz8_0 := ja BK724.out 0) | ((with_reducible refine jd (f := 31) rfl ?_); refine gL (some 10) Try.func31 #[.agg #[.slice A0_0 l0_0.length c0_0], .slice A1 l1.length c1, .int .i64 a2] ?_; (with_reducible refine (jkb.calls k _ _ l0_0 _ _ l1 a2 true _ ?side1 ?side2 ?side3 ?side4 A4.out).mono ?_); (case side1 => exact cq (Kd.jU HR0_0.out HB.out)); (case side2 => exact HC0_0.out); (case side3 => exact cq (Kd.jU HR1.out HB.out)); (case side4 => exact HC1.out); rintro e w9 ⟨rfl, hb⟩; refine ⟨_, rfl, ?_⟩; replace BK724 := am (ji (g := gb724) (o := .cells #[.slice A0_0 l0_0.length c0_0] 25 (0, 0)) (kq BK724.out) hb); replace HB := am (jf (Y82) hb); (try clear hb); (try clear hb2); (try clear hk); (try clear hi)) | ((with_reducible refine jd (f := 44) rfl ?_); refine gL (some 14) Try.func44 #[.slice A1 l1.length c1, .int .i64 a2] ?_; (with_reducible refine (jDa.calls k _ _ l1 a2 t726 _ ?side1 ?side2 A6.out).mono ?_); (case side1 => exact cq (Kd.jU HR1.out HB.out)); (case side2 => exact HC1.out); rintro e w10 ⟨rfl, hb⟩; refine ⟨_, rfl, ?_⟩; replace BK724 := am (ji (g := gb724) (o := .cells #[.slice A0_0 l0_0.length c0_0] 25 (0, 0)) (kq BK724.out) hb); replace HB := am (jf (Y82) hb); (try clear hb); (try clear hb2); (try clear hk); (try clear hi)))
  go_ret
  exact ⟨Y0, Y82⟩
 ·replace c5 := Bool.eq_false_iff.mpr c5
  subst c5
  have H1 : (some (-1)) = some r := by rw [if_neg (show ¬ (false = true) by decide)] at H; exact H
  clear H
  have H := H1
  clear H1
  obtain rfl := Option.some.inj H
  go_enter Try.func17, Try.ntmps17
  go_wp2_with (first | ((with_reducible refine jI (N := 3) rfl ?_); refine bE (N := 3) (cs := #[.slice A0_0 l0_0.length c0_0]) (t := 25) ?_; intro gb724 hg w11 hbox hb; have BK724 := am (hbox); have GW724 := am ((Y4 : w.heap.size ≤ gb724)); have GE724 := am ((Y4 : w.heap.size ≤ gb724)); replace HB := am (jf (bq) hb); clear hb hbox hg; have hcz12_0 := bc0 BK724.out; have hfz12_0 := ja BK724.out 0) | ((with_reducible refine jd (f := 31) rfl ?_); refine gL (some 10) Try.func31 #[.agg #[.slice A0_0 l0_0.length c0_0], .slice A1 l1.length c1, .int .i64 a2] ?_; (with_reducible refine (jkb.calls k _ _ l0_0 _ _ l1 a2 false _ ?side1 ?side2 ?side3 ?side4 A4.out).mono ?_); (case side1 => exact cq (Kd.jU HR0_0.out HB.out)); (case side2 => exact HC0_0.out); (case side3 => exact cq (Kd.jU HR1.out HB.out)); (case side4 => exact HC1.out); rintro e w13 ⟨rfl, hb⟩; refine ⟨_, rfl, ?_⟩; replace BK724 := am (ji (g := gb724) (o := .cells #[.slice A0_0 l0_0.length c0_0] 25 (0, 0)) (kq BK724.out) hb); replace HB := am (jf (Y82) hb); (try clear hb); (try clear hb2); (try clear hk); (try clear hi)))
  go_ret
  exact ⟨Y0, Y82⟩
end Go.Proofs.Ytkedkinojeoeaaa.P
end
