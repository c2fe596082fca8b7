/- One part of the proofs on this program: functions of the program as plain functions, that the code comes to them, and facts on them. -/
import Derived.Test.YtkokajljeebgdaaYAll1
import Derived.Test.YtkokajljeebgdaaYWAuto
section
namespace Go.Proofs.Ytkokajljeebgdaa.P
open Go.RowKit Go.Proofs.YtkokajljeebgdaaW.PrintWords Go.Proofs.YtkokajljeebgdaaW.PrintLast Go.Proofs.YtkokajljeebgdaaW.PrintMore
attribute [local go_sem] max2_int min2_int max_two min_two max_three min_three max_four min_four isSome_cell_setCell
set_option linter.unusedVariables false
set_option linter.unusedSimpArgs false
def spec_validLine.inB (a lo hi : Int) : Bool := decide (lo ≤ a) && decide (a ≤ hi)
theorem spec_inRange_eq (a lo hi : Int) : spec_inRange.f a lo hi = some (spec_validLine.inB a lo hi) := by
 unfold spec_inRange.f spec_validLine.inB
 by_cases h : lo ≤ a
 ·rw [if_pos h]; simp [h]
 ·rw [if_neg h]; simp [h]
theorem spec_opens_eq (a : Int) : spec_opens.f a = some (spec_validLine.inB a 7 12) := by
 unfold spec_opens.f
 rw [spec_inRange_eq]; rfl
theorem spec_follows_eq (a : Int) : spec_follows.f a = some (spec_validLine.inB a 8 10) := by
 unfold spec_follows.f
 rw [spec_inRange_eq]; rfl
def spec_validLine.off (p : List S52) (i : Int) (x : S52) : Bool :=
 if (if i = 0 then decide (x.f0 ≠ 0) else if (wrap64 ((rd_T52 p (i - 1)).f0 + 1)) < x.f0 then true else (spec_validLine.inB (rd_T52 p (i - 1)).f1 7 12 != (x.f0 == wrap64 ((rd_T52 p (i - 1)).f0 + 1)))) then true
 else decide (i + 1 = (p.length : Int)) && spec_validLine.inB x.f1 7 12
def spec_validLine.f (k : Nat) (l0_0 : List S87) (l1 : List S52) (a2 : Int) : Option Bool :=
 if 0 ≤ a2 then if a2 < (l1.length : Int) then
  (spec_validNumbers.f k l0_0 (rd_T52 l1 a2).f0 (rd_T52 l1 a2).f1 (rd_T52 l1 a2).f2 (rd_T52 l1 a2).f3).bind fun v =>
  if v = false then some false else if spec_validLine.inB (rd_T52 l1 a2).f0 0 5 = false then some false else
  if spec_validLine.off l1 a2 (rd_T52 l1 a2) then some false else
  (if (rd_T52 l1 a2).f1 = 7 then spec_validChain.f k l1 a2 else some true).bind fun c1 => if c1 = false then some false else
  (if (rd_T52 l1 a2).f1 = 5 ∨ (rd_T52 l1 a2).f1 = 6 then spec_inLoop.f k l1 a2 else some true).bind fun c2 => if c2 = false then some false else
  if spec_validLine.inB (rd_T52 l1 a2).f1 8 10 = false then some true else
  (spec_headOf.f k l1 a2).bind fun h => if 0 ≤ h then if h < (l1.length : Int) then some ((rd_T52 l1 h).f1 == 7 || spec_validLine.inB (rd_T52 l1 h).f1 8 10) else none else some false
 else none else none
def VX (W : World) (BX : Nat) (x : S52) : Prop := W.heap[BX]? = some (.cells #[.int .i64 x.f0, .int .i64 x.f1, .int .i64 x.f2, .int .i64 x.f3] 52 (0, 0))
theorem VX.below {W W' : World} {BX : Nat} {x : S52} (h : VX W BX x) (hb : Below W.heap.size W W') : VX W' BX x := (hb.block _ (blk_lt h)).trans h
theorem VX.cells {W : World} {BX : Nat} {x : S52} (h : VX W BX x) : W.cell? ⟨BX, 0, none⟩ = some (.int .i64 x.f0) ∧ W.cell? ⟨BX, 1, none⟩ = some (.int .i64 x.f1) ∧ W.cell? ⟨BX, 2, none⟩ = some (.int .i64 x.f2) ∧ W.cell? ⟨BX, 3, none⟩ = some (.int .i64 x.f3) :=
 ⟨(blk_cell h 0).trans rfl, (blk_cell h 1).trans rfl, (blk_cell h 2).trans rfl, (blk_cell h 3).trans rfl⟩
set_option maxHeartbeats 8000000 in
set_option maxRecDepth 100000 in
theorem spec_validLine.calls (k : Nat) (A0_0 : Option Addr) (c0_0 : Nat) (l0_0 : List S87) (A1 : Option Addr) (c1 : Nat) (l1 : List S52) (a2 : Int) (r : Bool) (w : World) (hr0_0 : Kd.C k87 w A0_0 l0_0.length l0_0) (hc0_0 : l0_0.length ≤ c0_0) (hr1 : Kd.C k52 w A1 l1.length l1) (hc1 : l1.length ≤ c1) (h : spec_validLine.f k l0_0 l1 a2 = some r) :
  Calls Try.prog 85 #[.agg #[.slice A0_0 l0_0.length c0_0], .slice A1 l1.length c1, .int .i64 a2] w fun e w' => e = .returned (.bool r) ∧ Below w.heap.size w w' := by
 have hu32 := Try.underlying32
 have hu52 := Try.underlying52
 have hm : l1.length ≤ 9223372036854775807 := Kd.C_max hr1
 unfold spec_validLine.f at h
 by_cases h0 : 0 ≤ a2
 ·rw [if_pos h0] at h
  by_cases h1 : a2 < (l1.length : Int)
  ·rw [if_pos h1] at h
   obtain ⟨v, hv, h⟩ := Option.bind_eq_some_iff.mp h
   have HN := am (fun W (hb : Below w.heap.size w W) => spec_validNumbers.calls k A0_0 c0_0 l0_0 _ _ _ _ v W (Kd.C_below hr0_0 hb) hc0_0 hv)
   clear hv
   obtain ⟨ad, rfl, hx0, hx1, hx2, hx3⟩ := at_T52 hr1 a2 h0 h1
   have HR1 := am hr1
   clear hr0_0 hr1
   generalize hgx : rd_T52 l1 a2 = x at h HN hx0 hx1 hx2 hx3
   clear hgx
   have X1 := am (show VX ((w.alloc (.cells #[.slice A0_0 l0_0.length c0_0] 32)).alloc (.cells #[.int .i64 x.f0, .int .i64 x.f1, .int .i64 x.f2, .int .i64 x.f3] 52)) (w.heap.size + 1) x by have := heap_alloc_new (w.alloc (.cells #[.slice A0_0 l0_0.length c0_0] 32)) (.cells #[.int .i64 x.f0, .int .i64 x.f1, .int .i64 x.f2, .int .i64 x.f3] 52); simpa [VX] using this)
   have HB1 := am (((Below.refl w.heap.size w).alloc (Nat.le_refl _) (.cells #[.slice A0_0 l0_0.length c0_0] 32)).alloc (by simp) (.cells #[.int .i64 x.f0, .int .i64 x.f1, .int .i64 x.f2, .int .i64 x.f3] 52))
   have hbt := (Below.refl w.heap.size w).alloc (Nat.le_refl _) (.cells #[.slice A0_0 l0_0.length c0_0] 32)
   replace hx0 := pw_cell_below hbt hx0
   replace hx1 := pw_cell_below hbt hx1
   replace hx2 := pw_cell_below hbt hx2
   replace hx3 := pw_cell_below hbt hx3
   clear hbt
   have p0 := eq_true h0
   have p1 := eq_true h1
   cases v with
   | false =>
    obtain rfl : false = r := by simpa using h
    clear h
    go_enter Try.func85, Try.ntmps85
    go_wp2_with (first | (go_at_call 104; refine (HN.out _ HB1.out).mono ?_; rintro e w2 ⟨rfl, hb2⟩; have X2 := am (VX.below X1.out hb2); have HB2 := am (below_then HB1.out HB1.out.size hb2); clear hb2; obtain ⟨e0, e1, e2, e3⟩ := VX.cells X2.out))
    go_ret
    exact ⟨rfl, HB2.out⟩
   | true =>
    simp only [Bool.true_eq_false, if_false] at h
    cases h5 : spec_validLine.inB x.f0 0 5 with
    | false =>
     have H5 := am h5
     rw [h5, if_pos rfl] at h
     obtain rfl : false = r := by simpa using h
     clear h h5
     go_enter Try.func85, Try.ntmps85
     go_wp2_with (first | (go_at_call 104; refine (HN.out _ HB1.out).mono ?_; rintro e w2 ⟨rfl, hb2⟩; have X2 := am (VX.below X1.out hb2); have HB2 := am (below_then HB1.out HB1.out.size hb2); clear hb2; obtain ⟨e0, e1, e2, e3⟩ := VX.cells X2.out) | (go_at_call 92; refine (spec_inRange.calls _ _ _ _ _ (spec_inRange_eq _ _ _)).mono ?_; rintro e w3 ⟨rfl, hd3⟩; have hb3 := hd3.below; clear hd3; have X3 := am (VX.below X2.out hb3); have HB3 := am (below_then HB2.out HB2.out.size hb3); clear hb3 e0 e1 e2 e3; obtain ⟨e0, e1, e2, e3⟩ := VX.cells X3.out; rw [H5.out]))
     go_ret
     exact ⟨rfl, HB3.out⟩
    | true =>
     have H5 := am h5
     rw [h5] at h
     simp only [Bool.true_eq_false, if_false] at h
     clear h5
     have HH := am h
     clear h
     go_enter Try.func85, Try.ntmps85
     go_upto_region 4 with (first | (go_at_call 104; refine (HN.out _ HB1.out).mono ?_; rintro e w2 ⟨rfl, hb2⟩; have X2 := am (VX.below X1.out hb2); have HB2 := am (below_then HB1.out HB1.out.size hb2); clear hb2; obtain ⟨e0, e1, e2, e3⟩ := VX.cells X2.out) | (go_at_call 92; refine (spec_inRange.calls _ _ _ _ _ (spec_inRange_eq _ _ _)).mono ?_; rintro e w3 ⟨rfl, hd3⟩; have hb3 := hd3.below; clear hd3; have X3 := am (VX.below X2.out hb3); have HB3 := am (below_then HB2.out HB2.out.size hb3); clear hb3 e0 e1 e2 e3; obtain ⟨e0, e1, e2, e3⟩ := VX.cells X3.out; rw [H5.out]))
     go_cut [77] (fun v77 wc => v77 = .bool (spec_validLine.off l1 a2 x) ∧ Aside0 (VX wc (w.heap.size + 1) x) ∧ Aside0 (Below w.heap.size w wc))
     case first =>
      clear HH
      have HO := am (fun (a : Int) (b : Bool) (hb : spec_validLine.inB a 7 12 = b) W => (spec_opens.calls a b W (by rw [spec_opens_eq, hb])).mono fun e w' h => (⟨h.1, h.2.out⟩ : e = .returned (.bool b) ∧ ∃ m, w' = W.drewN m))
      have hw2 : IntKind.i64.wrap (a2 + 1) = a2 + 1 := IntWalk.i64_in _ (by omega)
      by_cases z0 : a2 = 0
      ·have b0 : (a2 == 0) = true := beq_iff_eq.2 z0
       have b0' : decide (0 < a2) = false := decide_eq_false (by omega)
       by_cases zx : x.f0 = 0
       ·have b1 : (x.f0 != 0) = false := by simpa using zx
        have HE := am (by unfold spec_validLine.off; rw [if_pos z0]; simp [zx] : spec_validLine.off l1 a2 x = (decide (a2 + 1 = (l1.length : Int)) && spec_validLine.inB x.f1 7 12))
        clear z0
        clear zx
        by_cases zl : a2 + 1 = (l1.length : Int)
        ·have b3 : (a2 + 1 == (l1.length : Int)) = true := by rw [beq_iff_eq]; omega
         cases hx : spec_validLine.inB x.f1 7 12 with
         | true =>
          have HX := am hx
          have HF := am (by rw [HE.out, hx, decide_eq_true zl]; rfl : spec_validLine.off l1 a2 x = true)
          clear zl hx HE
          go_big_quiet ((go_at_call 105; exact Calls.quiet_of (HO.out x.f1 _ HX.out _)))
          go_wp2
          go_meet
          case rel => exact ⟨by rw [HF.out], X3, ⟨pw_below_drewN HB3.out _⟩⟩
         | false =>
          have HX := am hx
          have HF := am (by rw [HE.out, hx]; simp : spec_validLine.off l1 a2 x = false)
          clear zl hx HE
          go_big_quiet ((go_at_call 105; exact Calls.quiet_of (HO.out x.f1 _ HX.out _)))
          go_wp2
          go_meet
          case rel => exact ⟨by rw [HF.out], X3, ⟨pw_below_drewN HB3.out _⟩⟩
        ·have b3 : (a2 + 1 == (l1.length : Int)) = false := by rw [beq_eq_false_iff_ne]; omega
         have HF := am (by rw [HE.out, decide_eq_false zl]; rfl : spec_validLine.off l1 a2 x = false)
         clear zl HE
         go_big_quiet (fail)
         go_wp2
         go_meet
         case rel => exact ⟨by rw [HF.out], X3, ⟨pw_below_drewN HB3.out _⟩⟩
       ·have b1 : (x.f0 != 0) = true := by simpa using zx
        have HF := am (by unfold spec_validLine.off; rw [if_pos z0]; simp [zx] : spec_validLine.off l1 a2 x = true)
        clear zx z0
        go_big_quiet (fail)
        go_wp2
        go_meet
        case rel => exact ⟨by rw [HF.out], X3, ⟨pw_below_drewN HB3.out _⟩⟩
      ·have b0 : (a2 == 0) = false := beq_eq_false_iff_ne.2 z0
       have b0' : decide (0 < a2) = true := decide_eq_true (by omega)
       have q0 : 0 ≤ a2 - 1 := by omega
       have q1 : a2 - 1 < (l1.length : Int) := by omega
       obtain ⟨j, hj⟩ : ∃ j, a2 - 1 = j := ⟨_, rfl⟩
       rw [hj] at q0 q1
       obtain ⟨ad', he, y0, y1, y2, y3⟩ := at_T52 HR1.out j q0 q1
       cases he
       replace y0 := pw_cell_below HB3.out y0
       replace y1 := pw_cell_below HB3.out y1
       clear y2 y3
       replace q0 := eq_true q0
       replace q1 := eq_true q1
       have HD := am (by unfold spec_validLine.off; rw [if_neg z0] : spec_validLine.off l1 a2 x = if (if (wrap64 ((rd_T52 l1 (a2 - 1)).f0 + 1)) < x.f0 then true else (spec_validLine.inB (rd_T52 l1 (a2 - 1)).f1 7 12 != (x.f0 == wrap64 ((rd_T52 l1 (a2 - 1)).f0 + 1)))) then true else decide (a2 + 1 = (l1.length : Int)) && spec_validLine.inB x.f1 7 12)
       clear z0
       rw [hj] at HD
       generalize rd_T52 l1 j = y at HD y0 y1
       generalize hz : wrap64 (y.f0 + 1) = z at HD
       have HZ := am hz
       by_cases zt : z < x.f0
       ·have b4 : decide (z < x.f0) = true := decide_eq_true zt
        have HF := am (by rw [HD.out]; simp [zt] : spec_validLine.off l1 a2 x = true)
        clear zt HD
        go_big_quiet (fail)
        go_wp2
        go_meet
        case rel => exact ⟨by rw [HF.out], X3, ⟨pw_below_drewN HB3.out _⟩⟩
       ·have b4 : decide (z < x.f0) = false := decide_eq_false zt
        cases hy : spec_validLine.inB y.f1 7 12 with
        | true =>
         have HY := am hy
         by_cases ze : x.f0 = z
         ·have b5 : (x.f0 == z) = true := beq_iff_eq.2 ze
          have HE := am (by rw [HD.out, hy, b5]; simp [zt] : spec_validLine.off l1 a2 x = (decide (a2 + 1 = (l1.length : Int)) && spec_validLine.inB x.f1 7 12))
          clear zt HD hy ze
          by_cases zl : a2 + 1 = (l1.length : Int)
          ·have b3 : (a2 + 1 == (l1.length : Int)) = true := by rw [beq_iff_eq]; omega
           cases hx : spec_validLine.inB x.f1 7 12 with
           | true =>
            have HX := am hx
            have HF := am (by rw [HE.out, hx, decide_eq_true zl]; rfl : spec_validLine.off l1 a2 x = true)
            clear zl hx HE
            go_big_quiet (first | (go_at_call 105; exact Calls.quiet_of (HO.out y.f1 _ HY.out _)) | (go_at_call 105; exact Calls.quiet_of (HO.out x.f1 _ HX.out _)))
            go_wp2
            go_meet
            case rel => exact ⟨by rw [HF.out], X3, ⟨pw_below_drewN HB3.out _⟩⟩
           | false =>
            have HX := am hx
            have HF := am (by rw [HE.out, hx]; simp : spec_validLine.off l1 a2 x = false)
            clear zl hx HE
            go_big_quiet (first | (go_at_call 105; exact Calls.quiet_of (HO.out y.f1 _ HY.out _)) | (go_at_call 105; exact Calls.quiet_of (HO.out x.f1 _ HX.out _)))
            go_wp2
            go_meet
            case rel => exact ⟨by rw [HF.out], X3, ⟨pw_below_drewN HB3.out _⟩⟩
          ·have b3 : (a2 + 1 == (l1.length : Int)) = false := by rw [beq_eq_false_iff_ne]; omega
           have HF := am (by rw [HE.out, decide_eq_false zl]; rfl : spec_validLine.off l1 a2 x = false)
           clear zl HE
           go_big_quiet ((go_at_call 105; exact Calls.quiet_of (HO.out y.f1 _ HY.out _)))
           go_wp2
           go_meet
           case rel => exact ⟨by rw [HF.out], X3, ⟨pw_below_drewN HB3.out _⟩⟩
         ·have b5 : (x.f0 == z) = false := beq_eq_false_iff_ne.2 ze
          have HF := am (by rw [HD.out, hy, b5]; simp : spec_validLine.off l1 a2 x = true)
          clear zt HD hy ze
          go_big_quiet ((go_at_call 105; exact Calls.quiet_of (HO.out y.f1 _ HY.out _)))
          go_wp2
          go_meet
          case rel => exact ⟨by rw [HF.out], X3, ⟨pw_below_drewN HB3.out _⟩⟩
        | false =>
         have HY := am hy
         by_cases ze : x.f0 = z
         ·have b5 : (x.f0 == z) = true := beq_iff_eq.2 ze
          have HF := am (by rw [HD.out, hy, b5]; simp : spec_validLine.off l1 a2 x = true)
          clear zt HD hy ze
          go_big_quiet ((go_at_call 105; exact Calls.quiet_of (HO.out y.f1 _ HY.out _)))
          go_wp2
          go_meet
          case rel => exact ⟨by rw [HF.out], X3, ⟨pw_below_drewN HB3.out _⟩⟩
         ·have b5 : (x.f0 == z) = false := beq_eq_false_iff_ne.2 ze
          have HE := am (by rw [HD.out, hy, b5]; simp [zt] : spec_validLine.off l1 a2 x = (decide (a2 + 1 = (l1.length : Int)) && spec_validLine.inB x.f1 7 12))
          clear zt HD hy ze
          by_cases zl : a2 + 1 = (l1.length : Int)
          ·have b3 : (a2 + 1 == (l1.length : Int)) = true := by rw [beq_iff_eq]; omega
           cases hx : spec_validLine.inB x.f1 7 12 with
           | true =>
            have HX := am hx
            have HF := am (by rw [HE.out, hx, decide_eq_true zl]; rfl : spec_validLine.off l1 a2 x = true)
            clear zl hx HE
            go_big_quiet (first | (go_at_call 105; exact Calls.quiet_of (HO.out y.f1 _ HY.out _)) | (go_at_call 105; exact Calls.quiet_of (HO.out x.f1 _ HX.out _)))
            go_wp2
            go_meet
            case rel => exact ⟨by rw [HF.out], X3, ⟨pw_below_drewN HB3.out _⟩⟩
           | false =>
            have HX := am hx
            have HF := am (by rw [HE.out, hx]; simp : spec_validLine.off l1 a2 x = false)
            clear zl hx HE
            go_big_quiet (first | (go_at_call 105; exact Calls.quiet_of (HO.out y.f1 _ HY.out _)) | (go_at_call 105; exact Calls.quiet_of (HO.out x.f1 _ HX.out _)))
            go_wp2
            go_meet
            case rel => exact ⟨by rw [HF.out], X3, ⟨pw_below_drewN HB3.out _⟩⟩
          ·have b3 : (a2 + 1 == (l1.length : Int)) = false := by rw [beq_eq_false_iff_ne]; omega
           have HF := am (by rw [HE.out, decide_eq_false zl]; rfl : spec_validLine.off l1 a2 x = false)
           clear zl HE
           go_big_quiet ((go_at_call 105; exact Calls.quiet_of (HO.out y.f1 _ HY.out _)))
           go_wp2
           go_meet
           case rel => exact ⟨by rw [HF.out], X3, ⟨pw_below_drewN HB3.out _⟩⟩
     case rest =>
      obtain ⟨rfl, X4, HB4⟩ := hcut
      clear X1 HB1
      have h := HH.out
      clear HH
      obtain ⟨e0, e1, e2, e3⟩ := VX.cells X4.out
      have tok : True := trivial
      have HO := am (fun (a : Int) (b : Bool) (hb : spec_validLine.inB a 8 10 = b) W => spec_follows.calls a b W (by rw [spec_follows_eq, hb]))
      cases ho : spec_validLine.off l1 a2 x with
      | true =>
       rw [ho, if_pos rfl] at h
       obtain rfl : false = r := by simpa using h
       clear h ho
       go_wp2
       go_ret
       exact ⟨rfl, HB4.out⟩
      | false =>
       rw [ho] at h
       simp only [Bool.false_eq_true, if_false] at h
       clear ho
       obtain ⟨c, hc, h⟩ := Option.bind_eq_some_iff.mp h
       by_cases z7 : x.f1 = 7
       ·rw [if_pos z7] at hc
        have HC := am (fun W (hb : Below w.heap.size w W) => spec_validChain.calls k _ c1 l1 a2 c W (Kd.C_below HR1.out hb) hc1 hc)
        have b7 : (x.f1 == 7) = true := beq_iff_eq.2 z7
        have b5 : (x.f1 == 5) = false := beq_eq_false_iff_ne.2 (by omega)
        have b6 : (x.f1 == 6) = false := beq_eq_false_iff_ne.2 (by omega)
        cases c with
        | false =>
         obtain rfl : false = r := by simpa using h
         clear h hc z7
         go_wp2_with (first | (go_at_call 106; refine (HC.out _ HB4.out).mono ?_; rintro e w5 ⟨rfl, hb5⟩; have X5 := am (VX.below X4.out hb5); have HB5 := am (below_then HB4.out HB4.out.size hb5); clear hb5 e0 e1 e2 e3; obtain ⟨e0, e1, e2, e3⟩ := VX.cells X5.out))
         go_ret
         exact ⟨rfl, HB5.out⟩
        | true =>
         have hx : spec_validLine.inB x.f1 8 10 = false := by unfold spec_validLine.inB; rw [z7]; rfl
         have HX := am hx
         obtain rfl : true = r := by simpa [z7, show spec_validLine.inB 7 8 10 = false from rfl] using h
         clear h hc z7 hx
         go_wp2_with (first | (go_at_call 106; refine (HC.out _ HB4.out).mono ?_; rintro e w5 ⟨rfl, hb5⟩; have X5 := am (VX.below X4.out hb5); have HB5 := am (below_then HB4.out HB4.out.size hb5); clear hb5 e0 e1 e2 e3; obtain ⟨e0, e1, e2, e3⟩ := VX.cells X5.out) | (go_at_call 70; have tk := tok; clear tok; refine (HO.out x.f1 _ HX.out _).mono ?_; rintro e w6 ⟨rfl, hd6⟩; have hb6 := hd6.below; clear hd6; have X6 := am (VX.below X5.out hb6); have HB6 := am (below_then HB5.out HB5.out.size hb6); clear hb6 e0 e1 e2 e3; obtain ⟨e0, e1, e2, e3⟩ := VX.cells X6.out))
         go_ret
         exact ⟨rfl, HB6.out⟩
       ·rw [if_neg z7] at hc
        obtain rfl : true = c := by simpa using hc
        clear hc
        have b7 : (x.f1 == 7) = false := beq_eq_false_iff_ne.2 z7
        simp only [Bool.true_eq_false, if_false] at h
        obtain ⟨c, hc, h⟩ := Option.bind_eq_some_iff.mp h
        by_cases z56 : x.f1 = 5 ∨ x.f1 = 6
        ·rw [if_pos z56] at hc
         have HC := am (fun W (hb : Below w.heap.size w W) => spec_inLoop.calls k _ c1 l1 a2 c W (Kd.C_below HR1.out hb) hc1 hc)
         have hx : spec_validLine.inB x.f1 8 10 = false := by rcases z56 with z | z <;> (unfold spec_validLine.inB; rw [z]; rfl)
         have HX := am hx
         cases c with
         | false =>
          obtain rfl : false = r := by simpa using h
          clear h hc hx
          rcases z56 with z | z
          ·have b5 : (x.f1 == 5) = true := beq_iff_eq.2 z
           clear z z7
           go_wp2_with (first | (go_at_call 107; refine (HC.out _ HB4.out).mono ?_; rintro e w5 ⟨rfl, hd5⟩; have hb5 := hd5.below; clear hd5; have X5 := am (VX.below X4.out hb5); have HB5 := am (below_then HB4.out HB4.out.size hb5); clear hb5 e0 e1 e2 e3; obtain ⟨e0, e1, e2, e3⟩ := VX.cells X5.out))
           go_ret
           exact ⟨rfl, HB5.out⟩
          ·have b5 : (x.f1 == 5) = false := beq_eq_false_iff_ne.2 (by omega)
           have b6 : (x.f1 == 6) = true := beq_iff_eq.2 z
           clear z z7
           go_wp2_with (first | (go_at_call 107; refine (HC.out _ HB4.out).mono ?_; rintro e w5 ⟨rfl, hd5⟩; have hb5 := hd5.below; clear hd5; have X5 := am (VX.below X4.out hb5); have HB5 := am (below_then HB4.out HB4.out.size hb5); clear hb5 e0 e1 e2 e3; obtain ⟨e0, e1, e2, e3⟩ := VX.cells X5.out))
           go_ret
           exact ⟨rfl, HB5.out⟩
         | true =>
          obtain rfl : true = r := by simpa [hx] using h
          clear h hc hx
          rcases z56 with z | z
          ·have b5 : (x.f1 == 5) = true := beq_iff_eq.2 z
           clear z z7
           go_wp2_with (first | (go_at_call 107; refine (HC.out _ HB4.out).mono ?_; rintro e w5 ⟨rfl, hd5⟩; have hb5 := hd5.below; clear hd5; have X5 := am (VX.below X4.out hb5); have HB5 := am (below_then HB4.out HB4.out.size hb5); clear hb5 e0 e1 e2 e3; obtain ⟨e0, e1, e2, e3⟩ := VX.cells X5.out) | (go_at_call 70; have tk := tok; clear tok; refine (HO.out x.f1 _ HX.out _).mono ?_; rintro e w6 ⟨rfl, hd6⟩; have hb6 := hd6.below; clear hd6; have X6 := am (VX.below X5.out hb6); have HB6 := am (below_then HB5.out HB5.out.size hb6); clear hb6 e0 e1 e2 e3; obtain ⟨e0, e1, e2, e3⟩ := VX.cells X6.out))
           go_ret
           exact ⟨rfl, HB6.out⟩
          ·have b5 : (x.f1 == 5) = false := beq_eq_false_iff_ne.2 (by omega)
           have b6 : (x.f1 == 6) = true := beq_iff_eq.2 z
           clear z z7
           go_wp2_with (first | (go_at_call 107; refine (HC.out _ HB4.out).mono ?_; rintro e w5 ⟨rfl, hd5⟩; have hb5 := hd5.below; clear hd5; have X5 := am (VX.below X4.out hb5); have HB5 := am (below_then HB4.out HB4.out.size hb5); clear hb5 e0 e1 e2 e3; obtain ⟨e0, e1, e2, e3⟩ := VX.cells X5.out) | (go_at_call 70; have tk := tok; clear tok; refine (HO.out x.f1 _ HX.out _).mono ?_; rintro e w6 ⟨rfl, hd6⟩; have hb6 := hd6.below; clear hd6; have X6 := am (VX.below X5.out hb6); have HB6 := am (below_then HB5.out HB5.out.size hb6); clear hb6 e0 e1 e2 e3; obtain ⟨e0, e1, e2, e3⟩ := VX.cells X6.out))
           go_ret
           exact ⟨rfl, HB6.out⟩
        ·rw [if_neg z56] at hc
         obtain rfl : true = c := by simpa using hc
         clear hc
         have b5 : (x.f1 == 5) = false := beq_eq_false_iff_ne.2 (fun z => z56 (.inl z))
         have b6 : (x.f1 == 6) = false := beq_eq_false_iff_ne.2 (fun z => z56 (.inr z))
         simp only [Bool.true_eq_false, if_false] at h
         clear z7 z56
         cases hx : spec_validLine.inB x.f1 8 10 with
         | false =>
          have HX := am hx
          rw [hx, if_pos rfl] at h
          obtain rfl : true = r := by simpa using h
          clear h hx
          go_wp2_with (first | (go_at_call 70; have tk := tok; clear tok; refine (HO.out x.f1 _ HX.out _).mono ?_; rintro e w6 ⟨rfl, hd6⟩; have hb6 := hd6.below; clear hd6; have X6 := am (VX.below X4.out hb6); have HB6 := am (below_then HB4.out HB4.out.size hb6); clear hb6 e0 e1 e2 e3; obtain ⟨e0, e1, e2, e3⟩ := VX.cells X6.out))
          go_ret
          exact ⟨rfl, HB6.out⟩
         | true =>
          have HX := am hx
          rw [hx] at h
          simp only [Bool.true_eq_false, if_false] at h
          clear hx
          obtain ⟨q, hq, h⟩ := Option.bind_eq_some_iff.mp h
          have HQ := am (fun W (hb : Below w.heap.size w W) => spec_headOf.calls k _ c1 l1 a2 q W (Kd.C_below HR1.out hb) hc1 hq)
          clear hq
          by_cases q0 : 0 ≤ q
          ·rw [if_pos q0] at h
           have q0b := decide_eq_true q0
           by_cases q1 : q < (l1.length : Int)
           ·rw [if_pos q1] at h
            obtain ⟨ad', he, y0, y1, y2, y3⟩ := at_T52 HR1.out q q0 q1
            cases he
            generalize rd_T52 l1 q = y at h y0 y1
            have HK := am y1
            clear y0 y1 y2 y3
            have q0 := eq_true q0
            have q1 := eq_true q1
            by_cases zy : y.f1 = 7
            ·have by7 : (y.f1 == 7) = true := beq_iff_eq.2 zy
             obtain rfl : true = r := by simpa [zy] using h
             clear h zy
             go_wp2_with (first | (go_at_call 70; have tk := tok; clear tok; refine (HO.out x.f1 _ HX.out _).mono ?_; rintro e w6 ⟨rfl, hd6⟩; have hb6 := hd6.below; clear hd6; have X6 := am (VX.below X4.out hb6); have HB6 := am (below_then HB4.out HB4.out.size hb6); clear hb6 e0 e1 e2 e3; obtain ⟨e0, e1, e2, e3⟩ := VX.cells X6.out) | (go_at_call 99; refine (HQ.out _ HB6.out).mono ?_; rintro e w7 ⟨rfl, hd7⟩; have hb7 := hd7.below; clear hd7; have X7 := am (VX.below X6.out hb7); have HB7 := am (below_then HB6.out HB6.out.size hb7); clear hb7 e0 e1 e2 e3; obtain ⟨e0, e1, e2, e3⟩ := VX.cells X7.out; have y1 := pw_cell_below HB7.out HK.out))
             go_ret
             exact ⟨rfl, HB7.out⟩
            ·have by7 : (y.f1 == 7) = false := beq_eq_false_iff_ne.2 zy
             cases hy : spec_validLine.inB y.f1 8 10 with
             | true =>
              have HY := am hy
              obtain rfl : true = r := by rw [hy, by7] at h; simpa using h
              clear h hy zy
              go_wp2_with (first | (go_at_call 70; have tk := tok; clear tok; refine (HO.out x.f1 _ HX.out _).mono ?_; rintro e w6 ⟨rfl, hd6⟩; have hb6 := hd6.below; clear hd6; have X6 := am (VX.below X4.out hb6); have HB6 := am (below_then HB4.out HB4.out.size hb6); clear hb6 e0 e1 e2 e3; obtain ⟨e0, e1, e2, e3⟩ := VX.cells X6.out) | (go_at_call 99; refine (HQ.out _ HB6.out).mono ?_; rintro e w7 ⟨rfl, hd7⟩; have hb7 := hd7.below; clear hd7; have X7 := am (VX.below X6.out hb7); have HB7 := am (below_then HB6.out HB6.out.size hb7); clear hb7 e0 e1 e2 e3; obtain ⟨e0, e1, e2, e3⟩ := VX.cells X7.out; have y1 := pw_cell_below HB7.out HK.out) | (go_at_call 70; refine (HO.out y.f1 _ HY.out _).mono ?_; rintro e w8 ⟨rfl, hd8⟩; have hb8 := hd8.below; clear hd8; have X8 := am (VX.below X7.out hb8); have HB8 := am (below_then HB7.out HB7.out.size hb8); clear hb8 e0 e1 e2 e3; obtain ⟨e0, e1, e2, e3⟩ := VX.cells X8.out))
              go_ret
              exact ⟨rfl, HB8.out⟩
             | false =>
              have HY := am hy
              obtain rfl : false = r := by rw [hy, by7] at h; simpa using h
              clear h hy zy
              go_wp2_with (first | (go_at_call 70; have tk := tok; clear tok; refine (HO.out x.f1 _ HX.out _).mono ?_; rintro e w6 ⟨rfl, hd6⟩; have hb6 := hd6.below; clear hd6; have X6 := am (VX.below X4.out hb6); have HB6 := am (below_then HB4.out HB4.out.size hb6); clear hb6 e0 e1 e2 e3; obtain ⟨e0, e1, e2, e3⟩ := VX.cells X6.out) | (go_at_call 99; refine (HQ.out _ HB6.out).mono ?_; rintro e w7 ⟨rfl, hd7⟩; have hb7 := hd7.below; clear hd7; have X7 := am (VX.below X6.out hb7); have HB7 := am (below_then HB6.out HB6.out.size hb7); clear hb7 e0 e1 e2 e3; obtain ⟨e0, e1, e2, e3⟩ := VX.cells X7.out; have y1 := pw_cell_below HB7.out HK.out) | (go_at_call 70; refine (HO.out y.f1 _ HY.out _).mono ?_; rintro e w8 ⟨rfl, hd8⟩; have hb8 := hd8.below; clear hd8; have X8 := am (VX.below X7.out hb8); have HB8 := am (below_then HB7.out HB7.out.size hb8); clear hb8 e0 e1 e2 e3; obtain ⟨e0, e1, e2, e3⟩ := VX.cells X8.out))
              go_ret
              exact ⟨rfl, HB8.out⟩
           ·rw [if_neg q1] at h
            cases h
          ·rw [if_neg q0] at h
           have q0b := decide_eq_false q0
           obtain rfl : false = r := by simpa using h
           clear h q0
           go_wp2_with (first | (go_at_call 70; have tk := tok; clear tok; refine (HO.out x.f1 _ HX.out _).mono ?_; rintro e w6 ⟨rfl, hd6⟩; have hb6 := hd6.below; clear hd6; have X6 := am (VX.below X4.out hb6); have HB6 := am (below_then HB4.out HB4.out.size hb6); clear hb6 e0 e1 e2 e3; obtain ⟨e0, e1, e2, e3⟩ := VX.cells X6.out) | (go_at_call 99; refine (HQ.out _ HB6.out).mono ?_; rintro e w7 ⟨rfl, hd7⟩; have hb7 := hd7.below; clear hd7; have X7 := am (VX.below X6.out hb7); have HB7 := am (below_then HB6.out HB6.out.size hb7); clear hb7 e0 e1 e2 e3; obtain ⟨e0, e1, e2, e3⟩ := VX.cells X7.out))
           go_ret
           exact ⟨rfl, HB7.out⟩
  ·rw [if_neg h1] at h
   cases h
 ·rw [if_neg h0] at h
  cases h
def spec_validName.l0 : Nat → ByteArray → Int → Option (Bool)
 | 0, _, _ => none
 | k + 1, x0, x3 => if x3 < (x0.size : Int) then (if 0 ≤ x3 then (if (bt x0 x3) < 97 then (some false) else (if (bt x0 x3) > 122 then (some false) else (spec_validName.l0 k x0 (wrap64 (x3 + 1))))) else (none)) else ((spec_inRange.f (x0.size : Int) 1 6).bind fun t152 => (some t152))
def spec_validName.f (k : Nat) (a0 : ByteArray) : Option (Bool) := spec_validName.l0 k a0 0
set_option maxHeartbeats 8000000 in
set_option maxRecDepth 100000 in
theorem spec_validName.calls (k : Nat) (a0 : ByteArray) (r : Bool) (w : World) (h : spec_validName.f k a0 = some r) :
  Calls Try.prog 108 #[.string a0] w fun e w' => e = .returned (.bool r) ∧ Drawn0 w w' := by
 have H : (spec_validName.l0 k a0 0) = some r := h
 clear h
 have H' := am H
 clear H
 go_enter Try.func108, Try.ntmps108
 go_wp2
 go_loopg [3] k (fun kq v3 w' => ∃ (x3_1 : Int), v3 = .int .i64 x3_1 ∧ Aside0 (spec_validName.l0 kq a0 x3_1 = some r) ∧ Aside0 (kq ≤ k) ∧ Drawn0 w w')
 case atStart => exact ⟨(0), (sq), H', ⟨Nat.le_refl _⟩, Y4⟩
 case round =>
  clear H'
  try clear c1
  obtain ⟨x3_1, rfl, HA, HK1, ⟨m1, rfl⟩⟩ := hrel
  cases gk with
  | zero => exact absurd HA.out (by simp [spec_validName.l0])
  | succ k1 =>
   have H := HA.out
   clear HA
   simp only [spec_validName.l0] at H
   by_cases c2 : x3_1 < (a0.size : Int)
   ·rw [if_pos c2] at H
    have c2b0 : decide (x3_1 < (a0.size : Int)) = true := decide_eq_true c2
    clear c2
    by_cases c3 : 0 ≤ x3_1
    ·rw [if_pos c3] at H
     have c3b0 : decide (0 ≤ x3_1) = true := decide_eq_true c3
     clear c3
     by_cases c5 : (bt a0 x3_1) < 97
     ·rw [if_pos c5] at H
      have c5b0 : decide ((bt a0 x3_1) < 97) = true := decide_eq_true c5
      clear c5
      obtain rfl := Option.some.inj H
      have p4 : 0 ≤ (x3_1 : Int) := of_decide_eq_true (uq)
      have q4 : x3_1 < (a0.size : Int) := of_decide_eq_true (uq)
      have hx4 := bt_at a0 x3_1
      replace p4 := eq_true p4
      replace q4 := eq_true q4
      go_wp2
      go_ret
      exact ⟨sq, Y4⟩
     ·rw [if_neg c5] at H
      have c5b0 : decide ((bt a0 x3_1) < 97) = false := decide_eq_false c5
      clear c5
      by_cases c7 : (bt a0 x3_1) > 122
      ·rw [if_pos c7] at H
       have c7b0 : decide (122 < (bt a0 x3_1)) = true := decide_eq_true c7
       clear c7
       obtain rfl := Option.some.inj H
       have p4 : 0 ≤ (x3_1 : Int) := of_decide_eq_true (uq)
       have q4 : x3_1 < (a0.size : Int) := of_decide_eq_true (uq)
       have hx4 := bt_at a0 x3_1
       replace p4 := eq_true p4
       replace q4 := eq_true q4
       have p6 : 0 ≤ (x3_1 : Int) := of_decide_eq_true (uq)
       have q6 : x3_1 < (a0.size : Int) := of_decide_eq_true (uq)
       have hx6 := bt_at a0 x3_1
       replace p6 := eq_true p6
       replace q6 := eq_true q6
       go_wp2
       go_ret
       exact ⟨sq, Y4⟩
      ·rw [if_neg c7] at H
       have c7b0 : decide (122 < (bt a0 x3_1)) = false := decide_eq_false c7
       clear c7
       have H' := am H
       clear H
       have p4 : 0 ≤ (x3_1 : Int) := of_decide_eq_true (uq)
       have q4 : x3_1 < (a0.size : Int) := of_decide_eq_true (uq)
       have hx4 := bt_at a0 x3_1
       replace p4 := eq_true p4
       replace q4 := eq_true q4
       have p6 : 0 ≤ (x3_1 : Int) := of_decide_eq_true (uq)
       have q6 : x3_1 < (a0.size : Int) := of_decide_eq_true (uq)
       have hx6 := bt_at a0 x3_1
       replace p6 := eq_true p6
       replace q6 := eq_true q6
       go_wp2
       go_roundg k1
       case measure => have := HK1.out; omega
       case rel => exact ⟨(wrap64 (x3_1 + 1)), (sq), H', ⟨by have := HK1.out; omega⟩, Y4⟩
    ·rw [if_neg c3] at H
     exact absurd H (by simp)
   ·rw [if_neg c2] at H
    have c2b0 : decide (x3_1 < (a0.size : Int)) = false := decide_eq_false c2
    clear c2
    replace H := Option.bind_eq_some_iff.mp H
    obtain ⟨t152, A80, H⟩ := H
    replace H : (some t152) = some r := H
    have A8 := am A80
    clear A80
    obtain rfl := Option.some.inj H
    go_wp2_with (first | ((with_reducible refine gate_callee (f := 92) rfl ?_); refine gL (some 22) Try.func92 #[.int .i64 (a0.size : Int), .int .i64 1, .int .i64 6] ?_; (with_reducible refine (spec_inRange.calls (a0.size : Int) 1 6 t152 _ A8.out).mono ?_); rintro e w' ⟨rfl, ⟨nd, rfl⟩⟩; refine ⟨_, rfl, ?_⟩))
    go_ret
    exact ⟨sq, Y4⟩
def spec_classNamed.l0 : Nat → List (S87) → ByteArray → Int → Option (Int)
 | 0, _, _, _ => none
 | k + 1, x0, x1, x5 => if x5 < (x0.length : Int) then (if 0 ≤ x5 then (if ((rd_T87 x0 x5).f0).toList = x1.toList then (some x5) else (spec_classNamed.l0 k x0 x1 (wrap64 (x5 + 1)))) else (none)) else (some (-1))
def spec_classNamed.f (k : Nat) (l0 : List (S87)) (a1 : ByteArray) : Option (Int) := spec_classNamed.l0 k l0 a1 0
set_option maxHeartbeats 8000000 in
set_option maxRecDepth 100000 in
theorem spec_classNamed.calls (k : Nat) (A0 : Option Addr) (c0 : Nat) (l0 : List (S87)) (a1 : ByteArray) (r : Int) (w : World) (hr0 : Kd.C k87 w A0 l0.length l0) (hc0 : l0.length ≤ c0) (h : spec_classNamed.f k l0 a1 = some r) :
  Calls Try.prog 109 #[.slice A0 l0.length c0, .string a1] w fun e w' => e = .returned (.int .i64 r) ∧ Drawn0 w w' := by
 have HR0 := am hr0
 have HC0 := am hc0
 clear hr0 hc0
 have H : (spec_classNamed.l0 k l0 a1 0) = some r := h
 clear h
 have H' := am H
 clear H
 go_enter Try.func109, Try.ntmps109
 go_wp2
 go_loopg [5] k (fun kq v5 w' => ∃ (x5_1 : Int), v5 = .int .i64 x5_1 ∧ Aside0 (spec_classNamed.l0 kq l0 a1 x5_1 = some r) ∧ Aside0 (kq ≤ k) ∧ Drawn0 w w')
 case atStart => exact ⟨(0), (sq), H', ⟨Nat.le_refl _⟩, Y4⟩
 case round =>
  clear H'
  try clear c1
  try clear p2
  obtain ⟨x5_1, rfl, HA, HK1, ⟨m1, rfl⟩⟩ := hrel
  cases gk with
  | zero => exact absurd HA.out (by simp [spec_classNamed.l0])
  | succ k1 =>
   have H := HA.out
   clear HA
   simp only [spec_classNamed.l0] at H
   by_cases c3 : x5_1 < (l0.length : Int)
   ·rw [if_pos c3] at H
    have c3b0 : decide (x5_1 < (l0.length : Int)) = true := decide_eq_true c3
    clear c3
    by_cases c4 : 0 ≤ x5_1
    ·rw [if_pos c4] at H
     have c4b0 : decide (0 ≤ x5_1) = true := decide_eq_true c4
     clear c4
     by_cases c5 : ((rd_T87 l0 x5_1).f0).toList = a1.toList
     ·rw [if_pos c5] at H
      have c5b0 : (((rd_T87 l0 x5_1).f0).toList == a1.toList) = true := beq_iff_eq.mpr c5
      have c5b1 : (((rd_T87 l0 x5_1).f0).toList != a1.toList) = false := bne_eq_false_iff_eq.mpr c5
      clear c5
      obtain rfl := Option.some.inj H
      have p153 : 0 ≤ (x5_1 : Int) := of_decide_eq_true (uq)
      have q153 : x5_1 < (l0.length : Int) := of_decide_eq_true (uq)
      obtain ⟨ad153, e153, hx153_0, hx153_1⟩ := at_T87 HR0.out x5_1 p153 q153
      cases e153
      replace p153 := eq_true p153
      replace q153 := eq_true q153
      go_wp2
      go_ret
      exact ⟨sq, Y4⟩
     ·rw [if_neg c5] at H
      have c5b0 : (((rd_T87 l0 x5_1).f0).toList == a1.toList) = false := beq_eq_false_iff_ne.mpr c5
      have c5b1 : (((rd_T87 l0 x5_1).f0).toList != a1.toList) = true := bne_iff_ne.mpr c5
      have H' := am H
      clear H
      have p153 : 0 ≤ (x5_1 : Int) := of_decide_eq_true (uq)
      have q153 : x5_1 < (l0.length : Int) := of_decide_eq_true (uq)
      obtain ⟨ad153, e153, hx153_0, hx153_1⟩ := at_T87 HR0.out x5_1 p153 q153
      cases e153
      replace p153 := eq_true p153
      replace q153 := eq_true q153
      go_wp2
      go_roundg k1
      case measure => have := HK1.out; omega
      case rel => exact ⟨(wrap64 (x5_1 + 1)), (sq), H', ⟨by have := HK1.out; omega⟩, Y4⟩
    ·rw [if_neg c4] at H
     exact absurd H (by simp)
   ·rw [if_neg c3] at H
    have c3b0 : decide (x5_1 < (l0.length : Int)) = false := decide_eq_false c3
    clear c3
    obtain rfl := Option.some.inj H
    go_wp2
    go_ret
    exact ⟨sq, Y4⟩
mutual
def spec_validTree.l0 : Nat → Int → List (S87) → Option (Bool)
 | 0, _, _ => none
 | k + 1, x3, x155000 => if x3 < (x155000.length : Int) then (if 0 ≤ x3 then ((spec_validName.f k ((rd_T87 x155000 x3).f0)).bind fun t158 => (if t158 = true then (if x3 ≤ (x155000.length : Int) then ((spec_classNamed.f k (x155000.take (x3 : Int).toNat) ((rd_T87 x155000 x3).f0)).bind fun t163 => (if t163 ≥ 0 then (spec_validTree.j1 k x3 true x155000) else (if x3 = 0 then (if ((rd_T87 x155000 x3).f1) = (-1) then (if x3 > 0 then ((spec_inRange.f ((rd_T87 x155000 x3).f1) 0 (wrap64 (x3 - 1))).bind fun t164 => (spec_validTree.j1 k x3 (!t164) x155000)) else (spec_validTree.j1 k x3 false x155000)) else (spec_validTree.j1 k x3 true x155000)) else (if x3 > 0 then ((spec_inRange.f ((rd_T87 x155000 x3).f1) 0 (wrap64 (x3 - 1))).bind fun t165 => (spec_validTree.j1 k x3 (!t165) x155000)) else (spec_validTree.j1 k x3 false x155000))))) else (none)) else (spec_validTree.j1 k x3 true x155000))) else (none)) else ((spec_inRange.f (x155000.length : Int) 1 8).bind fun t155 => (some t155))
def spec_validTree.j1 : Nat → Int → Bool → List (S87) → Option (Bool)
 | 0, _, _, _ => none
 | k + 1, x3, x51, x155000 => if x51 = true then (some false) else (spec_validTree.l0 k (wrap64 (x3 + 1)) x155000)
end
def spec_validTree.f (k : Nat) (l0_0 : List (S87)) : Option (Bool) := spec_validTree.l0 k 0 l0_0
set_option maxHeartbeats 8000000 in
set_option maxRecDepth 100000 in
theorem spec_validTree.calls (k : Nat) (A0_0 : Option Addr) (c0_0 : Nat) (l0_0 : List (S87)) (r : Bool) (w : World) (hr0_0 : Kd.C k87 w A0_0 l0_0.length l0_0) (hc0_0 : l0_0.length ≤ c0_0) (h : spec_validTree.f k l0_0 = some r) :
  Calls Try.prog 86 #[.agg #[.slice A0_0 l0_0.length c0_0]] w fun e w' => e = .returned (.bool r) ∧ Below w.heap.size w w' := by
 have hu32 := Try.underlying32
 have hu87 := Try.underlying87
 have HR0_0 := am hr0_0
 have HC0_0 := am hc0_0
 clear hr0_0 hc0_0
 have HB := am (Below.refl w.heap.size w)
 have H : (spec_validTree.l0 k 0 l0_0) = some r := h
 clear h
 have H' := am H
 clear H
 go_enter Try.func86, Try.ntmps86
 go_wp2_with (first | ((with_reducible refine gate_dst (N := 1) rfl ?_); refine bE (N := 1) (cs := #[.slice A0_0 l0_0.length c0_0]) (t := 32) ?_; intro gb154 hg w2 hbox hb; have BK154 := am (hbox); have GW154 := am ((Y1 : w.heap.size ≤ gb154)); have GE154 := am ((Y1 : w.heap.size ≤ gb154)); replace HB := am (below_step (bq) hb); clear hb hbox hg))
 go_loopg [3] k (fun kq v3 w' => ∃ (x3_1 : Int), v3 = .int .i64 x3_1 ∧ Aside0 (spec_validTree.l0 kq x3_1 l0_0 = some r) ∧ Aside0 (kq ≤ k) ∧ Aside0 (w'.heap[gb154]? = some (.cells #[(.slice A0_0 l0_0.length c0_0)] 32 (0, 0))) ∧ Aside0 (Below w.heap.size w w'))
 case atStart => exact ⟨(0), (sq), H', ⟨Nat.le_refl _⟩, ⟨kq BK154.out⟩, ⟨Y40⟩⟩
 case round =>
  clear H'
  try clear c1
  try clear p2
  obtain ⟨x3_1, rfl, HA, HK1, BK154, HB⟩ := hrel
  cases gk with
  | zero => exact absurd HA.out (by simp [spec_validTree.l0])
  | succ k1 =>
   have H := HA.out
   clear HA
   simp only [spec_validTree.l0] at H
   by_cases c3 : x3_1 < (l0_0.length : Int)
   ·rw [if_pos c3] at H
    have c3b0 : decide (x3_1 < (l0_0.length : Int)) = true := decide_eq_true c3
    clear c3
    by_cases c4 : 0 ≤ x3_1
    ·rw [if_pos c4] at H
     have c4b0 : decide (0 ≤ x3_1) = true := decide_eq_true c4
     clear c4
     have HC5 := am H
     clear H
     have hcz6_0 := bc0 BK154.out
     have hfz6_0 := blk_frozen BK154.out 0
     have p156 : 0 ≤ (x3_1 : Int) := of_decide_eq_true (uq)
     have q156 : x3_1 < (l0_0.length : Int) := of_decide_eq_true (uq)
     obtain ⟨ad156, e156, hx156_0, hx156_1⟩ := at_T87 HR0_0.out x3_1 p156 q156
     cases e156
     replace hx156_0 := cb HB.out hx156_0
     replace hx156_1 := cb HB.out hx156_1
     replace p156 := eq_true p156
     replace q156 := eq_true q156
     go_upto_region 5 with (first | ((with_reducible refine gate_dst (N := 4) rfl ?_); refine bE (N := 4) (cs := #[.string (⟨#[]⟩ : ByteArray), .int .i64 0]) (t := 87) ?_; intro gb157 hg w7 hbox hb; have BK157 := am (hbox); have GW157 := am ((Y144 : w.heap.size ≤ gb157)); have GE157 := am ((Y144 : w.heap.size ≤ gb157)); have NB154_157 := am ((by rw [hg]; exact Nat.ne_of_lt (blk_lt (g := gb154) (o := .cells #[.slice (some ad156) l0_0.length c0_0] 32 (0, 0)) (kq BK154.out)) : gb154 ≠ gb157)); have NB157_154 := am ((by rw [hg]; exact Nat.ne_of_gt (blk_lt (g := gb154) (o := .cells #[.slice (some ad156) l0_0.length c0_0] 32 (0, 0)) (kq BK154.out)) : gb157 ≠ gb154)); replace BK154 := am (blk_below (g := gb154) (o := .cells #[.slice (some ad156) l0_0.length c0_0] 32 (0, 0)) (kq BK154.out) hb); replace HB := am (below_step (Y40) hb); clear hb hbox hg; have hnb8 := NB157_154.out; have hnc8 := NB154_157.out; have hcz9_0 := bc0 BK157.out; have hcz9_1 := bc1 BK157.out; have hfz9_0 := blk_frozen BK157.out 0; have hfz9_1 := blk_frozen BK157.out 1))
     (try simp only [Act.put, List.setIfInBounds_toArray, List.set_cons_zero, List.set_cons_succ])
     go_cut [51] (fun v51 wc => ∃ (kq : Nat) (x51_4 : Bool), v51 = .bool x51_4 ∧ Aside0 (spec_validTree.j1 kq x3_1 x51_4 l0_0 = some r) ∧ Aside0 (kq ≤ k1) ∧ Aside0 (wc.heap[gb154]? = some (.cells #[(.slice (some ad156) l0_0.length c0_0)] 32 (0, 0))) ∧ Aside0 (wc.heap[gb157]? = some (.cells #[.string ((rd_T87 l0_0 x3_1).f0), .int .i64 ((rd_T87 l0_0 x3_1).f1)] 87 (0, 0))) ∧ Aside0 (Below w.heap.size w wc))
     case first =>
      have n0_ : Aside0 (((w7.setCell ⟨gb157, 0, none⟩ (.string ((rd_T87 l0_0 x3_1).f0))).setCell ⟨gb157, 1, none⟩ (.int .i64 ((rd_T87 l0_0 x3_1).f1))).heap[gb154]? = some (.cells #[.slice (some ad156) l0_0.length c0_0] 32 (0, 0))) := ⟨by (with_reducible repeat (first | refine blk_drewN ?_ _ | refine blk_drew ?_ | refine blk_alloc ?_ _)); refine blk_far ?_ NB154_157.out _; (with_reducible repeat (first | refine blk_drewN ?_ _ | refine blk_drew ?_ | refine blk_alloc ?_ _)); refine blk_far ?_ NB154_157.out _; (with_reducible repeat (first | refine blk_drewN ?_ _ | refine blk_drew ?_ | refine blk_alloc ?_ _)); exact BK154.out⟩
      have n1_ : Aside0 (((w7.setCell ⟨gb157, 0, none⟩ (.string ((rd_T87 l0_0 x3_1).f0))).setCell ⟨gb157, 1, none⟩ (.int .i64 ((rd_T87 l0_0 x3_1).f1))).heap[gb157]? = some (.cells #[.string ((rd_T87 l0_0 x3_1).f0), .int .i64 ((rd_T87 l0_0 x3_1).f1)] 87 (0, 0))) := ⟨by (with_reducible repeat (first | refine blk_drewN ?_ _ | refine blk_drew ?_ | refine blk_alloc ?_ _)); refine blk_put (cs := #[.string ((rd_T87 l0_0 x3_1).f0), .int .i64 0]) ?_ 1 _ rfl; (with_reducible repeat (first | refine blk_drewN ?_ _ | refine blk_drew ?_ | refine blk_alloc ?_ _)); refine blk_put (cs := #[.string (⟨#[]⟩ : ByteArray), .int .i64 0]) ?_ 0 _ rfl; (with_reducible repeat (first | refine blk_drewN ?_ _ | refine blk_drew ?_ | refine blk_alloc ?_ _)); exact BK157.out⟩
      have n2_ : Aside0 (Below w.heap.size w ((w7.setCell ⟨gb157, 0, none⟩ (.string ((rd_T87 l0_0 x3_1).f0))).setCell ⟨gb157, 1, none⟩ (.int .i64 ((rd_T87 l0_0 x3_1).f1)))) := ⟨Y122⟩
      clear BK154 BK157 HB hcz9_0 hcz9_1 hfz9_0 hfz9_1
      generalize ((w7.setCell ⟨gb157, 0, none⟩ (.string ((rd_T87 l0_0 x3_1).f0))).setCell ⟨gb157, 1, none⟩ (.int .i64 ((rd_T87 l0_0 x3_1).f1))) = w16 at n0_ n1_ n2_ ⊢
      have BK154 := n0_
      have BK157 := n1_
      have HB := n2_
      clear n0_ n1_ n2_
      have HRW := am (Kd.C_below HR0_0.out HB.out)
      have e0 : w16.cell? ⟨gb157, 0, none⟩ = some (.string ((rd_T87 l0_0 x3_1).f0)) := (blk_cell BK157.out 0).trans rfl
      have e1 : w16.cell? ⟨gb157, 1, none⟩ = some (.int .i64 ((rd_T87 l0_0 x3_1).f1)) := (blk_cell BK157.out 1).trans rfl
      have e2 : w16.cell? ⟨gb154, 0, none⟩ = some (.slice (some ad156) l0_0.length c0_0) := (blk_cell BK154.out 0).trans rfl
      have H := HC5.out
      clear HC5
      obtain ⟨v, hv, H⟩ := Option.bind_eq_some_iff.mp H
      have HN := am (fun W => (spec_validName.calls k1 _ v W hv).mono fun e w' h => (⟨h.1, h.2.out⟩ : e = .returned (.bool v) ∧ ∃ m, w' = W.drewN m))
      clear hv hx156_0 hx156_1
      generalize hgx : rd_T87 l0_0 x3_1 = x at H e0 e1 HN BK157
      have HGX := am hgx
      clear hgx
      cases v with
      | false =>
       have H' := am (show spec_validTree.j1 k1 x3_1 true l0_0 = some r from H)
       clear H
       go_big_quiet ((go_at_call 108; exact Calls.quiet_of (HN.out _)))
       go_wp2
       go_meet
       case rel => exact ⟨_, _, rfl, H', ⟨by have := HK1.out; omega⟩, ⟨blk_drewN BK154.out _⟩, ⟨by rw [HGX.out]; exact blk_drewN BK157.out _⟩, ⟨pw_below_drewN HB.out _⟩⟩
      | true =>
       replace H : (if x3_1 ≤ (l0_0.length : Int) then ((spec_classNamed.f k1 (l0_0.take (x3_1 : Int).toNat) x.f0).bind fun t163 => (if t163 ≥ 0 then (spec_validTree.j1 k1 x3_1 true l0_0) else (if x3_1 = 0 then (if x.f1 = (-1) then (if x3_1 > 0 then ((spec_inRange.f x.f1 0 (wrap64 (x3_1 - 1))).bind fun t164 => (spec_validTree.j1 k1 x3_1 (!t164) l0_0)) else (spec_validTree.j1 k1 x3_1 false l0_0)) else (spec_validTree.j1 k1 x3_1 true l0_0)) else (if x3_1 > 0 then ((spec_inRange.f x.f1 0 (wrap64 (x3_1 - 1))).bind fun t165 => (spec_validTree.j1 k1 x3_1 (!t165) l0_0)) else (spec_validTree.j1 k1 x3_1 false l0_0))))) else (none)) = some r := H
       have hle : x3_1 ≤ (l0_0.length : Int) := by have := of_decide_eq_true c3b0; omega
       have h0 : 0 ≤ x3_1 := of_decide_eq_true c4b0
       rw [if_pos hle] at H
       obtain ⟨c, hc, H⟩ := Option.bind_eq_some_iff.mp H
       obtain ⟨i0, hi0, _, _, _⟩ := info_parts info87
       have hcut := cut_to (P := Try.prog) 30 87 .i64 Try.underlying30 hi0 (some ad156) l0_0.length c0_0 x3_1 h0 hle HC0_0.out
       have hr18 := Kd.C_take (m := (x3_1 : Int).toNat) HRW.out (by omega)
       obtain ⟨y, hy⟩ : ∃ y : List S87, y = l0_0.take (x3_1 : Int).toNat := ⟨_, rfl⟩
       have hyl : y.length = (x3_1 : Int).toNat := by rw [hy, List.length_take]; omega
       have hyc : y.length ≤ c0_0 := by have := HC0_0.out; omega
       rw [← hy] at hr18
       rw [← hyl] at hcut
       rw [← hy] at hc
       have HCN := am (fun m => (spec_classNamed.calls k1 _ _ y x.f0 c (w16.drewN m) (Kd.C_drewN hr18 m) hyc hc).mono fun e w' h => (⟨h.1, h.2.out⟩ : e = .returned (.int .i64 c) ∧ ∃ m', w' = (w16.drewN m).drewN m'))
       clear hr18 hc hy hyl hyc
       have b0 := eq_true h0
       have b1 := eq_true hle
       by_cases hc0 : c ≥ 0
       ·rw [if_pos hc0] at H
        have b2 : decide (0 ≤ c) = true := decide_eq_true hc0
        have H' := am H
        clear H hc0 h0 hle
        go_big_quiet (first | (go_at_call 108; exact Calls.quiet_of (HN.out _)) | (go_at_call 109; exact Calls.quiet_of (HCN.out _)))
        go_wp2
        go_meet
        case rel => exact ⟨_, _, rfl, H', ⟨by have := HK1.out; omega⟩, ⟨blk_drewN BK154.out _⟩, ⟨by rw [HGX.out]; exact blk_drewN BK157.out _⟩, ⟨pw_below_drewN HB.out _⟩⟩
       ·rw [if_neg hc0] at H
        have b2 : decide (0 ≤ c) = false := decide_eq_false hc0
        clear hc0
        by_cases hz : x3_1 = 0
        ·rw [if_pos hz] at H
         have b3 : (x3_1 == 0) = true := beq_iff_eq.2 hz
         have b4 : decide (0 < x3_1) = false := decide_eq_false (by omega)
         by_cases hf : x.f1 = -1
         ·rw [if_pos hf, if_neg (by omega)] at H
          have b5 : (x.f1 != -1) = false := by simpa using hf
          have H' := am H
          clear H hf h0 hle hz
          go_big_quiet (first | (go_at_call 108; exact Calls.quiet_of (HN.out _)) | (go_at_call 109; exact Calls.quiet_of (HCN.out _)))
          go_wp2
          go_meet
          case rel => exact ⟨_, _, rfl, H', ⟨by have := HK1.out; omega⟩, ⟨blk_drewN BK154.out _⟩, ⟨by rw [HGX.out]; exact blk_drewN BK157.out _⟩, ⟨pw_below_drewN HB.out _⟩⟩
         ·rw [if_neg hf] at H
          have b5 : (x.f1 != -1) = true := by simpa using hf
          have H' := am H
          clear H hf h0 hle hz
          go_big_quiet (first | (go_at_call 108; exact Calls.quiet_of (HN.out _)) | (go_at_call 109; exact Calls.quiet_of (HCN.out _)))
          go_wp2
          go_meet
          case rel => exact ⟨_, _, rfl, H', ⟨by have := HK1.out; omega⟩, ⟨blk_drewN BK154.out _⟩, ⟨by rw [HGX.out]; exact blk_drewN BK157.out _⟩, ⟨pw_below_drewN HB.out _⟩⟩
        ·rw [if_neg hz, if_pos (by omega)] at H
         have b3 : (x3_1 == 0) = false := beq_eq_false_iff_ne.2 hz
         have b4 : decide (0 < x3_1) = true := decide_eq_true (by omega)
         obtain ⟨t, ht, H⟩ := Option.bind_eq_some_iff.mp H
         have H' := am H
         have HI := am (fun W => (spec_inRange.calls _ _ _ t W ht).mono fun e w' h => (⟨h.1, h.2.out⟩ : e = .returned (.bool t) ∧ ∃ m, w' = W.drewN m))
         clear H ht h0 hle hz
         go_big_quiet (first | (go_at_call 108; exact Calls.quiet_of (HN.out _)) | (go_at_call 109; exact Calls.quiet_of (HCN.out _)) | (go_at_call 92; exact Calls.quiet_of (HI.out _)))
         go_wp2
         go_meet
         case rel => exact ⟨_, _, rfl, H', ⟨by have := HK1.out; omega⟩, ⟨blk_drewN BK154.out _⟩, ⟨by rw [HGX.out]; exact blk_drewN BK157.out _⟩, ⟨pw_below_drewN HB.out _⟩⟩
     case rest =>
      clear HC5
      try clear c1
      try clear c2
      try clear p2
      try clear c3
      try clear q3
      try clear p6
      try clear c11
      try clear c12
      try clear c13
      try clear c21
      try clear c32
      try clear c32b0
      try clear q39
      try clear q39
      obtain ⟨kq, x51_4, rfl, HA, HJ4, BK154, BK157, HB⟩ := hcut
      cases kq with
      | zero => exact absurd HA.out (by simp [spec_validTree.j1])
      | succ kj4 =>
       have H := HA.out
       clear HA
       simp only [spec_validTree.j1] at H
       by_cases c42 : x51_4 = true
       ·subst c42
        have H1 : (some false) = some r := by rw [if_pos rfl] at H; exact H
        clear H
        have H := H1
        clear H1
        obtain rfl := Option.some.inj H
        go_wp2
        go_ret
        exact ⟨Y0, Y122⟩
       ·replace c42 := Bool.eq_false_iff.mpr c42
        subst c42
        have H1 : (spec_validTree.l0 kj4 (wrap64 (x3_1 + 1)) l0_0) = some r := by rw [if_neg (show ¬ (false = true) by decide)] at H; exact H
        clear H
        have H := H1
        clear H1
        have H' := am H
        clear H
        go_wp2
        go_roundg kj4
        case measure => have := HK1.out; have := HJ4.out; omega
        case rel => exact ⟨(wrap64 (x3_1 + 1)), (sq), H', ⟨by have := HK1.out; have := HJ4.out; omega⟩, ⟨kq BK154.out⟩, ⟨Y122⟩⟩
    ·rw [if_neg c4] at H
     exact absurd H (by simp)
   ·rw [if_neg c3] at H
    have c3b0 : decide (x3_1 < (l0_0.length : Int)) = false := decide_eq_false c3
    clear c3
    replace H := Option.bind_eq_some_iff.mp H
    obtain ⟨t155, A430, H⟩ := H
    replace H : (some t155) = some r := H
    have A43 := am A430
    clear A430
    obtain rfl := Option.some.inj H
    have hcz44_0 := bc0 BK154.out
    have hfz44_0 := blk_frozen BK154.out 0
    go_wp2_with (first | ((with_reducible refine gate_callee (f := 92) rfl ?_); refine gL (some 55) Try.func92 #[.int .i64 (l0_0.length : Int), .int .i64 1, .int .i64 8] ?_; (with_reducible refine (spec_inRange.calls (l0_0.length : Int) 1 8 t155 _ A43.out).mono ?_); rintro e w' ⟨rfl, ⟨nd, rfl⟩⟩; refine ⟨_, rfl, ?_⟩))
    go_ret
    exact ⟨Y0, Y40⟩
def spec_validProgram.l0 : Nat → List (S52) → Int → List (S87) → Option (Bool)
 | 0, _, _, _ => none
 | k + 1, x1, x5, x155000 => if x5 < (x1.length : Int) then ((spec_validLine.f k x155000 x1 x5).bind fun t156 => (if t156 = true then (spec_validProgram.l0 k x1 (wrap64 (x5 + 1)) x155000) else (some false))) else ((spec_validTree.f k x155000).bind fun t155 => (if t155 = true then (some (decide ((x1.length : Int) ≤ 24))) else (some false)))
def spec_validProgram.f (k : Nat) (l0_0 : List (S87)) (l1 : List (S52)) : Option (Bool) := spec_validProgram.l0 k l1 0 l0_0
set_option maxHeartbeats 8000000 in
set_option maxRecDepth 100000 in
theorem spec_validProgram.calls (k : Nat) (A0_0 : Option Addr) (c0_0 : Nat) (l0_0 : List (S87)) (A1 : Option Addr) (c1 : Nat) (l1 : List (S52)) (r : Bool) (w : World) (hr0_0 : Kd.C k87 w A0_0 l0_0.length l0_0) (hc0_0 : l0_0.length ≤ c0_0) (hr1 : Kd.C k52 w A1 l1.length l1) (hc1 : l1.length ≤ c1) (h : spec_validProgram.f k l0_0 l1 = some r) :
  Calls Try.prog 55 #[.agg #[.slice A0_0 l0_0.length c0_0], .slice A1 l1.length c1] w fun e w' => e = .returned (.bool r) ∧ Below w.heap.size w w' := by
 have hu32 := Try.underlying32
 have HR0_0 := am hr0_0
 have HC0_0 := am hc0_0
 clear hr0_0 hc0_0
 have HR1 := am hr1
 have HC1 := am hc1
 clear hr1 hc1
 have HB := am (Below.refl w.heap.size w)
 have H : (spec_validProgram.l0 k l1 0 l0_0) = some r := h
 clear h
 have H' := am H
 clear H
 go_enter Try.func55, Try.ntmps55
 go_wp2_with (first | ((with_reducible refine gate_dst (N := 2) rfl ?_); (try (refine gate_guard (by rfl) ?_; dsimp only)); refine box_event ?hg (N := 2) ?hd (cs := #[.slice A0_0 l0_0.length c0_0]) (t := 32) ?hr ?_; (case hd => rfl); (case hg => rfl); (case hr => exact Y5); intro gb154 hg w3 hbox hb; have BK154 := am (hbox); have GW154 := am ((Y1 : w.heap.size ≤ gb154)); have GE154 := am ((Y1 : w.heap.size ≤ gb154)); replace HB := am (below_step (bq) hb); clear hb hbox hg))
 go_loopg [5] k (fun kq v5 w' => ∃ (x5_1 : Int), v5 = .int .i64 x5_1 ∧ Aside0 (spec_validProgram.l0 kq l1 x5_1 l0_0 = some r) ∧ Aside0 (kq ≤ k) ∧ Aside0 (w'.heap[gb154]? = some (.cells #[(.slice A0_0 l0_0.length c0_0)] 32 (0, 0))) ∧ Aside0 (Below w.heap.size w w'))
 case atStart => exact ⟨(0), (sq), H', ⟨Nat.le_refl _⟩, ⟨kq BK154.out⟩, ⟨Y40⟩⟩
 case round =>
  clear H'
  try clear c1
  try clear p2
  obtain ⟨x5_1, rfl, HA, HK1, BK154, HB⟩ := hrel
  cases gk with
  | zero => exact absurd HA.out (by simp [spec_validProgram.l0])
  | succ k1 =>
   have H := HA.out
   clear HA
   simp only [spec_validProgram.l0] at H
   by_cases c4 : x5_1 < (l1.length : Int)
   ·rw [if_pos c4] at H
    have c4b0 : decide (x5_1 < (l1.length : Int)) = true := decide_eq_true c4
    clear c4
    replace H := Option.bind_eq_some_iff.mp H
    obtain ⟨t156, A50, H⟩ := H
    replace H : (if t156 = true then (spec_validProgram.l0 k1 l1 (wrap64 (x5_1 + 1)) l0_0) else (some false)) = some r := H
    have A5 := am A50
    clear A50
    by_cases c6 : t156 = true
    ·subst c6
     have H1 : (spec_validProgram.l0 k1 l1 (wrap64 (x5_1 + 1)) l0_0) = some r := by rw [if_pos rfl] at H; exact H
     clear H
     have H := H1
     clear H1
     have H' := am H
     clear H
     have hcz7_0 := bc0 BK154.out
     have hfz7_0 := blk_frozen BK154.out 0
     go_wp2_with (first | ((with_reducible refine gate_callee (f := 85) rfl ?_); refine gL (some 15) Try.func85 #[.agg #[.slice A0_0 l0_0.length c0_0], .slice A1 l1.length c1, .int .i64 x5_1] ?_; (with_reducible refine (spec_validLine.calls k1 _ _ l0_0 _ _ l1 x5_1 true _ ?side1 ?side2 ?side3 ?side4 A5.out).mono ?_); (case side1 => exact cq (Kd.C_below HR0_0.out HB.out)); (case side2 => exact HC0_0.out); (case side3 => exact cq (Kd.C_below HR1.out HB.out)); (case side4 => exact HC1.out); rintro e w8 ⟨rfl, hb⟩; refine ⟨_, rfl, ?_⟩; replace BK154 := am (blk_below (g := gb154) (o := .cells #[.slice A0_0 l0_0.length c0_0] 32 (0, 0)) (kq BK154.out) hb); replace HB := am (below_step (Y40) hb); (try clear hb); (try clear hb2); (try clear hk); (try clear hi)))
     go_roundg k1
     case measure => have := HK1.out; omega
     case rel => exact ⟨(wrap64 (x5_1 + 1)), (sq), H', ⟨by have := HK1.out; omega⟩, ⟨kq BK154.out⟩, ⟨Y40⟩⟩
    ·replace c6 := Bool.eq_false_iff.mpr c6
     subst c6
     have H1 : (some false) = some r := by rw [if_neg (show ¬ (false = true) by decide)] at H; exact H
     clear H
     have H := H1
     clear H1
     obtain rfl := Option.some.inj H
     have hcz9_0 := bc0 BK154.out
     have hfz9_0 := blk_frozen BK154.out 0
     go_wp2_with (first | ((with_reducible refine gate_callee (f := 85) rfl ?_); refine gL (some 15) Try.func85 #[.agg #[.slice A0_0 l0_0.length c0_0], .slice A1 l1.length c1, .int .i64 x5_1] ?_; (with_reducible refine (spec_validLine.calls k1 _ _ l0_0 _ _ l1 x5_1 false _ ?side1 ?side2 ?side3 ?side4 A5.out).mono ?_); (case side1 => exact cq (Kd.C_below HR0_0.out HB.out)); (case side2 => exact HC0_0.out); (case side3 => exact cq (Kd.C_below HR1.out HB.out)); (case side4 => exact HC1.out); rintro e w10 ⟨rfl, hb⟩; refine ⟨_, rfl, ?_⟩; replace BK154 := am (blk_below (g := gb154) (o := .cells #[.slice A0_0 l0_0.length c0_0] 32 (0, 0)) (kq BK154.out) hb); replace HB := am (below_step (Y40) hb); (try clear hb); (try clear hb2); (try clear hk); (try clear hi)))
     go_ret
     exact ⟨Y0, Y40⟩
   ·rw [if_neg c4] at H
    have c4b0 : decide (x5_1 < (l1.length : Int)) = false := decide_eq_false c4
    clear c4
    replace H := Option.bind_eq_some_iff.mp H
    obtain ⟨t155, A110, H⟩ := H
    replace H : (if t155 = true then (some (decide ((l1.length : Int) ≤ 24))) else (some false)) = some r := H
    have A11 := am A110
    clear A110
    by_cases c12 : t155 = true
    ·subst c12
     have H1 : (some (decide ((l1.length : Int) ≤ 24))) = some r := by rw [if_pos rfl] at H; exact H
     clear H
     have H := H1
     clear H1
     obtain rfl := Option.some.inj H
     have hcz13_0 := bc0 BK154.out
     have hfz13_0 := blk_frozen BK154.out 0
     go_wp2_with (first | ((with_reducible refine gate_callee (f := 86) rfl ?_); refine gL (some 18) Try.func86 #[.agg #[.slice A0_0 l0_0.length c0_0]] ?_; (with_reducible refine (spec_validTree.calls k1 _ _ l0_0 true _ ?side1 ?side2 A11.out).mono ?_); (case side1 => exact cq (Kd.C_below HR0_0.out HB.out)); (case side2 => exact HC0_0.out); rintro e w14 ⟨rfl, hb⟩; refine ⟨_, rfl, ?_⟩; replace BK154 := am (blk_below (g := gb154) (o := .cells #[.slice A0_0 l0_0.length c0_0] 32 (0, 0)) (kq BK154.out) hb); replace HB := am (below_step (Y40) hb); (try clear hb); (try clear hb2); (try clear hk); (try clear hi)))
     go_ret
     exact ⟨Y0, Y40⟩
    ·replace c12 := Bool.eq_false_iff.mpr c12
     subst c12
     have H1 : (some false) = some r := by rw [if_neg (show ¬ (false = true) by decide)] at H; exact H
     clear H
     have H := H1
     clear H1
     obtain rfl := Option.some.inj H
     have hcz15_0 := bc0 BK154.out
     have hfz15_0 := blk_frozen BK154.out 0
     go_wp2_with (first | ((with_reducible refine gate_callee (f := 86) rfl ?_); refine gL (some 18) Try.func86 #[.agg #[.slice A0_0 l0_0.length c0_0]] ?_; (with_reducible refine (spec_validTree.calls k1 _ _ l0_0 false _ ?side1 ?side2 A11.out).mono ?_); (case side1 => exact cq (Kd.C_below HR0_0.out HB.out)); (case side2 => exact HC0_0.out); rintro e w16 ⟨rfl, hb⟩; refine ⟨_, rfl, ?_⟩; replace BK154 := am (blk_below (g := gb154) (o := .cells #[.slice A0_0 l0_0.length c0_0] 32 (0, 0)) (kq BK154.out) hb); replace HB := am (below_step (Y40) hb); (try clear hb); (try clear hb2); (try clear hk); (try clear hi)))
     go_ret
     exact ⟨Y0, Y40⟩
def impl_within.f (a0 : Int) (a1 : Int) (a2 : Int) : Option (Bool) := if a0 ≥ a1 then (some (decide (a0 ≤ a2))) else (some false)
set_option maxHeartbeats 8000000 in
set_option maxRecDepth 100000 in
theorem impl_within.calls (a0 : Int) (a1 : Int) (a2 : Int) (r : Bool) (w : World) (h : impl_within.f a0 a1 a2 = some r) :
  Calls Try.prog 66 #[.int .i64 a0, .int .i64 a1, .int .i64 a2] w fun e w' => e = .returned (.bool r) ∧ Drawn0 w w' := by
 have H : (if a0 ≥ a1 then (some (decide (a0 ≤ a2))) else (some false)) = some r := h
 clear h
 by_cases c4 : a0 ≥ a1
 ·rw [if_pos c4] at H
  have c4b0 : decide (a1 ≤ a0) = true := decide_eq_true c4
  clear c4
  obtain rfl := Option.some.inj H
  go_enter Try.func66, Try.ntmps66
  go_wp2
  go_ret
  exact ⟨sq, Y4⟩
 ·rw [if_neg c4] at H
  have c4b0 : decide (a1 ≤ a0) = false := decide_eq_false c4
  clear c4
  obtain rfl := Option.some.inj H
  go_enter Try.func66, Try.ntmps66
  go_wp2
  go_ret
  exact ⟨sq, Y4⟩
def impl_nameOk.l0 : Nat → ByteArray → Int → Int → Option (Bool)
 | 0, _, _, _ => none
 | k + 1, x0, x5, x6 => if x6 < x5 then (if 0 ≤ x6 then (if x6 < (x0.size : Int) then (if (bt x0 x6) < 97 then (some false) else (if (bt x0 x6) > 122 then (some false) else (impl_nameOk.l0 k x0 x5 (wrap64 (x6 + 1))))) else (none)) else (none)) else ((impl_within.f (x0.size : Int) 1 6).bind fun t267 => (some t267))
def impl_nameOk.f (k : Nat) (a0 : ByteArray) : Option (Bool) := impl_nameOk.l0 k a0 (a0.size : Int) 0
set_option maxHeartbeats 8000000 in
set_option maxRecDepth 100000 in
theorem impl_nameOk.calls (k : Nat) (a0 : ByteArray) (r : Bool) (w : World) (h : impl_nameOk.f k a0 = some r) :
  Calls Try.prog 93 #[.string a0] w fun e w' => e = .returned (.bool r) ∧ Drawn0 w w' := by
 have H : (impl_nameOk.l0 k a0 (a0.size : Int) 0) = some r := h
 clear h
 have H' := am H
 clear H
 go_enter Try.func93, Try.ntmps93
 go_wp2
 go_loopg [6] k (fun kq v6 w' => ∃ (x6_1 : Int), v6 = .int .i64 x6_1 ∧ Aside0 (impl_nameOk.l0 kq a0 (a0.size : Int) x6_1 = some r) ∧ Aside0 (kq ≤ k) ∧ Drawn0 w w')
 case atStart => exact ⟨(0), (sq), H', ⟨Nat.le_refl _⟩, Y4⟩
 case round =>
  clear H'
  obtain ⟨x6_1, rfl, HA, HK1, ⟨m1, rfl⟩⟩ := hrel
  cases gk with
  | zero => exact absurd HA.out (by simp [impl_nameOk.l0])
  | succ k1 =>
   have H := HA.out
   clear HA
   simp only [impl_nameOk.l0] at H
   by_cases c2 : x6_1 < (a0.size : Int)
   ·rw [if_pos c2] at H
    have c2b0 : decide (x6_1 < (a0.size : Int)) = true := decide_eq_true c2
    clear c2
    by_cases c3 : 0 ≤ x6_1
    ·rw [if_pos c3] at H
     have c3b0 : decide (0 ≤ x6_1) = true := decide_eq_true c3
     clear c3
     by_cases c4 : x6_1 < (a0.size : Int)
     ·rw [if_pos c4] at H
      have c4b0 : decide (x6_1 < (a0.size : Int)) = true := decide_eq_true c4
      clear c4
      by_cases c6 : (bt a0 x6_1) < 97
      ·rw [if_pos c6] at H
       have c6b0 : decide ((bt a0 x6_1) < 97) = true := decide_eq_true c6
       clear c6
       obtain rfl := Option.some.inj H
       have p5 : 0 ≤ (x6_1 : Int) := of_decide_eq_true (uq)
       have q5 : x6_1 < (a0.size : Int) := of_decide_eq_true (uq)
       have hx5 := bt_at a0 x6_1
       replace p5 := eq_true p5
       replace q5 := eq_true q5
       go_wp2
       go_ret
       exact ⟨sq, Y4⟩
      ·rw [if_neg c6] at H
       have c6b0 : decide ((bt a0 x6_1) < 97) = false := decide_eq_false c6
       clear c6
       by_cases c8 : (bt a0 x6_1) > 122
       ·rw [if_pos c8] at H
        have c8b0 : decide (122 < (bt a0 x6_1)) = true := decide_eq_true c8
        clear c8
        obtain rfl := Option.some.inj H
        have p5 : 0 ≤ (x6_1 : Int) := of_decide_eq_true (uq)
        have q5 : x6_1 < (a0.size : Int) := of_decide_eq_true (uq)
        have hx5 := bt_at a0 x6_1
        replace p5 := eq_true p5
        replace q5 := eq_true q5
        have p7 : 0 ≤ (x6_1 : Int) := of_decide_eq_true (uq)
        have q7 : x6_1 < (a0.size : Int) := of_decide_eq_true (uq)
        have hx7 := bt_at a0 x6_1
        replace p7 := eq_true p7
        replace q7 := eq_true q7
        go_wp2
        go_ret
        exact ⟨sq, Y4⟩
       ·rw [if_neg c8] at H
        have c8b0 : decide (122 < (bt a0 x6_1)) = false := decide_eq_false c8
        clear c8
        have H' := am H
        clear H
        have p5 : 0 ≤ (x6_1 : Int) := of_decide_eq_true (uq)
        have q5 : x6_1 < (a0.size : Int) := of_decide_eq_true (uq)
        have hx5 := bt_at a0 x6_1
        replace p5 := eq_true p5
        replace q5 := eq_true q5
        have p7 : 0 ≤ (x6_1 : Int) := of_decide_eq_true (uq)
        have q7 : x6_1 < (a0.size : Int) := of_decide_eq_true (uq)
        have hx7 := bt_at a0 x6_1
        replace p7 := eq_true p7
        replace q7 := eq_true q7
        go_wp2
        go_roundg k1
        case measure => have := HK1.out; omega
        case rel => exact ⟨(wrap64 (x6_1 + 1)), (sq), H', ⟨by have := HK1.out; omega⟩, Y4⟩
     ·rw [if_neg c4] at H
      exact absurd H (by simp)
    ·rw [if_neg c3] at H
     exact absurd H (by simp)
   ·rw [if_neg c2] at H
    have c2b0 : decide (x6_1 < (a0.size : Int)) = false := decide_eq_false c2
    clear c2
    replace H := Option.bind_eq_some_iff.mp H
    obtain ⟨t267, A90, H⟩ := H
    replace H : (some t267) = some r := H
    have A9 := am A90
    clear A90
    obtain rfl := Option.some.inj H
    go_wp2_with (first | ((with_reducible refine gate_callee (f := 66) rfl ?_); refine gL (some 22) Try.func66 #[.int .i64 (a0.size : Int), .int .i64 1, .int .i64 6] ?_; (with_reducible refine (impl_within.calls (a0.size : Int) 1 6 t267 _ A9.out).mono ?_); rintro e w' ⟨rfl, ⟨nd, rfl⟩⟩; refine ⟨_, rfl, ?_⟩))
    go_ret
    exact ⟨sq, Y4⟩

theorem impl_named1_calls (a b : ByteArray) (p : Int) (B : Nat) (w : World) (hB : B < w.heap.size) (hc : w.cell? ⟨B, 0, none⟩ = some (.string b)) :
  Calls Try.prog 113 #[.agg #[.string a, .int .i64 p], .pointer (some ⟨B, 0, none⟩)] w fun e w' => e = .returned (.bool (a.toList == b.toList)) ∧ Below w.heap.size w w' := by
 have hne : B ≠ w.heap.size := by omega
 go_enter Try.func113, Try.ntmps113
 go_wp2
 go_ret
 exact ⟨rfl, (Below.refl _ _).alloc (Nat.le_refl _) _⟩
set_option maxHeartbeats 8000000 in
set_option maxRecDepth 100000 in
theorem impl_named_idx (A_ : Option Addr) (c_ : Nat) (l : List (S87)) (B0_ : Nat) (p : S87 → Option Bool) (r : Int) (w : World) (hr : Kd.C k87 w A_ l.length l) (h : idxFrom p l 0 = some r)
  (hp : ∀ W, Below w.heap.size w W → ∀ (x : S87) (b : Bool), p x = some b → Calls Try.prog 113 #[.agg #[.string x.f0, .int .i64 x.f1], .pointer (some ⟨B0_, 0, none⟩)] W fun e w' => e = .returned (.bool b) ∧ Below W.heap.size W w') :
  Calls Try.prog 112 #[.slice A_ l.length c_, .func (.func 113) #[] #[.pointer (some ⟨B0_, 0, none⟩)]] w fun e w' => e = .returned (.int .i64 r) ∧ Below w.heap.size w w' := by
 have hm : l.length ≤ 9223372036854775807 := Kd.C_max hr
 have HR := am hr
 have HP := am hp
 have H0 := am h
 clear hr hp h
 go_enter Try.func112, Try.ntmps112
 go_wp2
 go_loopw [5, 8] (fun i5 i8 wr => ∃ k : Nat, k ≤ l.length ∧ i8 = .int .i64 k ∧ Aside0 (idxFrom p (l.drop k) k = some r) ∧ Below w.heap.size w wr) (fun _ i8 _ => l.length - (intOf i8).toNat)
 case atStart => exact ⟨0, Nat.zero_le _, rfl, H0, Below.refl _ _⟩
 case round =>
  clear H0
  obtain ⟨k, hk, rfl, HA, hb⟩ := hrel
  by_cases hlt : k < l.length
  ·have HB := am (idxFrom_step hlt HA.out)
   clear HA
   obtain ⟨ad, rfl, hx0, hx1⟩ := at_T87 HR.out (k : Int) (by omega) (by omega)
   have hrd : rd_T87 l (k : Int) = l[k] := by simp [rd_T87, List.getD_eq_getElem?_getD, hlt]
   replace hx0 := pw_cell_below hb hx0
   replace hx1 := pw_cell_below hb hx1
   rw [hrd] at hx0 hx1
   simp only [Int.toNat_natCast] at hx0 hx1
   clear hrd
   obtain ⟨b, hb1, hb0⟩ := HB.out
   have HQ := am hb1
   clear hb1 HB
   cases b with
   | true =>
    have HZ := am (by simpa using hb0 : (k : Int) = r)
    clear hb0
    go_wp2_with (go_at_call 113; refine (HP.out _ hb _ _ HQ.out).mono ?_; rintro e w' ⟨rfl, hb2⟩)
    go_ret
    exact ⟨by rw [← HZ.out]; rfl, below_then hb hb.size hb2⟩
   | false =>
    have HZ := am (by simpa using hb0 : idxFrom p (l.drop (k + 1)) (k + 1) = some r)
    clear hb0
    go_wp2_with (go_at_call 113; refine (HP.out _ hb _ _ HQ.out).mono ?_; rintro e w' ⟨rfl, hb2⟩)
    go_roundw
    case rel => exact ⟨k + 1, hlt, by go_num, HZ, below_then hb hb.size hb2⟩
    case measure => simp [intOf]; omega
  ·have HZ := am (idxFrom_end (by omega) HA.out)
   clear HA
   go_wp2
   go_ret
   exact ⟨by rw [HZ.out]; rfl, hb⟩
def impl_Tree_named.f (l0_0 : List S87) (a1 : ByteArray) : Option Int := idxFrom (fun x : S87 => some (x.f0.toList == a1.toList)) l0_0 0
set_option maxHeartbeats 8000000 in
set_option maxRecDepth 100000 in
theorem impl_Tree_named.calls (A0_0 : Option Addr) (c0_0 : Nat) (l0_0 : List (S87)) (a1 : ByteArray) (r : Int) (w : World) (hr0_0 : Kd.C k87 w A0_0 l0_0.length l0_0) (hc0_0 : l0_0.length ≤ c0_0) (h : impl_Tree_named.f l0_0 a1 = some r) :
  Calls Try.prog 94 #[.agg #[.slice A0_0 l0_0.length c0_0], .string a1] w fun e w' => e = .returned (.int .i64 r) ∧ Below w.heap.size w w' := by
 have hu32 := Try.underlying32
 have HF := am (fun W (hb : Below w.heap.size w W) (B : Nat) (hB : B < W.heap.size) (hc : W.cell? ⟨B, 0, none⟩ = some (.string a1)) => impl_named_idx A0_0 c0_0 l0_0 B (fun x : S87 => some (x.f0.toList == a1.toList)) r W (Kd.C_below hr0_0 hb) h (fun W' hb' x b hx => by
  obtain rfl := Option.some.inj hx
  exact impl_named1_calls x.f0 a1 x.f1 B W' (Nat.lt_of_lt_of_le hB hb'.size) (pw_cell_below hb' hc)))
 clear h hr0_0
 go_enter Try.func94, Try.ntmps94
 go_wp2_with (go_at_call 112; refine (HF.out _ (((Below.refl _ _).alloc (Nat.le_refl _) _).alloc (by simp) _) _ (by simp) (by simp)).mono ?_; rintro e w' ⟨rfl, hb2⟩)
 go_ret
 exact ⟨rfl, (((Below.refl _ _).alloc (Nat.le_refl _) _).alloc (by simp) _).trans (hb2.mono (by simp; omega))⟩
mutual
def impl_ValidTree.l0 : Nat → List (S87) → Int → Int → List (S87) → Option (Bool)
 | 0, _, _, _, _ => none
 | k + 1, x6, x7, x8, x269000 => if x8 < x7 then (if 0 ≤ x8 then (if x8 < (x6.length : Int) then ((impl_nameOk.f k ((rd_T87 x6 x8).f0)).bind fun t272 => (if t272 = true then ((impl_Tree_named.f x269000 ((rd_T87 x6 x8).f0)).bind fun t273 => (if t273 = x8 then (if x8 = 0 then (if ((rd_T87 x6 x8).f1) = (-1) then (if x8 > 0 then ((impl_within.f ((rd_T87 x6 x8).f1) 0 (wrap64 (x8 - 1))).bind fun t274 => (impl_ValidTree.j1 k x6 x7 x8 (!t274) x269000)) else (impl_ValidTree.j1 k x6 x7 x8 false x269000)) else (impl_ValidTree.j1 k x6 x7 x8 true x269000)) else (if x8 > 0 then ((impl_within.f ((rd_T87 x6 x8).f1) 0 (wrap64 (x8 - 1))).bind fun t275 => (impl_ValidTree.j1 k x6 x7 x8 (!t275) x269000)) else (impl_ValidTree.j1 k x6 x7 x8 false x269000))) else (impl_ValidTree.j1 k x6 x7 x8 true x269000))) else (impl_ValidTree.j1 k x6 x7 x8 true x269000))) else (none)) else (none)) else ((impl_within.f (x269000.length : Int) 1 8).bind fun t269 => (some t269))
def impl_ValidTree.j1 : Nat → List (S87) → Int → Int → Bool → List (S87) → Option (Bool)
 | 0, _, _, _, _, _ => none
 | k + 1, x6, x7, x8, x45, x269000 => if x45 = true then (some false) else (impl_ValidTree.l0 k x6 x7 (wrap64 (x8 + 1)) x269000)
end
def impl_ValidTree.f (k : Nat) (l0_0 : List (S87)) : Option (Bool) := impl_ValidTree.l0 k l0_0 (l0_0.length : Int) 0 l0_0
set_option maxHeartbeats 8000000 in
set_option maxRecDepth 100000 in
theorem impl_ValidTree.calls (k : Nat) (A0_0 : Option Addr) (c0_0 : Nat) (l0_0 : List (S87)) (r : Bool) (w : World) (hr0_0 : Kd.C k87 w A0_0 l0_0.length l0_0) (hc0_0 : l0_0.length ≤ c0_0) (h : impl_ValidTree.f k l0_0 = some r) :
  Calls Try.prog 64 #[.agg #[.slice A0_0 l0_0.length c0_0]] w fun e w' => e = .returned (.bool r) ∧ Below w.heap.size w w' := by
 have hu32 := Try.underlying32
 have hu87 := Try.underlying87
 have HR0_0 := am hr0_0
 have HC0_0 := am hc0_0
 clear hr0_0 hc0_0
 have HB := am (Below.refl w.heap.size w)
 have H : (impl_ValidTree.l0 k l0_0 (l0_0.length : Int) 0 l0_0) = some r := h
 clear h
 have H' := am H
 clear H
 go_enter Try.func64, Try.ntmps64
 go_wp2_with (first | ((with_reducible refine gate_dst (N := 1) rfl ?_); refine bE (N := 1) (cs := #[.slice A0_0 l0_0.length c0_0]) (t := 32) ?_; intro gb268 hg w2 hbox hb; have BK268 := am (hbox); have GW268 := am ((Y1 : w.heap.size ≤ gb268)); have GE268 := am ((Y1 : w.heap.size ≤ gb268)); replace HB := am (below_step (bq) hb); clear hb hbox hg; have hcz3_0 := bc0 BK268.out; have hfz3_0 := blk_frozen BK268.out 0))
 go_loopg [8] k (fun kq v8 w' => ∃ (x8_1 : Int), v8 = .int .i64 x8_1 ∧ Aside0 (impl_ValidTree.l0 kq l0_0 (l0_0.length : Int) x8_1 l0_0 = some r) ∧ Aside0 (kq ≤ k) ∧ Aside0 (w'.heap[gb268]? = some (.cells #[(.slice A0_0 l0_0.length c0_0)] 32 (0, 0))) ∧ Aside0 (Below w.heap.size w w'))
 case atStart => exact ⟨(0), (sq), H', ⟨Nat.le_refl _⟩, ⟨kq BK268.out⟩, ⟨Y124⟩⟩
 case round =>
  clear H'
  try clear p2
  try clear hcz3_0
  try clear hfz3_0
  obtain ⟨x8_1, rfl, HA, HK1, BK268, HB⟩ := hrel
  cases gk with
  | zero => exact absurd HA.out (by simp [impl_ValidTree.l0])
  | succ k1 =>
   have H := HA.out
   clear HA
   simp only [impl_ValidTree.l0] at H
   by_cases c4 : x8_1 < (l0_0.length : Int)
   ·rw [if_pos c4] at H
    have c4b0 : decide (x8_1 < (l0_0.length : Int)) = true := decide_eq_true c4
    clear c4
    by_cases c5 : 0 ≤ x8_1
    ·rw [if_pos c5] at H
     have c5b0 : decide (0 ≤ x8_1) = true := decide_eq_true c5
     clear c5
     by_cases c6 : x8_1 < (l0_0.length : Int)
     ·rw [if_pos c6] at H
      have c6b0 : decide (x8_1 < (l0_0.length : Int)) = true := decide_eq_true c6
      clear c6
      have HC7 := am H
      clear H
      have p270 : 0 ≤ (x8_1 : Int) := of_decide_eq_true (uq)
      have q270 : x8_1 < (l0_0.length : Int) := of_decide_eq_true (uq)
      obtain ⟨ad270, e270, hx270_0, hx270_1⟩ := at_T87 HR0_0.out x8_1 p270 q270
      cases e270
      replace hx270_0 := cb HB.out hx270_0
      replace hx270_1 := cb HB.out hx270_1
      replace p270 := eq_true p270
      replace q270 := eq_true q270
      go_upto_region 4 with (first | ((with_reducible refine gate_dst (N := 4) rfl ?_); refine bE (N := 4) (cs := #[.string (⟨#[]⟩ : ByteArray), .int .i64 0]) (t := 87) ?_; intro gb271 hg w8 hbox hb; have BK271 := am (hbox); have GW271 := am ((Y145 : w.heap.size ≤ gb271)); have GE271 := am ((Y145 : w.heap.size ≤ gb271)); have NB268_271 := am ((by rw [hg]; exact Nat.ne_of_lt (blk_lt (g := gb268) (o := .cells #[.slice (some ad270) l0_0.length c0_0] 32 (0, 0)) (kq BK268.out)) : gb268 ≠ gb271)); have NB271_268 := am ((by rw [hg]; exact Nat.ne_of_gt (blk_lt (g := gb268) (o := .cells #[.slice (some ad270) l0_0.length c0_0] 32 (0, 0)) (kq BK268.out)) : gb271 ≠ gb268)); replace BK268 := am (blk_below (g := gb268) (o := .cells #[.slice (some ad270) l0_0.length c0_0] 32 (0, 0)) (kq BK268.out) hb); replace HB := am (below_step (Y124) hb); clear hb hbox hg; have hnb9 := NB271_268.out; have hnc9 := NB268_271.out; have hcz10_0 := bc0 BK271.out; have hcz10_1 := bc1 BK271.out; have hfz10_0 := blk_frozen BK271.out 0; have hfz10_1 := blk_frozen BK271.out 1))
      (try simp only [Act.put, List.setIfInBounds_toArray, List.set_cons_zero, List.set_cons_succ])
      go_cut [45] (fun v45 wc => ∃ (kq : Nat) (x45_6 : Bool), v45 = .bool x45_6 ∧ Aside0 (impl_ValidTree.j1 kq l0_0 (l0_0.length : Int) x8_1 x45_6 l0_0 = some r) ∧ Aside0 (kq ≤ k1) ∧ Aside0 (wc.heap[gb268]? = some (.cells #[(.slice (some ad270) l0_0.length c0_0)] 32 (0, 0))) ∧ Aside0 (wc.heap[gb271]? = some (.cells #[.string ((rd_T87 l0_0 x8_1).f0), .int .i64 ((rd_T87 l0_0 x8_1).f1)] 87 (0, 0))) ∧ Aside0 (Below w.heap.size w wc))
      case first =>
       have H := HC7.out
       clear HC7
       replace H := Option.bind_eq_some_iff.mp H
       obtain ⟨t272, A110, H⟩ := H
       replace H : (if t272 = true then ((impl_Tree_named.f l0_0 ((rd_T87 l0_0 x8_1).f0)).bind fun t273 => (if t273 = x8_1 then (if x8_1 = 0 then (if ((rd_T87 l0_0 x8_1).f1) = (-1) then (if x8_1 > 0 then ((impl_within.f ((rd_T87 l0_0 x8_1).f1) 0 (wrap64 (x8_1 - 1))).bind fun t274 => (impl_ValidTree.j1 k1 l0_0 (l0_0.length : Int) x8_1 (!t274) l0_0)) else (impl_ValidTree.j1 k1 l0_0 (l0_0.length : Int) x8_1 false l0_0)) else (impl_ValidTree.j1 k1 l0_0 (l0_0.length : Int) x8_1 true l0_0)) else (if x8_1 > 0 then ((impl_within.f ((rd_T87 l0_0 x8_1).f1) 0 (wrap64 (x8_1 - 1))).bind fun t275 => (impl_ValidTree.j1 k1 l0_0 (l0_0.length : Int) x8_1 (!t275) l0_0)) else (impl_ValidTree.j1 k1 l0_0 (l0_0.length : Int) x8_1 false l0_0))) else (impl_ValidTree.j1 k1 l0_0 (l0_0.length : Int) x8_1 true l0_0))) else (impl_ValidTree.j1 k1 l0_0 (l0_0.length : Int) x8_1 true l0_0)) = some r := H
       have A11 := am A110
       clear A110
       by_cases c12 : t272 = true
       ·subst c12
        have H1 : ((impl_Tree_named.f l0_0 ((rd_T87 l0_0 x8_1).f0)).bind fun t273 => (if t273 = x8_1 then (if x8_1 = 0 then (if ((rd_T87 l0_0 x8_1).f1) = (-1) then (if x8_1 > 0 then ((impl_within.f ((rd_T87 l0_0 x8_1).f1) 0 (wrap64 (x8_1 - 1))).bind fun t274 => (impl_ValidTree.j1 k1 l0_0 (l0_0.length : Int) x8_1 (!t274) l0_0)) else (impl_ValidTree.j1 k1 l0_0 (l0_0.length : Int) x8_1 false l0_0)) else (impl_ValidTree.j1 k1 l0_0 (l0_0.length : Int) x8_1 true l0_0)) else (if x8_1 > 0 then ((impl_within.f ((rd_T87 l0_0 x8_1).f1) 0 (wrap64 (x8_1 - 1))).bind fun t275 => (impl_ValidTree.j1 k1 l0_0 (l0_0.length : Int) x8_1 (!t275) l0_0)) else (impl_ValidTree.j1 k1 l0_0 (l0_0.length : Int) x8_1 false l0_0))) else (impl_ValidTree.j1 k1 l0_0 (l0_0.length : Int) x8_1 true l0_0))) = some r := by rw [if_pos rfl] at H; exact H
        clear H
        have H := H1
        clear H1
        replace H := Option.bind_eq_some_iff.mp H
        obtain ⟨t273, A130, H⟩ := H
        replace H : (if t273 = x8_1 then (if x8_1 = 0 then (if ((rd_T87 l0_0 x8_1).f1) = (-1) then (if x8_1 > 0 then ((impl_within.f ((rd_T87 l0_0 x8_1).f1) 0 (wrap64 (x8_1 - 1))).bind fun t274 => (impl_ValidTree.j1 k1 l0_0 (l0_0.length : Int) x8_1 (!t274) l0_0)) else (impl_ValidTree.j1 k1 l0_0 (l0_0.length : Int) x8_1 false l0_0)) else (impl_ValidTree.j1 k1 l0_0 (l0_0.length : Int) x8_1 true l0_0)) else (if x8_1 > 0 then ((impl_within.f ((rd_T87 l0_0 x8_1).f1) 0 (wrap64 (x8_1 - 1))).bind fun t275 => (impl_ValidTree.j1 k1 l0_0 (l0_0.length : Int) x8_1 (!t275) l0_0)) else (impl_ValidTree.j1 k1 l0_0 (l0_0.length : Int) x8_1 false l0_0))) else (impl_ValidTree.j1 k1 l0_0 (l0_0.length : Int) x8_1 true l0_0)) = some r := H
        have A13 := am A130
        clear A130
        by_cases c14 : t273 = x8_1
        ·rw [if_pos c14] at H
         have c14b0 : (t273 == x8_1) = true := beq_iff_eq.mpr c14
         have c14b1 : (t273 != x8_1) = false := bne_eq_false_iff_eq.mpr c14
         clear c14
         (first | rw [c14b0] | (simp only [i64_w, i32_w]; rw [c14b0]) | skip)
         by_cases c15 : x8_1 = 0
         ·rw [if_pos c15] at H
          have c15b0 : (x8_1 == 0) = true := beq_iff_eq.mpr c15
          have c15b1 : (x8_1 != 0) = false := bne_eq_false_iff_eq.mpr c15
          clear c15
          by_cases c16 : ((rd_T87 l0_0 x8_1).f1) = (-1)
          ·rw [if_pos c16] at H
           have c16b0 : (((rd_T87 l0_0 x8_1).f1) == (-1)) = true := beq_iff_eq.mpr c16
           have c16b1 : (((rd_T87 l0_0 x8_1).f1) != (-1)) = false := bne_eq_false_iff_eq.mpr c16
           clear c16
           by_cases c17 : x8_1 > 0
           ·rw [if_pos c17] at H
            have c17b0 : decide (0 < x8_1) = true := decide_eq_true c17
            clear c17
            replace H := Option.bind_eq_some_iff.mp H
            obtain ⟨t274, A180, H⟩ := H
            replace H : (impl_ValidTree.j1 k1 l0_0 (l0_0.length : Int) x8_1 (!t274) l0_0) = some r := H
            have A18 := am A180
            clear A180
            have H' := am H
            clear H
            have hnb19 := NB271_268.out
            have hnc19 := NB268_271.out
            have hcz20_0 := bc0 BK271.out
            have hcz20_1 := bc1 BK271.out
            have hfz20_0 := blk_frozen BK271.out 0
            have hfz20_1 := blk_frozen BK271.out 1
            go_wp2_with (first | ((with_reducible refine gate_callee (f := 93) rfl ?_); refine gL (some 15) Try.func93 #[.string ((rd_T87 l0_0 x8_1).f0)] ?_; (with_reducible refine (impl_nameOk.calls k1 ((rd_T87 l0_0 x8_1).f0) true _ A11.out).mono ?_); rintro e w' ⟨rfl, ⟨nd, rfl⟩⟩; refine ⟨_, rfl, ?_⟩; have hcz21_0 := bc0 BK268.out; have hfz21_0 := blk_frozen BK268.out 0) | (go_at_call 94; (with_reducible refine (impl_Tree_named.calls _ _ l0_0 ((rd_T87 l0_0 x8_1).f0) t273 _ ?side1 ?side2 A13.out).mono ?_); (case side1 => exact Kd.C_below HR0_0.out (Y21)); (case side2 => exact HC0_0.out); rintro e w22 ⟨rfl, hb⟩; replace BK268 := am (blk_below (g := gb268) (o := .cells #[.slice (some ad270) l0_0.length c0_0] 32 (0, 0)) (Y76) hb); replace BK271 := am (blk_below (g := gb271) (o := .cells #[.string ((rd_T87 l0_0 x8_1).f0), .int .i64 ((rd_T87 l0_0 x8_1).f1)] 87 (0, 0)) (Y77) hb); replace HB := am (below_step (Y21) hb); (try clear hb); (try clear hb2); (try clear hk); (try clear hi); have hcz23_0 := bc0 BK271.out; have hcz23_1 := bc1 BK271.out; have hfz23_0 := blk_frozen BK271.out 0; have hfz23_1 := blk_frozen BK271.out 1) | (go_at_call 66; (with_reducible refine (impl_within.calls ((rd_T87 l0_0 x8_1).f1) 0 (wrap64 (x8_1 - 1)) t274 _ A18.out).mono ?_); rintro e w' ⟨rfl, ⟨nd, rfl⟩⟩))
            go_meet
            case rel => exact ⟨_, (!t274), (sq), H', ⟨by have := HK1.out; first | omega | exact Nat.le_refl _⟩, ⟨kq BK268.out⟩, ⟨kq BK271.out⟩, ⟨Y21⟩⟩
           ·rw [if_neg c17] at H
            have c17b0 : decide (0 < x8_1) = false := decide_eq_false c17
            clear c17
            have H' := am H
            clear H
            have hnb24 := NB271_268.out
            have hnc24 := NB268_271.out
            have hcz25_0 := bc0 BK271.out
            have hcz25_1 := bc1 BK271.out
            have hfz25_0 := blk_frozen BK271.out 0
            have hfz25_1 := blk_frozen BK271.out 1
            go_wp2_with (first | ((with_reducible refine gate_callee (f := 93) rfl ?_); refine gL (some 15) Try.func93 #[.string ((rd_T87 l0_0 x8_1).f0)] ?_; (with_reducible refine (impl_nameOk.calls k1 ((rd_T87 l0_0 x8_1).f0) true _ A11.out).mono ?_); rintro e w' ⟨rfl, ⟨nd, rfl⟩⟩; refine ⟨_, rfl, ?_⟩; have hcz26_0 := bc0 BK268.out; have hfz26_0 := blk_frozen BK268.out 0) | (go_at_call 94; (with_reducible refine (impl_Tree_named.calls _ _ l0_0 ((rd_T87 l0_0 x8_1).f0) t273 _ ?side1 ?side2 A13.out).mono ?_); (case side1 => exact Kd.C_below HR0_0.out (Y21)); (case side2 => exact HC0_0.out); rintro e w27 ⟨rfl, hb⟩; replace BK268 := am (blk_below (g := gb268) (o := .cells #[.slice (some ad270) l0_0.length c0_0] 32 (0, 0)) (Y76) hb); replace BK271 := am (blk_below (g := gb271) (o := .cells #[.string ((rd_T87 l0_0 x8_1).f0), .int .i64 ((rd_T87 l0_0 x8_1).f1)] 87 (0, 0)) (Y77) hb); replace HB := am (below_step (Y21) hb); (try clear hb); (try clear hb2); (try clear hk); (try clear hi); have hcz28_0 := bc0 BK271.out; have hcz28_1 := bc1 BK271.out; have hfz28_0 := blk_frozen BK271.out 0; have hfz28_1 := blk_frozen BK271.out 1))
            go_meet
            case rel => exact ⟨_, (false), (sq), H', ⟨by have := HK1.out; first | omega | exact Nat.le_refl _⟩, ⟨kq BK268.out⟩, ⟨kq BK271.out⟩, ⟨Y21⟩⟩
          ·rw [if_neg c16] at H
           have c16b0 : (((rd_T87 l0_0 x8_1).f1) == (-1)) = false := beq_eq_false_iff_ne.mpr c16
           have c16b1 : (((rd_T87 l0_0 x8_1).f1) != (-1)) = true := bne_iff_ne.mpr c16
           have H' := am H
           clear H
           have hnb29 := NB271_268.out
           have hnc29 := NB268_271.out
           have hcz30_0 := bc0 BK271.out
           have hcz30_1 := bc1 BK271.out
           have hfz30_0 := blk_frozen BK271.out 0
           have hfz30_1 := blk_frozen BK271.out 1
           go_wp2_with (first | ((with_reducible refine gate_callee (f := 93) rfl ?_); refine gL (some 15) Try.func93 #[.string ((rd_T87 l0_0 x8_1).f0)] ?_; (with_reducible refine (impl_nameOk.calls k1 ((rd_T87 l0_0 x8_1).f0) true _ A11.out).mono ?_); rintro e w' ⟨rfl, ⟨nd, rfl⟩⟩; refine ⟨_, rfl, ?_⟩; have hcz31_0 := bc0 BK268.out; have hfz31_0 := blk_frozen BK268.out 0) | (go_at_call 94; (with_reducible refine (impl_Tree_named.calls _ _ l0_0 ((rd_T87 l0_0 x8_1).f0) t273 _ ?side1 ?side2 A13.out).mono ?_); (case side1 => exact Kd.C_below HR0_0.out (Y21)); (case side2 => exact HC0_0.out); rintro e w32 ⟨rfl, hb⟩; replace BK268 := am (blk_below (g := gb268) (o := .cells #[.slice (some ad270) l0_0.length c0_0] 32 (0, 0)) (Y76) hb); replace BK271 := am (blk_below (g := gb271) (o := .cells #[.string ((rd_T87 l0_0 x8_1).f0), .int .i64 ((rd_T87 l0_0 x8_1).f1)] 87 (0, 0)) (Y77) hb); replace HB := am (below_step (Y21) hb); (try clear hb); (try clear hb2); (try clear hk); (try clear hi); have hcz33_0 := bc0 BK271.out; have hcz33_1 := bc1 BK271.out; have hfz33_0 := blk_frozen BK271.out 0; have hfz33_1 := blk_frozen BK271.out 1))
           go_meet
           case rel => exact ⟨_, (true), (sq), H', ⟨by have := HK1.out; first | omega | exact Nat.le_refl _⟩, ⟨kq BK268.out⟩, ⟨kq BK271.out⟩, ⟨Y21⟩⟩
         ·rw [if_neg c15] at H
          have c15b0 : (x8_1 == 0) = false := beq_eq_false_iff_ne.mpr c15
          have c15b1 : (x8_1 != 0) = true := bne_iff_ne.mpr c15
          by_cases c34 : x8_1 > 0
          ·rw [if_pos c34] at H
           have c34b0 : decide (0 < x8_1) = true := decide_eq_true c34
           clear c34
           replace H := Option.bind_eq_some_iff.mp H
           obtain ⟨t275, A350, H⟩ := H
           replace H : (impl_ValidTree.j1 k1 l0_0 (l0_0.length : Int) x8_1 (!t275) l0_0) = some r := H
           have A35 := am A350
           clear A350
           have H' := am H
           clear H
           have hnb36 := NB271_268.out
           have hnc36 := NB268_271.out
           have hcz37_0 := bc0 BK271.out
           have hcz37_1 := bc1 BK271.out
           have hfz37_0 := blk_frozen BK271.out 0
           have hfz37_1 := blk_frozen BK271.out 1
           go_wp2_with (first | ((with_reducible refine gate_callee (f := 93) rfl ?_); refine gL (some 15) Try.func93 #[.string ((rd_T87 l0_0 x8_1).f0)] ?_; (with_reducible refine (impl_nameOk.calls k1 ((rd_T87 l0_0 x8_1).f0) true _ A11.out).mono ?_); rintro e w' ⟨rfl, ⟨nd, rfl⟩⟩; refine ⟨_, rfl, ?_⟩; have hcz38_0 := bc0 BK268.out; have hfz38_0 := blk_frozen BK268.out 0) | (go_at_call 94; (with_reducible refine (impl_Tree_named.calls _ _ l0_0 ((rd_T87 l0_0 x8_1).f0) t273 _ ?side1 ?side2 A13.out).mono ?_); (case side1 => exact Kd.C_below HR0_0.out (Y21)); (case side2 => exact HC0_0.out); rintro e w39 ⟨rfl, hb⟩; replace BK268 := am (blk_below (g := gb268) (o := .cells #[.slice (some ad270) l0_0.length c0_0] 32 (0, 0)) (Y76) hb); replace BK271 := am (blk_below (g := gb271) (o := .cells #[.string ((rd_T87 l0_0 x8_1).f0), .int .i64 ((rd_T87 l0_0 x8_1).f1)] 87 (0, 0)) (Y77) hb); replace HB := am (below_step (Y21) hb); (try clear hb); (try clear hb2); (try clear hk); (try clear hi); have hcz40_0 := bc0 BK271.out; have hcz40_1 := bc1 BK271.out; have hfz40_0 := blk_frozen BK271.out 0; have hfz40_1 := blk_frozen BK271.out 1) | (go_at_call 66; (with_reducible refine (impl_within.calls ((rd_T87 l0_0 x8_1).f1) 0 (wrap64 (x8_1 - 1)) t275 _ A35.out).mono ?_); rintro e w' ⟨rfl, ⟨nd, rfl⟩⟩))
           go_meet
           case rel => exact ⟨_, (!t275), (sq), H', ⟨by have := HK1.out; first | omega | exact Nat.le_refl _⟩, ⟨kq BK268.out⟩, ⟨kq BK271.out⟩, ⟨Y21⟩⟩
          ·rw [if_neg c34] at H
           have c34b0 : decide (0 < x8_1) = false := decide_eq_false c34
           clear c34
           have H' := am H
           clear H
           have hnb41 := NB271_268.out
           have hnc41 := NB268_271.out
           have hcz42_0 := bc0 BK271.out
           have hcz42_1 := bc1 BK271.out
           have hfz42_0 := blk_frozen BK271.out 0
           have hfz42_1 := blk_frozen BK271.out 1
           go_wp2_with (first | ((with_reducible refine gate_callee (f := 93) rfl ?_); refine gL (some 15) Try.func93 #[.string ((rd_T87 l0_0 x8_1).f0)] ?_; (with_reducible refine (impl_nameOk.calls k1 ((rd_T87 l0_0 x8_1).f0) true _ A11.out).mono ?_); rintro e w' ⟨rfl, ⟨nd, rfl⟩⟩; refine ⟨_, rfl, ?_⟩; have hcz43_0 := bc0 BK268.out; have hfz43_0 := blk_frozen BK268.out 0) | (go_at_call 94; (with_reducible refine (impl_Tree_named.calls _ _ l0_0 ((rd_T87 l0_0 x8_1).f0) t273 _ ?side1 ?side2 A13.out).mono ?_); (case side1 => exact Kd.C_below HR0_0.out (Y21)); (case side2 => exact HC0_0.out); rintro e w44 ⟨rfl, hb⟩; replace BK268 := am (blk_below (g := gb268) (o := .cells #[.slice (some ad270) l0_0.length c0_0] 32 (0, 0)) (Y76) hb); replace BK271 := am (blk_below (g := gb271) (o := .cells #[.string ((rd_T87 l0_0 x8_1).f0), .int .i64 ((rd_T87 l0_0 x8_1).f1)] 87 (0, 0)) (Y77) hb); replace HB := am (below_step (Y21) hb); (try clear hb); (try clear hb2); (try clear hk); (try clear hi)))
           go_meet
           case rel => exact ⟨_, (false), (sq), H', ⟨by have := HK1.out; first | omega | exact Nat.le_refl _⟩, ⟨kq BK268.out⟩, ⟨kq BK271.out⟩, ⟨Y21⟩⟩
        ·rw [if_neg c14] at H
         have c14b0 : (t273 == x8_1) = false := beq_eq_false_iff_ne.mpr c14
         have c14b1 : (t273 != x8_1) = true := bne_iff_ne.mpr c14
         (first | rw [c14b0] | (simp only [i64_w, i32_w]; rw [c14b0]) | skip)
         have H' := am H
         clear H
         have hnb45 := NB271_268.out
         have hnc45 := NB268_271.out
         have hcz46_0 := bc0 BK271.out
         have hcz46_1 := bc1 BK271.out
         have hfz46_0 := blk_frozen BK271.out 0
         have hfz46_1 := blk_frozen BK271.out 1
         go_wp2_with (first | ((with_reducible refine gate_callee (f := 93) rfl ?_); refine gL (some 15) Try.func93 #[.string ((rd_T87 l0_0 x8_1).f0)] ?_; (with_reducible refine (impl_nameOk.calls k1 ((rd_T87 l0_0 x8_1).f0) true _ A11.out).mono ?_); rintro e w' ⟨rfl, ⟨nd, rfl⟩⟩; refine ⟨_, rfl, ?_⟩; have hcz47_0 := bc0 BK268.out; have hfz47_0 := blk_frozen BK268.out 0) | (go_at_call 94; (with_reducible refine (impl_Tree_named.calls _ _ l0_0 ((rd_T87 l0_0 x8_1).f0) t273 _ ?side1 ?side2 A13.out).mono ?_); (case side1 => exact Kd.C_below HR0_0.out (Y21)); (case side2 => exact HC0_0.out); rintro e w48 ⟨rfl, hb⟩; replace BK268 := am (blk_below (g := gb268) (o := .cells #[.slice (some ad270) l0_0.length c0_0] 32 (0, 0)) (Y76) hb); replace BK271 := am (blk_below (g := gb271) (o := .cells #[.string ((rd_T87 l0_0 x8_1).f0), .int .i64 ((rd_T87 l0_0 x8_1).f1)] 87 (0, 0)) (Y77) hb); replace HB := am (below_step (Y21) hb); (try clear hb); (try clear hb2); (try clear hk); (try clear hi)))
         go_meet
         case rel => exact ⟨_, (true), (sq), H', ⟨by have := HK1.out; first | omega | exact Nat.le_refl _⟩, ⟨kq BK268.out⟩, ⟨kq BK271.out⟩, ⟨Y21⟩⟩
       ·replace c12 := Bool.eq_false_iff.mpr c12
        subst c12
        have H1 : (impl_ValidTree.j1 k1 l0_0 (l0_0.length : Int) x8_1 true l0_0) = some r := by rw [if_neg (show ¬ (false = true) by decide)] at H; exact H
        clear H
        have H := H1
        clear H1
        have H' := am H
        clear H
        have hnb49 := NB271_268.out
        have hnc49 := NB268_271.out
        have hcz50_0 := bc0 BK271.out
        have hcz50_1 := bc1 BK271.out
        have hfz50_0 := blk_frozen BK271.out 0
        have hfz50_1 := blk_frozen BK271.out 1
        go_wp2_with (first | ((with_reducible refine gate_callee (f := 93) rfl ?_); refine gL (some 15) Try.func93 #[.string ((rd_T87 l0_0 x8_1).f0)] ?_; (with_reducible refine (impl_nameOk.calls k1 ((rd_T87 l0_0 x8_1).f0) false _ A11.out).mono ?_); rintro e w' ⟨rfl, ⟨nd, rfl⟩⟩; refine ⟨_, rfl, ?_⟩))
        go_meet
        case rel => exact ⟨_, (true), (sq), H', ⟨by have := HK1.out; first | omega | exact Nat.le_refl _⟩, ⟨by (with_reducible repeat (first | refine blk_drewN ?_ _ | refine blk_drew ?_ | refine blk_alloc ?_ _)); refine blk_far ?_ NB268_271.out _; (with_reducible repeat (first | refine blk_drewN ?_ _ | refine blk_drew ?_ | refine blk_alloc ?_ _)); refine blk_far ?_ NB268_271.out _; (with_reducible repeat (first | refine blk_drewN ?_ _ | refine blk_drew ?_ | refine blk_alloc ?_ _)); exact BK268.out⟩, ⟨by (with_reducible repeat (first | refine blk_drewN ?_ _ | refine blk_drew ?_ | refine blk_alloc ?_ _)); refine blk_put (cs := #[.string ((rd_T87 l0_0 x8_1).f0), .int .i64 0]) ?_ 1 _ rfl; (with_reducible repeat (first | refine blk_drewN ?_ _ | refine blk_drew ?_ | refine blk_alloc ?_ _)); refine blk_put (cs := #[.string (⟨#[]⟩ : ByteArray), .int .i64 0]) ?_ 0 _ rfl; (with_reducible repeat (first | refine blk_drewN ?_ _ | refine blk_drew ?_ | refine blk_alloc ?_ _)); exact BK271.out⟩, ⟨Y21⟩⟩
      case rest =>
       clear HC7
       try clear c1
       try clear c2
       try clear p2
       try clear q2
       try clear hx2
       try clear c3
       try clear c4
       try clear c4b0
       try clear c5
       try clear c5b0
       try clear c6
       try clear c6b0
       try clear p6
       try clear c9
       try clear c12
       try clear c14
       try clear c14b0
       try clear c14b1
       try clear c15
       try clear c15b0
       try clear c15b1
       try clear c16
       try clear c16b0
       try clear c16b1
       try clear c17
       try clear c17b0
       try clear c19
       try clear c24
       try clear p27
       try clear q27
       try clear hx27
       try clear c29
       try clear c34
       try clear c34b0
       try clear c36
       try clear c41
       try clear c45
       try clear c49
       try clear hcz10_0
       try clear hcz10_1
       try clear hcz20_0
       try clear hcz20_1
       try clear hcz21_0
       try clear hcz23_0
       try clear hcz23_1
       try clear hcz25_0
       try clear hcz25_1
       try clear hcz26_0
       try clear hcz28_0
       try clear hcz28_1
       try clear hcz30_0
       try clear hcz30_1
       try clear hcz31_0
       try clear hcz33_0
       try clear hcz33_1
       try clear hcz37_0
       try clear hcz37_1
       try clear hcz38_0
       try clear hcz3_0
       try clear hcz40_0
       try clear hcz40_1
       try clear hcz42_0
       try clear hcz42_1
       try clear hcz43_0
       try clear hcz46_0
       try clear hcz46_1
       try clear hcz47_0
       try clear hcz50_0
       try clear hcz50_1
       try clear hfz10_0
       try clear hfz10_1
       try clear hfz20_0
       try clear hfz20_1
       try clear hfz21_0
       try clear hfz23_0
       try clear hfz23_1
       try clear hfz25_0
       try clear hfz25_1
       try clear hfz26_0
       try clear hfz28_0
       try clear hfz28_1
       try clear hfz30_0
       try clear hfz30_1
       try clear hfz31_0
       try clear hfz33_0
       try clear hfz33_1
       try clear hfz37_0
       try clear hfz37_1
       try clear hfz38_0
       try clear hfz3_0
       try clear hfz40_0
       try clear hfz40_1
       try clear hfz42_0
       try clear hfz42_1
       try clear hfz43_0
       try clear hfz46_0
       try clear hfz46_1
       try clear hfz47_0
       try clear hfz50_0
       try clear hfz50_1
       try clear hx270_0
       try clear hx270_1
       try clear p2
       try clear p270
       try clear q270
       obtain ⟨kq, x45_6, rfl, HA, HJ6, BK268, BK271, HB⟩ := hcut
       cases kq with
       | zero => exact absurd HA.out (by simp [impl_ValidTree.j1])
       | succ kj6 =>
        have H := HA.out
        clear HA
        simp only [impl_ValidTree.j1] at H
        by_cases c51 : x45_6 = true
        ·subst c51
         have H1 : (some false) = some r := by rw [if_pos rfl] at H; exact H
         clear H
         have H := H1
         clear H1
         obtain rfl := Option.some.inj H
         go_wp2
         go_ret
         exact ⟨Y0, Y21⟩
        ·replace c51 := Bool.eq_false_iff.mpr c51
         subst c51
         have H1 : (impl_ValidTree.l0 kj6 l0_0 (l0_0.length : Int) (wrap64 (x8_1 + 1)) l0_0) = some r := by rw [if_neg (show ¬ (false = true) by decide)] at H; exact H
         clear H
         have H := H1
         clear H1
         have H' := am H
         clear H
         go_wp2
         go_roundg kj6
         case measure => have := HK1.out; have := HJ6.out; omega
         case rel => exact ⟨(wrap64 (x8_1 + 1)), (sq), H', ⟨by have := HK1.out; have := HJ6.out; omega⟩, ⟨kq BK268.out⟩, ⟨Y21⟩⟩
     ·rw [if_neg c6] at H
      exact absurd H (by simp)
    ·rw [if_neg c5] at H
     exact absurd H (by simp)
   ·rw [if_neg c4] at H
    have c4b0 : decide (x8_1 < (l0_0.length : Int)) = false := decide_eq_false c4
    clear c4
    replace H := Option.bind_eq_some_iff.mp H
    obtain ⟨t269, A520, H⟩ := H
    replace H : (some t269) = some r := H
    have A52 := am A520
    clear A520
    obtain rfl := Option.some.inj H
    have hcz53_0 := bc0 BK268.out
    have hfz53_0 := blk_frozen BK268.out 0
    go_wp2_with (first | ((with_reducible refine gate_callee (f := 66) rfl ?_); refine gL (some 50) Try.func66 #[.int .i64 (l0_0.length : Int), .int .i64 1, .int .i64 8] ?_; (with_reducible refine (impl_within.calls (l0_0.length : Int) 1 8 t269 _ A52.out).mono ?_); rintro e w' ⟨rfl, ⟨nd, rfl⟩⟩; refine ⟨_, rfl, ?_⟩))
    go_ret
    exact ⟨Y0, Y124⟩
def impl_Tree_has.f (l0_0 : List (S87)) (a1 : Int) : Option (Bool) := (impl_within.f a1 0 (wrap64 ((l0_0.length : Int) - 1))).bind fun t277 => (some t277)
set_option maxHeartbeats 8000000 in
set_option maxRecDepth 100000 in
theorem impl_Tree_has.calls (A0_0 : Option Addr) (c0_0 : Nat) (l0_0 : List (S87)) (a1 : Int) (r : Bool) (w : World) (hr0_0 : Kd.C k87 w A0_0 l0_0.length l0_0) (hc0_0 : l0_0.length ≤ c0_0) (h : impl_Tree_has.f l0_0 a1 = some r) :
  Calls Try.prog 49 #[.agg #[.slice A0_0 l0_0.length c0_0], .int .i64 a1] w fun e w' => e = .returned (.bool r) ∧ Below w.heap.size w w' := by
 have hu32 := Try.underlying32
 have HR0_0 := am hr0_0
 have HC0_0 := am hc0_0
 clear hr0_0 hc0_0
 have HB := am (Below.refl w.heap.size w)
 have H : ((impl_within.f a1 0 (wrap64 ((l0_0.length : Int) - 1))).bind fun t277 => (some t277)) = some r := h
 clear h
 replace H := Option.bind_eq_some_iff.mp H
 obtain ⟨t277, A30, H⟩ := H
 replace H : (some t277) = some r := H
 have A3 := am A30
 clear A30
 obtain rfl := Option.some.inj H
 go_enter Try.func49, Try.ntmps49
 go_wp2_with (first | ((with_reducible refine gate_dst (N := 2) rfl ?_); refine bE (N := 2) (cs := #[.slice A0_0 l0_0.length c0_0]) (t := 32) ?_; intro gb276 hg w4 hbox hb; have BK276 := am (hbox); have GW276 := am ((Y1 : w.heap.size ≤ gb276)); have GE276 := am ((Y1 : w.heap.size ≤ gb276)); replace HB := am (below_step (bq) hb); clear hb hbox hg; have hcz5_0 := bc0 BK276.out; have hfz5_0 := blk_frozen BK276.out 0) | ((with_reducible refine gate_callee (f := 66) rfl ?_); refine gL (some 10) Try.func66 #[.int .i64 a1, .int .i64 0, .int .i64 (wrap64 ((l0_0.length : Int) - 1))] ?_; (with_reducible refine (impl_within.calls a1 0 (wrap64 ((l0_0.length : Int) - 1)) t277 _ A3.out).mono ?_); rintro e w' ⟨rfl, ⟨nd, rfl⟩⟩; refine ⟨_, rfl, ?_⟩))
 go_ret
 exact ⟨Y0, by repeat (first | (with_reducible first | exact HB.out | apply below_alloc | apply pw_below_drewN | apply below_drew1 | refine below_set ?_ GE276.out) | exact HB.out)⟩
def impl_codeOk.f (a0 : Int) : Option (Bool) := (impl_within.f a0 0 99).bind fun t278 => (some t278)
set_option maxHeartbeats 8000000 in
set_option maxRecDepth 100000 in
theorem impl_codeOk.calls (a0 : Int) (r : Bool) (w : World) (h : impl_codeOk.f a0 = some r) :
  Calls Try.prog 95 #[.int .i64 a0] w fun e w' => e = .returned (.bool r) ∧ Drawn0 w w' := by
 have H : ((impl_within.f a0 0 99).bind fun t278 => (some t278)) = some r := h
 clear h
 replace H := Option.bind_eq_some_iff.mp H
 obtain ⟨t278, A20, H⟩ := H
 replace H : (some t278) = some r := H
 have A2 := am A20
 clear A20
 obtain rfl := Option.some.inj H
 go_enter Try.func95, Try.ntmps95
 go_wp2_with (first | ((with_reducible refine gate_callee (f := 66) rfl ?_); refine gL (some 4) Try.func66 #[.int .i64 a0, .int .i64 0, .int .i64 99] ?_; (with_reducible refine (impl_within.calls a0 0 99 t278 _ A2.out).mono ?_); rintro e w' ⟨rfl, ⟨nd, rfl⟩⟩; refine ⟨_, rfl, ?_⟩))
 go_ret
 exact ⟨sq, Y4⟩
def impl_Line_argued.j0 : Nat → Int → Bool → Int → Int → Int → Int → List (S87) → Option (Bool)
 | 0, _, _, _, _, _, _, _ => none
 | k + 1, x6, x7, x280000, x280001, x280002, x280003, x281000 => if x7 = true then ((impl_codeOk.f x280002).bind fun t281 => (if t281 = true then (some (x280003 == 0)) else (some false))) else (if x6 = 2 then ((impl_Tree_has.f x281000 x280002).bind fun t282 => (if t282 = true then ((impl_codeOk.f x280003).bind fun t283 => (some t283)) else (some false))) else (if x6 = 8 then ((impl_Tree_has.f x281000 x280002).bind fun t284 => (if t284 = true then (some (x280003 == 0)) else (some false))) else (if x6 = 11 then ((impl_within.f x280002 0 9).bind fun t285 => (if t285 = true then ((impl_within.f x280003 0 1).bind fun t286 => (some t286)) else (some false))) else (if x6 = 12 then ((impl_within.f x280002 0 3).bind fun t287 => (if t287 = true then (some (x280003 == 0)) else (some false))) else ((impl_within.f x280001 0 12).bind fun t288 => (if t288 = true then (if x280002 = 0 then (some (x280003 == 0)) else (some false)) else (some false)))))))
def impl_Line_argued.f (k : Nat) (a0_0 : Int) (a0_1 : Int) (a0_2 : Int) (a0_3 : Int) (l1_0 : List (S87)) : Option (Bool) := if a0_1 = 1 then (impl_Line_argued.j0 k a0_1 (a0_1 == 1) a0_0 a0_1 a0_2 a0_3 l1_0) else (impl_Line_argued.j0 k a0_1 (a0_1 == 4) a0_0 a0_1 a0_2 a0_3 l1_0)
set_option maxHeartbeats 8000000 in
set_option maxRecDepth 100000 in
theorem impl_Line_argued.calls (k : Nat) (a0_0 : Int) (a0_1 : Int) (a0_2 : Int) (a0_3 : Int) (A1_0 : Option Addr) (c1_0 : Nat) (l1_0 : List (S87)) (r : Bool) (w : World) (hr1_0 : Kd.C k87 w A1_0 l1_0.length l1_0) (hc1_0 : l1_0.length ≤ c1_0) (h : impl_Line_argued.f k a0_0 a0_1 a0_2 a0_3 l1_0 = some r) :
  Calls Try.prog 65 #[.agg #[.int .i64 a0_0, .int .i64 a0_1, .int .i64 a0_2, .int .i64 a0_3], .agg #[.slice A1_0 l1_0.length c1_0]] w fun e w' => e = .returned (.bool r) ∧ Below w.heap.size w w' := by
 have hu52 := Try.underlying52
 have hu32 := Try.underlying32
 have HR1_0 := am hr1_0
 have HC1_0 := am hc1_0
 clear hr1_0 hc1_0
 have HB := am (Below.refl w.heap.size w)
 have H : (if a0_1 = 1 then (impl_Line_argued.j0 k a0_1 (a0_1 == 1) a0_0 a0_1 a0_2 a0_3 l1_0) else (impl_Line_argued.j0 k a0_1 (a0_1 == 4) a0_0 a0_1 a0_2 a0_3 l1_0)) = some r := h
 clear h
 have HC3 := am H
 clear H
 go_enter Try.func65, Try.ntmps65
 go_upto_if 7 with (first | ((with_reducible refine gate_dst (N := 2) rfl ?_); refine bE (N := 2) (cs := #[.int .i64 a0_0, .int .i64 a0_1, .int .i64 a0_2, .int .i64 a0_3]) (t := 52) ?_; intro gb279 hg w4 hbox hb; have BK279 := am (hbox); have GW279 := am ((Y1 : w.heap.size ≤ gb279)); have GE279 := am ((Y1 : w.heap.size ≤ gb279)); replace HB := am (below_step (bq) hb); clear hb hbox hg) | ((with_reducible refine gate_dst (N := 3) rfl ?_); refine bE (N := 3) (cs := #[.slice A1_0 l1_0.length c1_0]) (t := 32) ?_; intro gb280 hg w5 hbox hb; have BK280 := am (hbox); have GW280 := am ((Y146 : w.heap.size ≤ gb280)); have GE280 := am ((Y146 : w.heap.size ≤ gb280)); have NB279_280 := am ((by rw [hg]; exact Nat.ne_of_lt (blk_lt (g := gb279) (o := .cells #[.int .i64 a0_0, .int .i64 a0_1, .int .i64 a0_2, .int .i64 a0_3] 52 (0, 0)) (kq BK279.out)) : gb279 ≠ gb280)); have NB280_279 := am ((by rw [hg]; exact Nat.ne_of_gt (blk_lt (g := gb279) (o := .cells #[.int .i64 a0_0, .int .i64 a0_1, .int .i64 a0_2, .int .i64 a0_3] 52 (0, 0)) (kq BK279.out)) : gb280 ≠ gb279)); replace BK279 := am (blk_below (g := gb279) (o := .cells #[.int .i64 a0_0, .int .i64 a0_1, .int .i64 a0_2, .int .i64 a0_3] 52 (0, 0)) (kq BK279.out) hb); replace HB := am (below_step (by repeat (first | (with_reducible first | exact HB.out | apply below_alloc | apply pw_below_drewN | apply below_drew1 | refine below_set ?_ GE279.out) | exact HB.out)) hb); clear hb hbox hg; have hnb6 := NB279_280.out; have hnc6 := NB280_279.out; have hcz7_0 := bc0 BK279.out; have hcz7_1 := bc1 BK279.out; have hcz7_2 := bc2 BK279.out; have hcz7_3 := bc3 BK279.out; have hfz7_0 := blk_frozen BK279.out 0; have hfz7_1 := blk_frozen BK279.out 1; have hfz7_2 := blk_frozen BK279.out 2; have hfz7_3 := blk_frozen BK279.out 3))
 (try simp only [Act.put, List.setIfInBounds_toArray, List.set_cons_zero, List.set_cons_succ])
 go_cut [7] (fun v7 wc => ∃ (kq : Nat) (x7_2 : Bool), v7 = .bool x7_2 ∧ Aside0 (impl_Line_argued.j0 kq a0_1 x7_2 a0_0 a0_1 a0_2 a0_3 l1_0 = some r) ∧ Aside0 (kq ≤ k) ∧ Aside0 (wc.heap[gb279]? = some (.cells #[.int .i64 a0_0, .int .i64 a0_1, .int .i64 a0_2, .int .i64 a0_3] 52 (0, 0))) ∧ Aside0 (wc.heap[gb280]? = some (.cells #[(.slice A1_0 l1_0.length c1_0)] 32 (0, 0))) ∧ Aside0 (Below w.heap.size w wc))
 case first =>
  have H := HC3.out
  clear HC3
  by_cases c8 : a0_1 = 1
  ·rw [if_pos c8] at H
   have c8b0 : (a0_1 == 1) = true := beq_iff_eq.mpr c8
   have c8b1 : (a0_1 != 1) = false := bne_eq_false_iff_eq.mpr c8
   clear c8
   (first | rw [c8b0] | (simp only [i64_w, i32_w]; rw [c8b0]) | skip)
   have H' := am H
   clear H
   go_wp2
   go_meet
   case rel => exact ⟨_, ((a0_1 == 1)), (sq), H', ⟨Y35⟩, ⟨kq BK279.out⟩, ⟨kq BK280.out⟩, ⟨Y24⟩⟩
  ·rw [if_neg c8] at H
   have c8b0 : (a0_1 == 1) = false := beq_eq_false_iff_ne.mpr c8
   have c8b1 : (a0_1 != 1) = true := bne_iff_ne.mpr c8
   (first | rw [c8b0] | (simp only [i64_w, i32_w]; rw [c8b0]) | skip)
   have H' := am H
   clear H
   go_wp2
   go_meet
   case rel => exact ⟨_, ((a0_1 == 4)), (sq), H', ⟨Y35⟩, ⟨kq BK279.out⟩, ⟨kq BK280.out⟩, ⟨Y24⟩⟩
 case rest =>
  clear HC3
  try clear c1
  try clear p2
  try clear c6
  try clear c8
  try clear c8b0
  try clear c8b1
  try clear hcz7_0
  try clear hcz7_1
  try clear hcz7_2
  try clear hcz7_3
  try clear hfz7_0
  try clear hfz7_1
  try clear hfz7_2
  try clear hfz7_3
  obtain ⟨kq, x7_2, rfl, HA, HJ2, BK279, BK280, HB⟩ := hcut
  cases kq with
  | zero => exact absurd HA.out (by simp [impl_Line_argued.j0])
  | succ kj2 =>
   have H := HA.out
   clear HA
   simp only [impl_Line_argued.j0] at H
   by_cases c9 : x7_2 = true
   ·subst c9
    have H1 : ((impl_codeOk.f a0_2).bind fun t281 => (if t281 = true then (some (a0_3 == 0)) else (some false))) = some r := by rw [if_pos rfl] at H; exact H
    clear H
    have H := H1
    clear H1
    replace H := Option.bind_eq_some_iff.mp H
    obtain ⟨t281, A100, H⟩ := H
    replace H : (if t281 = true then (some (a0_3 == 0)) else (some false)) = some r := H
    have A10 := am A100
    clear A100
    by_cases c11 : t281 = true
    ·subst c11
     have H1 : (some (a0_3 == 0)) = some r := by rw [if_pos rfl] at H; exact H
     clear H
     have H := H1
     clear H1
     obtain rfl := Option.some.inj H
     have hnb12 := NB279_280.out
     have hnc12 := NB280_279.out
     have hcz13_0 := bc0 BK279.out
     have hcz13_1 := bc1 BK279.out
     have hcz13_2 := bc2 BK279.out
     have hcz13_3 := bc3 BK279.out
     have hfz13_0 := blk_frozen BK279.out 0
     have hfz13_1 := blk_frozen BK279.out 1
     have hfz13_2 := blk_frozen BK279.out 2
     have hfz13_3 := blk_frozen BK279.out 3
     go_wp2_with (first | ((with_reducible refine gate_callee (f := 95) rfl ?_); refine gL (some 12) Try.func95 #[.int .i64 a0_2] ?_; (with_reducible refine (impl_codeOk.calls a0_2 true _ A10.out).mono ?_); rintro e w' ⟨rfl, ⟨nd, rfl⟩⟩; refine ⟨_, rfl, ?_⟩))
     go_ret
     exact ⟨Y0, Y24⟩
    ·replace c11 := Bool.eq_false_iff.mpr c11
     subst c11
     have H1 : (some false) = some r := by rw [if_neg (show ¬ (false = true) by decide)] at H; exact H
     clear H
     have H := H1
     clear H1
     obtain rfl := Option.some.inj H
     have hnb14 := NB279_280.out
     have hnc14 := NB280_279.out
     have hcz15_0 := bc0 BK279.out
     have hcz15_1 := bc1 BK279.out
     have hcz15_2 := bc2 BK279.out
     have hcz15_3 := bc3 BK279.out
     have hfz15_0 := blk_frozen BK279.out 0
     have hfz15_1 := blk_frozen BK279.out 1
     have hfz15_2 := blk_frozen BK279.out 2
     have hfz15_3 := blk_frozen BK279.out 3
     go_wp2_with (first | ((with_reducible refine gate_callee (f := 95) rfl ?_); refine gL (some 12) Try.func95 #[.int .i64 a0_2] ?_; (with_reducible refine (impl_codeOk.calls a0_2 false _ A10.out).mono ?_); rintro e w' ⟨rfl, ⟨nd, rfl⟩⟩; refine ⟨_, rfl, ?_⟩))
     go_ret
     exact ⟨Y0, Y24⟩
   ·replace c9 := Bool.eq_false_iff.mpr c9
    subst c9
    have H1 : (if a0_1 = 2 then ((impl_Tree_has.f l1_0 a0_2).bind fun t282 => (if t282 = true then ((impl_codeOk.f a0_3).bind fun t283 => (some t283)) else (some false))) else (if a0_1 = 8 then ((impl_Tree_has.f l1_0 a0_2).bind fun t284 => (if t284 = true then (some (a0_3 == 0)) else (some false))) else (if a0_1 = 11 then ((impl_within.f a0_2 0 9).bind fun t285 => (if t285 = true then ((impl_within.f a0_3 0 1).bind fun t286 => (some t286)) else (some false))) else (if a0_1 = 12 then ((impl_within.f a0_2 0 3).bind fun t287 => (if t287 = true then (some (a0_3 == 0)) else (some false))) else ((impl_within.f a0_1 0 12).bind fun t288 => (if t288 = true then (if a0_2 = 0 then (some (a0_3 == 0)) else (some false)) else (some false))))))) = some r := by rw [if_neg (show ¬ (false = true) by decide)] at H; exact H
    clear H
    have H := H1
    clear H1
    by_cases c16 : a0_1 = 2
    ·rw [if_pos c16] at H
     have c16b0 : (a0_1 == 2) = true := beq_iff_eq.mpr c16
     have c16b1 : (a0_1 != 2) = false := bne_eq_false_iff_eq.mpr c16
     clear c16
     replace H := Option.bind_eq_some_iff.mp H
     obtain ⟨t282, A170, H⟩ := H
     replace H : (if t282 = true then ((impl_codeOk.f a0_3).bind fun t283 => (some t283)) else (some false)) = some r := H
     have A17 := am A170
     clear A170
     by_cases c18 : t282 = true
     ·subst c18
      have H1 : ((impl_codeOk.f a0_3).bind fun t283 => (some t283)) = some r := by rw [if_pos rfl] at H; exact H
      clear H
      have H := H1
      clear H1
      replace H := Option.bind_eq_some_iff.mp H
      obtain ⟨t283, A190, H⟩ := H
      replace H : (some t283) = some r := H
      have A19 := am A190
      clear A190
      obtain rfl := Option.some.inj H
      have hnb20 := NB280_279.out
      have hnc20 := NB279_280.out
      have hcz21_0 := bc0 BK280.out
      have hfz21_0 := blk_frozen BK280.out 0
      have hcz22_0 := bc0 BK279.out
      have hcz22_1 := bc1 BK279.out
      have hcz22_2 := bc2 BK279.out
      have hcz22_3 := bc3 BK279.out
      have hfz22_0 := blk_frozen BK279.out 0
      have hfz22_1 := blk_frozen BK279.out 1
      have hfz22_2 := blk_frozen BK279.out 2
      have hfz22_3 := blk_frozen BK279.out 3
      go_wp2_with (first | ((with_reducible refine gate_callee (f := 49) rfl ?_); refine gL (some 23) Try.func49 #[.agg #[.slice A1_0 l1_0.length c1_0], .int .i64 a0_2] ?_; (with_reducible refine (impl_Tree_has.calls _ _ l1_0 a0_2 true _ ?side1 ?side2 A17.out).mono ?_); (case side1 => exact cq (Kd.C_below HR1_0.out HB.out)); (case side2 => exact HC1_0.out); rintro e w23 ⟨rfl, hb⟩; refine ⟨_, rfl, ?_⟩; replace BK279 := am (blk_below (g := gb279) (o := .cells #[.int .i64 a0_0, .int .i64 a0_1, .int .i64 a0_2, .int .i64 a0_3] 52 (0, 0)) (kq BK279.out) hb); replace BK280 := am (blk_below (g := gb280) (o := .cells #[.slice A1_0 l1_0.length c1_0] 32 (0, 0)) (kq BK280.out) hb); replace HB := am (below_step (Y24) hb); (try clear hb); (try clear hb2); (try clear hk); (try clear hi); have hcz24_0 := bc0 BK279.out; have hcz24_1 := bc1 BK279.out; have hcz24_2 := bc2 BK279.out; have hcz24_3 := bc3 BK279.out; have hfz24_0 := blk_frozen BK279.out 0; have hfz24_1 := blk_frozen BK279.out 1; have hfz24_2 := blk_frozen BK279.out 2; have hfz24_3 := blk_frozen BK279.out 3) | (go_at_call 95; (with_reducible refine (impl_codeOk.calls a0_3 t283 _ A19.out).mono ?_); rintro e w' ⟨rfl, ⟨nd, rfl⟩⟩))
      go_ret
      exact ⟨Y0, Y24⟩
     ·replace c18 := Bool.eq_false_iff.mpr c18
      subst c18
      have H1 : (some false) = some r := by rw [if_neg (show ¬ (false = true) by decide)] at H; exact H
      clear H
      have H := H1
      clear H1
      obtain rfl := Option.some.inj H
      have hnb25 := NB280_279.out
      have hnc25 := NB279_280.out
      have hcz26_0 := bc0 BK280.out
      have hfz26_0 := blk_frozen BK280.out 0
      have hcz27_0 := bc0 BK279.out
      have hcz27_1 := bc1 BK279.out
      have hcz27_2 := bc2 BK279.out
      have hcz27_3 := bc3 BK279.out
      have hfz27_0 := blk_frozen BK279.out 0
      have hfz27_1 := blk_frozen BK279.out 1
      have hfz27_2 := blk_frozen BK279.out 2
      have hfz27_3 := blk_frozen BK279.out 3
      go_wp2_with (first | ((with_reducible refine gate_callee (f := 49) rfl ?_); refine gL (some 23) Try.func49 #[.agg #[.slice A1_0 l1_0.length c1_0], .int .i64 a0_2] ?_; (with_reducible refine (impl_Tree_has.calls _ _ l1_0 a0_2 false _ ?side1 ?side2 A17.out).mono ?_); (case side1 => exact cq (Kd.C_below HR1_0.out HB.out)); (case side2 => exact HC1_0.out); rintro e w28 ⟨rfl, hb⟩; refine ⟨_, rfl, ?_⟩; replace BK279 := am (blk_below (g := gb279) (o := .cells #[.int .i64 a0_0, .int .i64 a0_1, .int .i64 a0_2, .int .i64 a0_3] 52 (0, 0)) (kq BK279.out) hb); replace BK280 := am (blk_below (g := gb280) (o := .cells #[.slice A1_0 l1_0.length c1_0] 32 (0, 0)) (kq BK280.out) hb); replace HB := am (below_step (Y24) hb); (try clear hb); (try clear hb2); (try clear hk); (try clear hi)))
      go_ret
      exact ⟨Y0, Y24⟩
    ·rw [if_neg c16] at H
     have c16b0 : (a0_1 == 2) = false := beq_eq_false_iff_ne.mpr c16
     have c16b1 : (a0_1 != 2) = true := bne_iff_ne.mpr c16
     by_cases c29 : a0_1 = 8
     ·rw [if_pos c29] at H
      have c29b0 : (a0_1 == 8) = true := beq_iff_eq.mpr c29
      have c29b1 : (a0_1 != 8) = false := bne_eq_false_iff_eq.mpr c29
      clear c29
      replace H := Option.bind_eq_some_iff.mp H
      obtain ⟨t284, A300, H⟩ := H
      replace H : (if t284 = true then (some (a0_3 == 0)) else (some false)) = some r := H
      have A30 := am A300
      clear A300
      by_cases c31 : t284 = true
      ·subst c31
       have H1 : (some (a0_3 == 0)) = some r := by rw [if_pos rfl] at H; exact H
       clear H
       have H := H1
       clear H1
       obtain rfl := Option.some.inj H
       have hnb32 := NB280_279.out
       have hnc32 := NB279_280.out
       have hcz33_0 := bc0 BK280.out
       have hfz33_0 := blk_frozen BK280.out 0
       have hcz34_0 := bc0 BK279.out
       have hcz34_1 := bc1 BK279.out
       have hcz34_2 := bc2 BK279.out
       have hcz34_3 := bc3 BK279.out
       have hfz34_0 := blk_frozen BK279.out 0
       have hfz34_1 := blk_frozen BK279.out 1
       have hfz34_2 := blk_frozen BK279.out 2
       have hfz34_3 := blk_frozen BK279.out 3
       go_wp2_with (first | ((with_reducible refine gate_callee (f := 49) rfl ?_); refine gL (some 34) Try.func49 #[.agg #[.slice A1_0 l1_0.length c1_0], .int .i64 a0_2] ?_; (with_reducible refine (impl_Tree_has.calls _ _ l1_0 a0_2 true _ ?side1 ?side2 A30.out).mono ?_); (case side1 => exact cq (Kd.C_below HR1_0.out HB.out)); (case side2 => exact HC1_0.out); rintro e w35 ⟨rfl, hb⟩; refine ⟨_, rfl, ?_⟩; replace BK279 := am (blk_below (g := gb279) (o := .cells #[.int .i64 a0_0, .int .i64 a0_1, .int .i64 a0_2, .int .i64 a0_3] 52 (0, 0)) (kq BK279.out) hb); replace BK280 := am (blk_below (g := gb280) (o := .cells #[.slice A1_0 l1_0.length c1_0] 32 (0, 0)) (kq BK280.out) hb); replace HB := am (below_step (Y24) hb); (try clear hb); (try clear hb2); (try clear hk); (try clear hi); have hcz36_0 := bc0 BK279.out; have hcz36_1 := bc1 BK279.out; have hcz36_2 := bc2 BK279.out; have hcz36_3 := bc3 BK279.out; have hfz36_0 := blk_frozen BK279.out 0; have hfz36_1 := blk_frozen BK279.out 1; have hfz36_2 := blk_frozen BK279.out 2; have hfz36_3 := blk_frozen BK279.out 3))
       go_ret
       exact ⟨Y0, Y24⟩
      ·replace c31 := Bool.eq_false_iff.mpr c31
       subst c31
       have H1 : (some false) = some r := by rw [if_neg (show ¬ (false = true) by decide)] at H; exact H
       clear H
       have H := H1
       clear H1
       obtain rfl := Option.some.inj H
       have hnb37 := NB280_279.out
       have hnc37 := NB279_280.out
       have hcz38_0 := bc0 BK280.out
       have hfz38_0 := blk_frozen BK280.out 0
       have hcz39_0 := bc0 BK279.out
       have hcz39_1 := bc1 BK279.out
       have hcz39_2 := bc2 BK279.out
       have hcz39_3 := bc3 BK279.out
       have hfz39_0 := blk_frozen BK279.out 0
       have hfz39_1 := blk_frozen BK279.out 1
       have hfz39_2 := blk_frozen BK279.out 2
       have hfz39_3 := blk_frozen BK279.out 3
       go_wp2_with (first | ((with_reducible refine gate_callee (f := 49) rfl ?_); refine gL (some 34) Try.func49 #[.agg #[.slice A1_0 l1_0.length c1_0], .int .i64 a0_2] ?_; (with_reducible refine (impl_Tree_has.calls _ _ l1_0 a0_2 false _ ?side1 ?side2 A30.out).mono ?_); (case side1 => exact cq (Kd.C_below HR1_0.out HB.out)); (case side2 => exact HC1_0.out); rintro e w40 ⟨rfl, hb⟩; refine ⟨_, rfl, ?_⟩; replace BK279 := am (blk_below (g := gb279) (o := .cells #[.int .i64 a0_0, .int .i64 a0_1, .int .i64 a0_2, .int .i64 a0_3] 52 (0, 0)) (kq BK279.out) hb); replace BK280 := am (blk_below (g := gb280) (o := .cells #[.slice A1_0 l1_0.length c1_0] 32 (0, 0)) (kq BK280.out) hb); replace HB := am (below_step (Y24) hb); (try clear hb); (try clear hb2); (try clear hk); (try clear hi)))
       go_ret
       exact ⟨Y0, Y24⟩
     ·rw [if_neg c29] at H
      have c29b0 : (a0_1 == 8) = false := beq_eq_false_iff_ne.mpr c29
      have c29b1 : (a0_1 != 8) = true := bne_iff_ne.mpr c29
      by_cases c41 : a0_1 = 11
      ·rw [if_pos c41] at H
       have c41b0 : (a0_1 == 11) = true := beq_iff_eq.mpr c41
       have c41b1 : (a0_1 != 11) = false := bne_eq_false_iff_eq.mpr c41
       clear c41
       replace H := Option.bind_eq_some_iff.mp H
       obtain ⟨t285, A420, H⟩ := H
       replace H : (if t285 = true then ((impl_within.f a0_3 0 1).bind fun t286 => (some t286)) else (some false)) = some r := H
       have A42 := am A420
       clear A420
       by_cases c43 : t285 = true
       ·subst c43
        have H1 : ((impl_within.f a0_3 0 1).bind fun t286 => (some t286)) = some r := by rw [if_pos rfl] at H; exact H
        clear H
        have H := H1
        clear H1
        replace H := Option.bind_eq_some_iff.mp H
        obtain ⟨t286, A440, H⟩ := H
        replace H : (some t286) = some r := H
        have A44 := am A440
        clear A440
        obtain rfl := Option.some.inj H
        have hnb45 := NB279_280.out
        have hnc45 := NB280_279.out
        have hcz46_0 := bc0 BK279.out
        have hcz46_1 := bc1 BK279.out
        have hcz46_2 := bc2 BK279.out
        have hcz46_3 := bc3 BK279.out
        have hfz46_0 := blk_frozen BK279.out 0
        have hfz46_1 := blk_frozen BK279.out 1
        have hfz46_2 := blk_frozen BK279.out 2
        have hfz46_3 := blk_frozen BK279.out 3
        go_wp2_with (first | ((with_reducible refine gate_callee (f := 66) rfl ?_); refine gL (some 44) Try.func66 #[.int .i64 a0_2, .int .i64 0, .int .i64 9] ?_; (with_reducible refine (impl_within.calls a0_2 0 9 true _ A42.out).mono ?_); rintro e w' ⟨rfl, ⟨nd, rfl⟩⟩; refine ⟨_, rfl, ?_⟩) | (go_at_call 66; (with_reducible refine (impl_within.calls a0_3 0 1 t286 _ A44.out).mono ?_); rintro e w' ⟨rfl, ⟨nd, rfl⟩⟩))
        go_ret
        exact ⟨Y0, Y24⟩
       ·replace c43 := Bool.eq_false_iff.mpr c43
        subst c43
        have H1 : (some false) = some r := by rw [if_neg (show ¬ (false = true) by decide)] at H; exact H
        clear H
        have H := H1
        clear H1
        obtain rfl := Option.some.inj H
        have hnb47 := NB279_280.out
        have hnc47 := NB280_279.out
        have hcz48_0 := bc0 BK279.out
        have hcz48_1 := bc1 BK279.out
        have hcz48_2 := bc2 BK279.out
        have hcz48_3 := bc3 BK279.out
        have hfz48_0 := blk_frozen BK279.out 0
        have hfz48_1 := blk_frozen BK279.out 1
        have hfz48_2 := blk_frozen BK279.out 2
        have hfz48_3 := blk_frozen BK279.out 3
        go_wp2_with (first | ((with_reducible refine gate_callee (f := 66) rfl ?_); refine gL (some 44) Try.func66 #[.int .i64 a0_2, .int .i64 0, .int .i64 9] ?_; (with_reducible refine (impl_within.calls a0_2 0 9 false _ A42.out).mono ?_); rintro e w' ⟨rfl, ⟨nd, rfl⟩⟩; refine ⟨_, rfl, ?_⟩))
        go_ret
        exact ⟨Y0, Y24⟩
      ·rw [if_neg c41] at H
       have c41b0 : (a0_1 == 11) = false := beq_eq_false_iff_ne.mpr c41
       have c41b1 : (a0_1 != 11) = true := bne_iff_ne.mpr c41
       by_cases c49 : a0_1 = 12
       ·rw [if_pos c49] at H
        have c49b0 : (a0_1 == 12) = true := beq_iff_eq.mpr c49
        have c49b1 : (a0_1 != 12) = false := bne_eq_false_iff_eq.mpr c49
        clear c49
        replace H := Option.bind_eq_some_iff.mp H
        obtain ⟨t287, A500, H⟩ := H
        replace H : (if t287 = true then (some (a0_3 == 0)) else (some false)) = some r := H
        have A50 := am A500
        clear A500
        by_cases c51 : t287 = true
        ·subst c51
         have H1 : (some (a0_3 == 0)) = some r := by rw [if_pos rfl] at H; exact H
         clear H
         have H := H1
         clear H1
         obtain rfl := Option.some.inj H
         have hnb52 := NB279_280.out
         have hnc52 := NB280_279.out
         have hcz53_0 := bc0 BK279.out
         have hcz53_1 := bc1 BK279.out
         have hcz53_2 := bc2 BK279.out
         have hcz53_3 := bc3 BK279.out
         have hfz53_0 := blk_frozen BK279.out 0
         have hfz53_1 := blk_frozen BK279.out 1
         have hfz53_2 := blk_frozen BK279.out 2
         have hfz53_3 := blk_frozen BK279.out 3
         go_wp2_with (first | ((with_reducible refine gate_callee (f := 66) rfl ?_); refine gL (some 54) Try.func66 #[.int .i64 a0_2, .int .i64 0, .int .i64 3] ?_; (with_reducible refine (impl_within.calls a0_2 0 3 true _ A50.out).mono ?_); rintro e w' ⟨rfl, ⟨nd, rfl⟩⟩; refine ⟨_, rfl, ?_⟩))
         go_ret
         exact ⟨Y0, Y24⟩
        ·replace c51 := Bool.eq_false_iff.mpr c51
         subst c51
         have H1 : (some false) = some r := by rw [if_neg (show ¬ (false = true) by decide)] at H; exact H
         clear H
         have H := H1
         clear H1
         obtain rfl := Option.some.inj H
         have hnb54 := NB279_280.out
         have hnc54 := NB280_279.out
         have hcz55_0 := bc0 BK279.out
         have hcz55_1 := bc1 BK279.out
         have hcz55_2 := bc2 BK279.out
         have hcz55_3 := bc3 BK279.out
         have hfz55_0 := blk_frozen BK279.out 0
         have hfz55_1 := blk_frozen BK279.out 1
         have hfz55_2 := blk_frozen BK279.out 2
         have hfz55_3 := blk_frozen BK279.out 3
         go_wp2_with (first | ((with_reducible refine gate_callee (f := 66) rfl ?_); refine gL (some 54) Try.func66 #[.int .i64 a0_2, .int .i64 0, .int .i64 3] ?_; (with_reducible refine (impl_within.calls a0_2 0 3 false _ A50.out).mono ?_); rintro e w' ⟨rfl, ⟨nd, rfl⟩⟩; refine ⟨_, rfl, ?_⟩))
         go_ret
         exact ⟨Y0, Y24⟩
       ·rw [if_neg c49] at H
        have c49b0 : (a0_1 == 12) = false := beq_eq_false_iff_ne.mpr c49
        have c49b1 : (a0_1 != 12) = true := bne_iff_ne.mpr c49
        replace H := Option.bind_eq_some_iff.mp H
        obtain ⟨t288, A560, H⟩ := H
        replace H : (if t288 = true then (if a0_2 = 0 then (some (a0_3 == 0)) else (some false)) else (some false)) = some r := H
        have A56 := am A560
        clear A560
        by_cases c57 : t288 = true
        ·subst c57
         have H1 : (if a0_2 = 0 then (some (a0_3 == 0)) else (some false)) = some r := by rw [if_pos rfl] at H; exact H
         clear H
         have H := H1
         clear H1
         by_cases c58 : a0_2 = 0
         ·rw [if_pos c58] at H
          have c58b0 : (a0_2 == 0) = true := beq_iff_eq.mpr c58
          have c58b1 : (a0_2 != 0) = false := bne_eq_false_iff_eq.mpr c58
          clear c58
          obtain rfl := Option.some.inj H
          have hnb59 := NB279_280.out
          have hnc59 := NB280_279.out
          have hcz60_0 := bc0 BK279.out
          have hcz60_1 := bc1 BK279.out
          have hcz60_2 := bc2 BK279.out
          have hcz60_3 := bc3 BK279.out
          have hfz60_0 := blk_frozen BK279.out 0
          have hfz60_1 := blk_frozen BK279.out 1
          have hfz60_2 := blk_frozen BK279.out 2
          have hfz60_3 := blk_frozen BK279.out 3
          go_wp2_with (first | ((with_reducible refine gate_callee (f := 66) rfl ?_); refine gL (some 62) Try.func66 #[.int .i64 a0_1, .int .i64 0, .int .i64 12] ?_; (with_reducible refine (impl_within.calls a0_1 0 12 true _ A56.out).mono ?_); rintro e w' ⟨rfl, ⟨nd, rfl⟩⟩; refine ⟨_, rfl, ?_⟩))
          go_ret
          exact ⟨Y0, Y24⟩
         ·rw [if_neg c58] at H
          have c58b0 : (a0_2 == 0) = false := beq_eq_false_iff_ne.mpr c58
          have c58b1 : (a0_2 != 0) = true := bne_iff_ne.mpr c58
          obtain rfl := Option.some.inj H
          have hnb61 := NB279_280.out
          have hnc61 := NB280_279.out
          have hcz62_0 := bc0 BK279.out
          have hcz62_1 := bc1 BK279.out
          have hcz62_2 := bc2 BK279.out
          have hcz62_3 := bc3 BK279.out
          have hfz62_0 := blk_frozen BK279.out 0
          have hfz62_1 := blk_frozen BK279.out 1
          have hfz62_2 := blk_frozen BK279.out 2
          have hfz62_3 := blk_frozen BK279.out 3
          go_wp2_with (first | ((with_reducible refine gate_callee (f := 66) rfl ?_); refine gL (some 62) Try.func66 #[.int .i64 a0_1, .int .i64 0, .int .i64 12] ?_; (with_reducible refine (impl_within.calls a0_1 0 12 true _ A56.out).mono ?_); rintro e w' ⟨rfl, ⟨nd, rfl⟩⟩; refine ⟨_, rfl, ?_⟩))
          go_ret
          exact ⟨Y0, Y24⟩
        ·replace c57 := Bool.eq_false_iff.mpr c57
         subst c57
         have H1 : (some false) = some r := by rw [if_neg (show ¬ (false = true) by decide)] at H; exact H
         clear H
         have H := H1
         clear H1
         obtain rfl := Option.some.inj H
         have hnb63 := NB279_280.out
         have hnc63 := NB280_279.out
         have hcz64_0 := bc0 BK279.out
         have hcz64_1 := bc1 BK279.out
         have hcz64_2 := bc2 BK279.out
         have hcz64_3 := bc3 BK279.out
         have hfz64_0 := blk_frozen BK279.out 0
         have hfz64_1 := blk_frozen BK279.out 1
         have hfz64_2 := blk_frozen BK279.out 2
         have hfz64_3 := blk_frozen BK279.out 3
         go_wp2_with (first | ((with_reducible refine gate_callee (f := 66) rfl ?_); refine gL (some 62) Try.func66 #[.int .i64 a0_1, .int .i64 0, .int .i64 12] ?_; (with_reducible refine (impl_within.calls a0_1 0 12 false _ A56.out).mono ?_); rintro e w' ⟨rfl, ⟨nd, rfl⟩⟩; refine ⟨_, rfl, ?_⟩))
         go_ret
         exact ⟨Y0, Y24⟩
def impl_Line_opens.f (a0_0 : Int) (a0_1 : Int) (a0_2 : Int) (a0_3 : Int) : Option (Bool) := (impl_within.f a0_1 7 12).bind fun t290 => (some t290)
set_option maxHeartbeats 8000000 in
set_option maxRecDepth 100000 in
theorem impl_Line_opens.calls (a0_0 : Int) (a0_1 : Int) (a0_2 : Int) (a0_3 : Int) (r : Bool) (w : World) (h : impl_Line_opens.f a0_0 a0_1 a0_2 a0_3 = some r) :
  Calls Try.prog 67 #[.agg #[.int .i64 a0_0, .int .i64 a0_1, .int .i64 a0_2, .int .i64 a0_3]] w fun e w' => e = .returned (.bool r) ∧ Below w.heap.size w w' := by
 have hu52 := Try.underlying52
 have HB := am (Below.refl w.heap.size w)
 have H : ((impl_within.f a0_1 7 12).bind fun t290 => (some t290)) = some r := h
 clear h
 replace H := Option.bind_eq_some_iff.mp H
 obtain ⟨t290, A20, H⟩ := H
 replace H : (some t290) = some r := H
 have A2 := am A20
 clear A20
 obtain rfl := Option.some.inj H
 go_enter Try.func67, Try.ntmps67
 go_wp2_with (first | ((with_reducible refine gate_dst (N := 1) rfl ?_); refine bE (N := 1) (cs := #[.int .i64 a0_0, .int .i64 a0_1, .int .i64 a0_2, .int .i64 a0_3]) (t := 52) ?_; intro gb289 hg w3 hbox hb; have BK289 := am (hbox); have GW289 := am ((Y1 : w.heap.size ≤ gb289)); have GE289 := am ((Y1 : w.heap.size ≤ gb289)); replace HB := am (below_step (bq) hb); clear hb hbox hg; have hcz4_0 := bc0 BK289.out; have hcz4_1 := bc1 BK289.out; have hcz4_2 := bc2 BK289.out; have hcz4_3 := bc3 BK289.out; have hfz4_0 := blk_frozen BK289.out 0; have hfz4_1 := blk_frozen BK289.out 1; have hfz4_2 := blk_frozen BK289.out 2; have hfz4_3 := blk_frozen BK289.out 3) | ((with_reducible refine gate_callee (f := 66) rfl ?_); refine gL (some 5) Try.func66 #[.int .i64 a0_1, .int .i64 7, .int .i64 12] ?_; (with_reducible refine (impl_within.calls a0_1 7 12 t290 _ A2.out).mono ?_); rintro e w' ⟨rfl, ⟨nd, rfl⟩⟩; refine ⟨_, rfl, ?_⟩))
 go_ret
 exact ⟨Y0, by repeat (first | (with_reducible first | exact HB.out | apply below_alloc | apply pw_below_drewN | apply below_drew1 | refine below_set ?_ GE289.out) | exact HB.out)⟩
def impl_endOf.l0 : Nat → List (S52) → Int → Int → Option (Int)
 | 0, _, _, _ => none
 | k + 1, x0, x1, x5 => if x5 < (x0.length : Int) then (if 0 ≤ x5 then (if 0 ≤ x1 then (if x1 < (x0.length : Int) then (if ((rd_T52 x0 x5).f0) > ((rd_T52 x0 x1).f0) then (impl_endOf.l0 k x0 x1 (wrap64 (x5 + 1))) else (some x5)) else (none)) else (none)) else (none)) else (some x5)
def impl_endOf.f (k : Nat) (l0 : List (S52)) (a1 : Int) : Option (Int) := impl_endOf.l0 k l0 a1 (wrap64 (a1 + 1))
set_option maxHeartbeats 8000000 in
set_option maxRecDepth 100000 in
theorem impl_endOf.calls (k : Nat) (A0 : Option Addr) (c0 : Nat) (l0 : List (S52)) (a1 : Int) (r : Int) (w : World) (hr0 : Kd.C k52 w A0 l0.length l0) (hc0 : l0.length ≤ c0) (h : impl_endOf.f k l0 a1 = some r) :
  Calls Try.prog 89 #[.slice A0 l0.length c0, .int .i64 a1] w fun e w' => e = .returned (.int .i64 r) ∧ Drawn0 w w' := by
 have HR0 := am hr0
 have HC0 := am hc0
 clear hr0 hc0
 have H : (impl_endOf.l0 k l0 a1 (wrap64 (a1 + 1))) = some r := h
 clear h
 have H' := am H
 clear H
 go_enter Try.func89, Try.ntmps89
 go_wp2
 repeat (go_quiet (fail); try go_wp2)
 go_loopg [5] k (fun kq v5 w' => ∃ (x5_1 : Int), v5 = .int .i64 x5_1 ∧ Aside0 (impl_endOf.l0 kq l0 a1 x5_1 = some r) ∧ Aside0 (kq ≤ k) ∧ Drawn0 w w')
 case atStart => exact ⟨(wrap64 (a1 + 1)), (sq), H', ⟨Nat.le_refl _⟩, Y4⟩
 case round =>
  clear H'
  try clear p2
  obtain ⟨x5_1, rfl, HA, HK1, ⟨m1, rfl⟩⟩ := hrel
  cases gk with
  | zero => exact absurd HA.out (by simp [impl_endOf.l0])
  | succ k1 =>
   have H := HA.out
   clear HA
   simp only [impl_endOf.l0] at H
   by_cases c3 : x5_1 < (l0.length : Int)
   ·rw [if_pos c3] at H
    have c3b0 : decide (x5_1 < (l0.length : Int)) = true := decide_eq_true c3
    clear c3
    by_cases c4 : 0 ≤ x5_1
    ·rw [if_pos c4] at H
     have c4b0 : decide (0 ≤ x5_1) = true := decide_eq_true c4
     clear c4
     by_cases c5 : 0 ≤ a1
     ·rw [if_pos c5] at H
      have c5b0 : decide (0 ≤ a1) = true := decide_eq_true c5
      clear c5
      by_cases c6 : a1 < (l0.length : Int)
      ·rw [if_pos c6] at H
       have c6b0 : decide (a1 < (l0.length : Int)) = true := decide_eq_true c6
       clear c6
       by_cases c7 : ((rd_T52 l0 x5_1).f0) > ((rd_T52 l0 a1).f0)
       ·rw [if_pos c7] at H
        have c7b0 : decide (((rd_T52 l0 a1).f0) < ((rd_T52 l0 x5_1).f0)) = true := decide_eq_true c7
        clear c7
        have H' := am H
        clear H
        have p291 : 0 ≤ (x5_1 : Int) := of_decide_eq_true (uq)
        have q291 : x5_1 < (l0.length : Int) := of_decide_eq_true (uq)
        obtain ⟨ad291, e291, hx291_0, hx291_1, hx291_2, hx291_3⟩ := at_T52 HR0.out x5_1 p291 q291
        cases e291
        replace p291 := eq_true p291
        replace q291 := eq_true q291
        have p292 : 0 ≤ (a1 : Int) := of_decide_eq_true (uq)
        have q292 : a1 < (l0.length : Int) := of_decide_eq_true (uq)
        obtain ⟨ad292, e292, hx292_0, hx292_1, hx292_2, hx292_3⟩ := at_T52 HR0.out a1 p292 q292
        obtain rfl : ad291 = ad292 := (by injection e292)
        replace p292 := eq_true p292
        replace q292 := eq_true q292
        go_wp2
        repeat (go_quiet (fail); try go_wp2)
        go_roundg k1
        case measure => have := HK1.out; omega
        case rel => exact ⟨(wrap64 (x5_1 + 1)), (sq), H', ⟨by have := HK1.out; omega⟩, Y4⟩
       ·rw [if_neg c7] at H
        have c7b0 : decide (((rd_T52 l0 a1).f0) < ((rd_T52 l0 x5_1).f0)) = false := decide_eq_false c7
        clear c7
        obtain rfl := Option.some.inj H
        have p291 : 0 ≤ (x5_1 : Int) := of_decide_eq_true (uq)
        have q291 : x5_1 < (l0.length : Int) := of_decide_eq_true (uq)
        obtain ⟨ad291, e291, hx291_0, hx291_1, hx291_2, hx291_3⟩ := at_T52 HR0.out x5_1 p291 q291
        cases e291
        replace p291 := eq_true p291
        replace q291 := eq_true q291
        have p292 : 0 ≤ (a1 : Int) := of_decide_eq_true (uq)
        have q292 : a1 < (l0.length : Int) := of_decide_eq_true (uq)
        obtain ⟨ad292, e292, hx292_0, hx292_1, hx292_2, hx292_3⟩ := at_T52 HR0.out a1 p292 q292
        obtain rfl : ad291 = ad292 := (by injection e292)
        replace p292 := eq_true p292
        replace q292 := eq_true q292
        go_wp2
        repeat (go_quiet (fail); try go_wp2)
        go_ret
        exact ⟨sq, Y4⟩
      ·rw [if_neg c6] at H
       exact absurd H (by simp)
     ·rw [if_neg c5] at H
      exact absurd H (by simp)
    ·rw [if_neg c4] at H
     exact absurd H (by simp)
   ·rw [if_neg c3] at H
    have c3b0 : decide (x5_1 < (l0.length : Int)) = false := decide_eq_false c3
    clear c3
    obtain rfl := Option.some.inj H
    go_wp2
    repeat (go_quiet (fail); try go_wp2)
    go_ret
    exact ⟨sq, Y4⟩
end Go.Proofs.Ytkokajljeebgdaa.P
end
