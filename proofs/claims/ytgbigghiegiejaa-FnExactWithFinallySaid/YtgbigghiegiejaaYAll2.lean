/- One part of the proofs on this program: functions of the program as plain functions, that the code comes to them, and facts on them. -/
import Derived.Test.YtgbigghiegiejaaYAll1
import Derived.Test.YtgbigghiegiejaaYWAuto
section
namespace Go.Proofs.Ytgbigghiegiejaa.P
open Go.RowKit Go.Proofs.YtgbigghiegiejaaW.PrintWords Go.Proofs.YtgbigghiegiejaaW.PrintLast Go.Proofs.YtgbigghiegiejaaW.PrintMore
attribute [local go_sem] max2_int min2_int max_two min_two max_three min_three max_four min_four isSome_cell_setCell
set_option linter.unusedVariables false
set_option linter.unusedSimpArgs false
def spec_validLine.inB (a lo hi : Int) : Bool := decide (lo ≤ a) && decide (a ≤ hi)
theorem spec_inRange_eq (a lo hi : Int) : spec_inRange.f a lo hi = some (spec_validLine.inB a lo hi) := by
 unfold spec_inRange.f spec_validLine.inB
 by_cases h : lo ≤ a
 ·rw [if_pos h]; simp [h]
 ·rw [if_neg h]; simp [h]
theorem spec_opens_eq (a : Int) : spec_opens.f a = some (spec_validLine.inB a 7 12) := by
 unfold spec_opens.f
 rw [spec_inRange_eq]; rfl
theorem spec_follows_eq (a : Int) : spec_follows.f a = some (spec_validLine.inB a 8 10) := by
 unfold spec_follows.f
 rw [spec_inRange_eq]; rfl
def spec_validLine.off (p : List S50) (i : Int) (x : S50) : Bool :=
 if (if i = 0 then decide (x.f0 ≠ 0) else if (wrap64 ((rd_T50 p (i - 1)).f0 + 1)) < x.f0 then true else (spec_validLine.inB (rd_T50 p (i - 1)).f1 7 12 != (x.f0 == wrap64 ((rd_T50 p (i - 1)).f0 + 1)))) then true
 else decide (i + 1 = (p.length : Int)) && spec_validLine.inB x.f1 7 12
def spec_validLine.f (k : Nat) (l0_0 : List S63) (l1 : List S50) (a2 : Int) : Option Bool :=
 if 0 ≤ a2 then if a2 < (l1.length : Int) then
  (spec_validNumbers.f k l0_0 (rd_T50 l1 a2).f0 (rd_T50 l1 a2).f1 (rd_T50 l1 a2).f2 (rd_T50 l1 a2).f3).bind fun v =>
  if v = false then some false else if spec_validLine.inB (rd_T50 l1 a2).f0 0 5 = false then some false else
  if spec_validLine.off l1 a2 (rd_T50 l1 a2) then some false else
  (if (rd_T50 l1 a2).f1 = 7 then spec_validChain.f k l1 a2 else some true).bind fun c1 => if c1 = false then some false else
  (if (rd_T50 l1 a2).f1 = 5 ∨ (rd_T50 l1 a2).f1 = 6 then spec_inLoop.f k l1 a2 else some true).bind fun c2 => if c2 = false then some false else
  if spec_validLine.inB (rd_T50 l1 a2).f1 8 10 = false then some true else
  (spec_headOf.f k l1 a2).bind fun h => if 0 ≤ h then if h < (l1.length : Int) then some ((rd_T50 l1 h).f1 == 7 || spec_validLine.inB (rd_T50 l1 h).f1 8 10) else none else some false
 else none else none
def VX (W : World) (BX : Nat) (x : S50) : Prop := W.heap[BX]? = some (.cells #[.int .i64 x.f0, .int .i64 x.f1, .int .i64 x.f2, .int .i64 x.f3] 50 (0, 0))
theorem VX.below {W W' : World} {BX : Nat} {x : S50} (h : VX W BX x) (hb : Below W.heap.size W W') : VX W' BX x := (hb.block _ (blk_lt h)).trans h
theorem VX.cells {W : World} {BX : Nat} {x : S50} (h : VX W BX x) : W.cell? ⟨BX, 0, none⟩ = some (.int .i64 x.f0) ∧ W.cell? ⟨BX, 1, none⟩ = some (.int .i64 x.f1) ∧ W.cell? ⟨BX, 2, none⟩ = some (.int .i64 x.f2) ∧ W.cell? ⟨BX, 3, none⟩ = some (.int .i64 x.f3) :=
 ⟨(blk_cell h 0).trans rfl, (blk_cell h 1).trans rfl, (blk_cell h 2).trans rfl, (blk_cell h 3).trans rfl⟩
set_option maxHeartbeats 8000000 in
set_option maxRecDepth 100000 in
theorem spec_validLine.calls (k : Nat) (A0_0 : Option Addr) (c0_0 : Nat) (l0_0 : List S63) (A1 : Option Addr) (c1 : Nat) (l1 : List S50) (a2 : Int) (r : Bool) (w : World) (hr0_0 : Kd.C k63 w A0_0 l0_0.length l0_0) (hc0_0 : l0_0.length ≤ c0_0) (hr1 : Kd.C k50 w A1 l1.length l1) (hc1 : l1.length ≤ c1) (h : spec_validLine.f k l0_0 l1 a2 = some r) :
  Calls Try.prog 45 #[.agg #[.slice A0_0 l0_0.length c0_0], .slice A1 l1.length c1, .int .i64 a2] w fun e w' => e = .returned (.bool r) ∧ Below w.heap.size w w' := by
 have hu33 := Try.underlying33
 have hu50 := Try.underlying50
 have hm : l1.length ≤ 9223372036854775807 := Kd.C_max hr1
 unfold spec_validLine.f at h
 by_cases h0 : 0 ≤ a2
 ·rw [if_pos h0] at h
  by_cases h1 : a2 < (l1.length : Int)
  ·rw [if_pos h1] at h
   obtain ⟨v, hv, h⟩ := Option.bind_eq_some_iff.mp h
   have HN := am (fun W (hb : Below w.heap.size w W) => spec_validNumbers.calls k A0_0 c0_0 l0_0 _ _ _ _ v W (Kd.C_below hr0_0 hb) hc0_0 hv)
   clear hv
   obtain ⟨ad, rfl, hx0, hx1, hx2, hx3⟩ := at_T50 hr1 a2 h0 h1
   have HR1 := am hr1
   clear hr0_0 hr1
   generalize hgx : rd_T50 l1 a2 = x at h HN hx0 hx1 hx2 hx3
   clear hgx
   have X1 := am (show VX ((w.alloc (.cells #[.slice A0_0 l0_0.length c0_0] 33)).alloc (.cells #[.int .i64 x.f0, .int .i64 x.f1, .int .i64 x.f2, .int .i64 x.f3] 50)) (w.heap.size + 1) x by have := heap_alloc_new (w.alloc (.cells #[.slice A0_0 l0_0.length c0_0] 33)) (.cells #[.int .i64 x.f0, .int .i64 x.f1, .int .i64 x.f2, .int .i64 x.f3] 50); simpa [VX] using this)
   have HB1 := am (((Below.refl w.heap.size w).alloc (Nat.le_refl _) (.cells #[.slice A0_0 l0_0.length c0_0] 33)).alloc (by simp) (.cells #[.int .i64 x.f0, .int .i64 x.f1, .int .i64 x.f2, .int .i64 x.f3] 50))
   have hbt := (Below.refl w.heap.size w).alloc (Nat.le_refl _) (.cells #[.slice A0_0 l0_0.length c0_0] 33)
   replace hx0 := pw_cell_below hbt hx0
   replace hx1 := pw_cell_below hbt hx1
   replace hx2 := pw_cell_below hbt hx2
   replace hx3 := pw_cell_below hbt hx3
   clear hbt
   have p0 := eq_true h0
   have p1 := eq_true h1
   cases v with
   | false =>
    obtain rfl : false = r := by simpa using h
    clear h
    go_enter Try.func45, Try.ntmps45
    go_wp2_with (first | (go_at_call 53; refine (HN.out _ HB1.out).mono ?_; rintro e w2 ⟨rfl, hb2⟩; have X2 := am (VX.below X1.out hb2); have HB2 := am (below_then HB1.out HB1.out.size hb2); clear hb2; obtain ⟨e0, e1, e2, e3⟩ := VX.cells X2.out))
    go_ret
    exact ⟨rfl, HB2.out⟩
   | true =>
    simp only [Bool.true_eq_false, if_false] at h
    cases h5 : spec_validLine.inB x.f0 0 5 with
    | false =>
     have H5 := am h5
     rw [h5, if_pos rfl] at h
     obtain rfl : false = r := by simpa using h
     clear h h5
     go_enter Try.func45, Try.ntmps45
     go_wp2_with (first | (go_at_call 53; refine (HN.out _ HB1.out).mono ?_; rintro e w2 ⟨rfl, hb2⟩; have X2 := am (VX.below X1.out hb2); have HB2 := am (below_then HB1.out HB1.out.size hb2); clear hb2; obtain ⟨e0, e1, e2, e3⟩ := VX.cells X2.out) | (go_at_call 54; refine (spec_inRange.calls _ _ _ _ _ (spec_inRange_eq _ _ _)).mono ?_; rintro e w3 ⟨rfl, hd3⟩; have hb3 := hd3.below; clear hd3; have X3 := am (VX.below X2.out hb3); have HB3 := am (below_then HB2.out HB2.out.size hb3); clear hb3 e0 e1 e2 e3; obtain ⟨e0, e1, e2, e3⟩ := VX.cells X3.out; rw [H5.out]))
     go_ret
     exact ⟨rfl, HB3.out⟩
    | true =>
     have H5 := am h5
     rw [h5] at h
     simp only [Bool.true_eq_false, if_false] at h
     clear h5
     have HH := am h
     clear h
     go_enter Try.func45, Try.ntmps45
     go_upto_region 4 with (first | (go_at_call 53; refine (HN.out _ HB1.out).mono ?_; rintro e w2 ⟨rfl, hb2⟩; have X2 := am (VX.below X1.out hb2); have HB2 := am (below_then HB1.out HB1.out.size hb2); clear hb2; obtain ⟨e0, e1, e2, e3⟩ := VX.cells X2.out) | (go_at_call 54; refine (spec_inRange.calls _ _ _ _ _ (spec_inRange_eq _ _ _)).mono ?_; rintro e w3 ⟨rfl, hd3⟩; have hb3 := hd3.below; clear hd3; have X3 := am (VX.below X2.out hb3); have HB3 := am (below_then HB2.out HB2.out.size hb3); clear hb3 e0 e1 e2 e3; obtain ⟨e0, e1, e2, e3⟩ := VX.cells X3.out; rw [H5.out]))
     go_cut [77] (fun v77 wc => v77 = .bool (spec_validLine.off l1 a2 x) ∧ Aside0 (VX wc (w.heap.size + 1) x) ∧ Aside0 (Below w.heap.size w wc))
     case first =>
      clear HH
      have HO := am (fun (a : Int) (b : Bool) (hb : spec_validLine.inB a 7 12 = b) W => (spec_opens.calls a b W (by rw [spec_opens_eq, hb])).mono fun e w' h => (⟨h.1, h.2.out⟩ : e = .returned (.bool b) ∧ ∃ m, w' = W.drewN m))
      have hw2 : IntKind.i64.wrap (a2 + 1) = a2 + 1 := IntWalk.i64_in _ (by omega)
      by_cases z0 : a2 = 0
      ·have b0 : (a2 == 0) = true := beq_iff_eq.2 z0
       have b0' : decide (0 < a2) = false := decide_eq_false (by omega)
       by_cases zx : x.f0 = 0
       ·have b1 : (x.f0 != 0) = false := by simpa using zx
        have HE := am (by unfold spec_validLine.off; rw [if_pos z0]; simp [zx] : spec_validLine.off l1 a2 x = (decide (a2 + 1 = (l1.length : Int)) && spec_validLine.inB x.f1 7 12))
        clear z0
        clear zx
        by_cases zl : a2 + 1 = (l1.length : Int)
        ·have b3 : (a2 + 1 == (l1.length : Int)) = true := by rw [beq_iff_eq]; omega
         cases hx : spec_validLine.inB x.f1 7 12 with
         | true =>
          have HX := am hx
          have HF := am (by rw [HE.out, hx, decide_eq_true zl]; rfl : spec_validLine.off l1 a2 x = true)
          clear zl hx HE
          go_big_quiet ((go_at_call 55; exact Calls.quiet_of (HO.out x.f1 _ HX.out _)))
          go_wp2
          go_meet
          case rel => exact ⟨by rw [HF.out], X3, ⟨pw_below_drewN HB3.out _⟩⟩
         | false =>
          have HX := am hx
          have HF := am (by rw [HE.out, hx]; simp : spec_validLine.off l1 a2 x = false)
          clear zl hx HE
          go_big_quiet ((go_at_call 55; exact Calls.quiet_of (HO.out x.f1 _ HX.out _)))
          go_wp2
          go_meet
          case rel => exact ⟨by rw [HF.out], X3, ⟨pw_below_drewN HB3.out _⟩⟩
        ·have b3 : (a2 + 1 == (l1.length : Int)) = false := by rw [beq_eq_false_iff_ne]; omega
         have HF := am (by rw [HE.out, decide_eq_false zl]; rfl : spec_validLine.off l1 a2 x = false)
         clear zl HE
         go_big_quiet (fail)
         go_wp2
         go_meet
         case rel => exact ⟨by rw [HF.out], X3, ⟨pw_below_drewN HB3.out _⟩⟩
       ·have b1 : (x.f0 != 0) = true := by simpa using zx
        have HF := am (by unfold spec_validLine.off; rw [if_pos z0]; simp [zx] : spec_validLine.off l1 a2 x = true)
        clear zx z0
        go_big_quiet (fail)
        go_wp2
        go_meet
        case rel => exact ⟨by rw [HF.out], X3, ⟨pw_below_drewN HB3.out _⟩⟩
      ·have b0 : (a2 == 0) = false := beq_eq_false_iff_ne.2 z0
       have b0' : decide (0 < a2) = true := decide_eq_true (by omega)
       have q0 : 0 ≤ a2 - 1 := by omega
       have q1 : a2 - 1 < (l1.length : Int) := by omega
       obtain ⟨j, hj⟩ : ∃ j, a2 - 1 = j := ⟨_, rfl⟩
       rw [hj] at q0 q1
       obtain ⟨ad', he, y0, y1, y2, y3⟩ := at_T50 HR1.out j q0 q1
       cases he
       replace y0 := pw_cell_below HB3.out y0
       replace y1 := pw_cell_below HB3.out y1
       clear y2 y3
       replace q0 := eq_true q0
       replace q1 := eq_true q1
       have HD := am (by unfold spec_validLine.off; rw [if_neg z0] : spec_validLine.off l1 a2 x = if (if (wrap64 ((rd_T50 l1 (a2 - 1)).f0 + 1)) < x.f0 then true else (spec_validLine.inB (rd_T50 l1 (a2 - 1)).f1 7 12 != (x.f0 == wrap64 ((rd_T50 l1 (a2 - 1)).f0 + 1)))) then true else decide (a2 + 1 = (l1.length : Int)) && spec_validLine.inB x.f1 7 12)
       clear z0
       rw [hj] at HD
       generalize rd_T50 l1 j = y at HD y0 y1
       generalize hz : wrap64 (y.f0 + 1) = z at HD
       have HZ := am hz
       by_cases zt : z < x.f0
       ·have b4 : decide (z < x.f0) = true := decide_eq_true zt
        have HF := am (by rw [HD.out]; simp [zt] : spec_validLine.off l1 a2 x = true)
        clear zt HD
        go_big_quiet (fail)
        go_wp2
        go_meet
        case rel => exact ⟨by rw [HF.out], X3, ⟨pw_below_drewN HB3.out _⟩⟩
       ·have b4 : decide (z < x.f0) = false := decide_eq_false zt
        cases hy : spec_validLine.inB y.f1 7 12 with
        | true =>
         have HY := am hy
         by_cases ze : x.f0 = z
         ·have b5 : (x.f0 == z) = true := beq_iff_eq.2 ze
          have HE := am (by rw [HD.out, hy, b5]; simp [zt] : spec_validLine.off l1 a2 x = (decide (a2 + 1 = (l1.length : Int)) && spec_validLine.inB x.f1 7 12))
          clear zt HD hy ze
          by_cases zl : a2 + 1 = (l1.length : Int)
          ·have b3 : (a2 + 1 == (l1.length : Int)) = true := by rw [beq_iff_eq]; omega
           cases hx : spec_validLine.inB x.f1 7 12 with
           | true =>
            have HX := am hx
            have HF := am (by rw [HE.out, hx, decide_eq_true zl]; rfl : spec_validLine.off l1 a2 x = true)
            clear zl hx HE
            go_big_quiet (first | (go_at_call 55; exact Calls.quiet_of (HO.out y.f1 _ HY.out _)) | (go_at_call 55; exact Calls.quiet_of (HO.out x.f1 _ HX.out _)))
            go_wp2
            go_meet
            case rel => exact ⟨by rw [HF.out], X3, ⟨pw_below_drewN HB3.out _⟩⟩
           | false =>
            have HX := am hx
            have HF := am (by rw [HE.out, hx]; simp : spec_validLine.off l1 a2 x = false)
            clear zl hx HE
            go_big_quiet (first | (go_at_call 55; exact Calls.quiet_of (HO.out y.f1 _ HY.out _)) | (go_at_call 55; exact Calls.quiet_of (HO.out x.f1 _ HX.out _)))
            go_wp2
            go_meet
            case rel => exact ⟨by rw [HF.out], X3, ⟨pw_below_drewN HB3.out _⟩⟩
          ·have b3 : (a2 + 1 == (l1.length : Int)) = false := by rw [beq_eq_false_iff_ne]; omega
           have HF := am (by rw [HE.out, decide_eq_false zl]; rfl : spec_validLine.off l1 a2 x = false)
           clear zl HE
           go_big_quiet ((go_at_call 55; exact Calls.quiet_of (HO.out y.f1 _ HY.out _)))
           go_wp2
           go_meet
           case rel => exact ⟨by rw [HF.out], X3, ⟨pw_below_drewN HB3.out _⟩⟩
         ·have b5 : (x.f0 == z) = false := beq_eq_false_iff_ne.2 ze
          have HF := am (by rw [HD.out, hy, b5]; simp : spec_validLine.off l1 a2 x = true)
          clear zt HD hy ze
          go_big_quiet ((go_at_call 55; exact Calls.quiet_of (HO.out y.f1 _ HY.out _)))
          go_wp2
          go_meet
          case rel => exact ⟨by rw [HF.out], X3, ⟨pw_below_drewN HB3.out _⟩⟩
        | false =>
         have HY := am hy
         by_cases ze : x.f0 = z
         ·have b5 : (x.f0 == z) = true := beq_iff_eq.2 ze
          have HF := am (by rw [HD.out, hy, b5]; simp : spec_validLine.off l1 a2 x = true)
          clear zt HD hy ze
          go_big_quiet ((go_at_call 55; exact Calls.quiet_of (HO.out y.f1 _ HY.out _)))
          go_wp2
          go_meet
          case rel => exact ⟨by rw [HF.out], X3, ⟨pw_below_drewN HB3.out _⟩⟩
         ·have b5 : (x.f0 == z) = false := beq_eq_false_iff_ne.2 ze
          have HE := am (by rw [HD.out, hy, b5]; simp [zt] : spec_validLine.off l1 a2 x = (decide (a2 + 1 = (l1.length : Int)) && spec_validLine.inB x.f1 7 12))
          clear zt HD hy ze
          by_cases zl : a2 + 1 = (l1.length : Int)
          ·have b3 : (a2 + 1 == (l1.length : Int)) = true := by rw [beq_iff_eq]; omega
           cases hx : spec_validLine.inB x.f1 7 12 with
           | true =>
            have HX := am hx
            have HF := am (by rw [HE.out, hx, decide_eq_true zl]; rfl : spec_validLine.off l1 a2 x = true)
            clear zl hx HE
            go_big_quiet (first | (go_at_call 55; exact Calls.quiet_of (HO.out y.f1 _ HY.out _)) | (go_at_call 55; exact Calls.quiet_of (HO.out x.f1 _ HX.out _)))
            go_wp2
            go_meet
            case rel => exact ⟨by rw [HF.out], X3, ⟨pw_below_drewN HB3.out _⟩⟩
           | false =>
            have HX := am hx
            have HF := am (by rw [HE.out, hx]; simp : spec_validLine.off l1 a2 x = false)
            clear zl hx HE
            go_big_quiet (first | (go_at_call 55; exact Calls.quiet_of (HO.out y.f1 _ HY.out _)) | (go_at_call 55; exact Calls.quiet_of (HO.out x.f1 _ HX.out _)))
            go_wp2
            go_meet
            case rel => exact ⟨by rw [HF.out], X3, ⟨pw_below_drewN HB3.out _⟩⟩
          ·have b3 : (a2 + 1 == (l1.length : Int)) = false := by rw [beq_eq_false_iff_ne]; omega
           have HF := am (by rw [HE.out, decide_eq_false zl]; rfl : spec_validLine.off l1 a2 x = false)
           clear zl HE
           go_big_quiet ((go_at_call 55; exact Calls.quiet_of (HO.out y.f1 _ HY.out _)))
           go_wp2
           go_meet
           case rel => exact ⟨by rw [HF.out], X3, ⟨pw_below_drewN HB3.out _⟩⟩
     case rest =>
      obtain ⟨rfl, X4, HB4⟩ := hcut
      clear X1 HB1
      have h := HH.out
      clear HH
      obtain ⟨e0, e1, e2, e3⟩ := VX.cells X4.out
      have tok : True := trivial
      have HO := am (fun (a : Int) (b : Bool) (hb : spec_validLine.inB a 8 10 = b) W => spec_follows.calls a b W (by rw [spec_follows_eq, hb]))
      cases ho : spec_validLine.off l1 a2 x with
      | true =>
       rw [ho, if_pos rfl] at h
       obtain rfl : false = r := by simpa using h
       clear h ho
       go_wp2
       go_ret
       exact ⟨rfl, HB4.out⟩
      | false =>
       rw [ho] at h
       simp only [Bool.false_eq_true, if_false] at h
       clear ho
       obtain ⟨c, hc, h⟩ := Option.bind_eq_some_iff.mp h
       by_cases z7 : x.f1 = 7
       ·rw [if_pos z7] at hc
        have HC := am (fun W (hb : Below w.heap.size w W) => spec_validChain.calls k _ c1 l1 a2 c W (Kd.C_below HR1.out hb) hc1 hc)
        have b7 : (x.f1 == 7) = true := beq_iff_eq.2 z7
        have b5 : (x.f1 == 5) = false := beq_eq_false_iff_ne.2 (by omega)
        have b6 : (x.f1 == 6) = false := beq_eq_false_iff_ne.2 (by omega)
        cases c with
        | false =>
         obtain rfl : false = r := by simpa using h
         clear h hc z7
         go_wp2_with (first | (go_at_call 56; refine (HC.out _ HB4.out).mono ?_; rintro e w5 ⟨rfl, hb5⟩; have X5 := am (VX.below X4.out hb5); have HB5 := am (below_then HB4.out HB4.out.size hb5); clear hb5 e0 e1 e2 e3; obtain ⟨e0, e1, e2, e3⟩ := VX.cells X5.out))
         go_ret
         exact ⟨rfl, HB5.out⟩
        | true =>
         have hx : spec_validLine.inB x.f1 8 10 = false := by unfold spec_validLine.inB; rw [z7]; rfl
         have HX := am hx
         obtain rfl : true = r := by simpa [z7, show spec_validLine.inB 7 8 10 = false from rfl] using h
         clear h hc z7 hx
         go_wp2_with (first | (go_at_call 56; refine (HC.out _ HB4.out).mono ?_; rintro e w5 ⟨rfl, hb5⟩; have X5 := am (VX.below X4.out hb5); have HB5 := am (below_then HB4.out HB4.out.size hb5); clear hb5 e0 e1 e2 e3; obtain ⟨e0, e1, e2, e3⟩ := VX.cells X5.out) | (go_at_call 58; have tk := tok; clear tok; refine (HO.out x.f1 _ HX.out _).mono ?_; rintro e w6 ⟨rfl, hd6⟩; have hb6 := hd6.below; clear hd6; have X6 := am (VX.below X5.out hb6); have HB6 := am (below_then HB5.out HB5.out.size hb6); clear hb6 e0 e1 e2 e3; obtain ⟨e0, e1, e2, e3⟩ := VX.cells X6.out))
         go_ret
         exact ⟨rfl, HB6.out⟩
       ·rw [if_neg z7] at hc
        obtain rfl : true = c := by simpa using hc
        clear hc
        have b7 : (x.f1 == 7) = false := beq_eq_false_iff_ne.2 z7
        simp only [Bool.true_eq_false, if_false] at h
        obtain ⟨c, hc, h⟩ := Option.bind_eq_some_iff.mp h
        by_cases z56 : x.f1 = 5 ∨ x.f1 = 6
        ·rw [if_pos z56] at hc
         have HC := am (fun W (hb : Below w.heap.size w W) => spec_inLoop.calls k _ c1 l1 a2 c W (Kd.C_below HR1.out hb) hc1 hc)
         have hx : spec_validLine.inB x.f1 8 10 = false := by rcases z56 with z | z <;> (unfold spec_validLine.inB; rw [z]; rfl)
         have HX := am hx
         cases c with
         | false =>
          obtain rfl : false = r := by simpa using h
          clear h hc hx
          rcases z56 with z | z
          ·have b5 : (x.f1 == 5) = true := beq_iff_eq.2 z
           clear z z7
           go_wp2_with (first | (go_at_call 57; refine (HC.out _ HB4.out).mono ?_; rintro e w5 ⟨rfl, hd5⟩; have hb5 := hd5.below; clear hd5; have X5 := am (VX.below X4.out hb5); have HB5 := am (below_then HB4.out HB4.out.size hb5); clear hb5 e0 e1 e2 e3; obtain ⟨e0, e1, e2, e3⟩ := VX.cells X5.out))
           go_ret
           exact ⟨rfl, HB5.out⟩
          ·have b5 : (x.f1 == 5) = false := beq_eq_false_iff_ne.2 (by omega)
           have b6 : (x.f1 == 6) = true := beq_iff_eq.2 z
           clear z z7
           go_wp2_with (first | (go_at_call 57; refine (HC.out _ HB4.out).mono ?_; rintro e w5 ⟨rfl, hd5⟩; have hb5 := hd5.below; clear hd5; have X5 := am (VX.below X4.out hb5); have HB5 := am (below_then HB4.out HB4.out.size hb5); clear hb5 e0 e1 e2 e3; obtain ⟨e0, e1, e2, e3⟩ := VX.cells X5.out))
           go_ret
           exact ⟨rfl, HB5.out⟩
         | true =>
          obtain rfl : true = r := by simpa [hx] using h
          clear h hc hx
          rcases z56 with z | z
          ·have b5 : (x.f1 == 5) = true := beq_iff_eq.2 z
           clear z z7
           go_wp2_with (first | (go_at_call 57; refine (HC.out _ HB4.out).mono ?_; rintro e w5 ⟨rfl, hd5⟩; have hb5 := hd5.below; clear hd5; have X5 := am (VX.below X4.out hb5); have HB5 := am (below_then HB4.out HB4.out.size hb5); clear hb5 e0 e1 e2 e3; obtain ⟨e0, e1, e2, e3⟩ := VX.cells X5.out) | (go_at_call 58; have tk := tok; clear tok; refine (HO.out x.f1 _ HX.out _).mono ?_; rintro e w6 ⟨rfl, hd6⟩; have hb6 := hd6.below; clear hd6; have X6 := am (VX.below X5.out hb6); have HB6 := am (below_then HB5.out HB5.out.size hb6); clear hb6 e0 e1 e2 e3; obtain ⟨e0, e1, e2, e3⟩ := VX.cells X6.out))
           go_ret
           exact ⟨rfl, HB6.out⟩
          ·have b5 : (x.f1 == 5) = false := beq_eq_false_iff_ne.2 (by omega)
           have b6 : (x.f1 == 6) = true := beq_iff_eq.2 z
           clear z z7
           go_wp2_with (first | (go_at_call 57; refine (HC.out _ HB4.out).mono ?_; rintro e w5 ⟨rfl, hd5⟩; have hb5 := hd5.below; clear hd5; have X5 := am (VX.below X4.out hb5); have HB5 := am (below_then HB4.out HB4.out.size hb5); clear hb5 e0 e1 e2 e3; obtain ⟨e0, e1, e2, e3⟩ := VX.cells X5.out) | (go_at_call 58; have tk := tok; clear tok; refine (HO.out x.f1 _ HX.out _).mono ?_; rintro e w6 ⟨rfl, hd6⟩; have hb6 := hd6.below; clear hd6; have X6 := am (VX.below X5.out hb6); have HB6 := am (below_then HB5.out HB5.out.size hb6); clear hb6 e0 e1 e2 e3; obtain ⟨e0, e1, e2, e3⟩ := VX.cells X6.out))
           go_ret
           exact ⟨rfl, HB6.out⟩
        ·rw [if_neg z56] at hc
         obtain rfl : true = c := by simpa using hc
         clear hc
         have b5 : (x.f1 == 5) = false := beq_eq_false_iff_ne.2 (fun z => z56 (.inl z))
         have b6 : (x.f1 == 6) = false := beq_eq_false_iff_ne.2 (fun z => z56 (.inr z))
         simp only [Bool.true_eq_false, if_false] at h
         clear z7 z56
         cases hx : spec_validLine.inB x.f1 8 10 with
         | false =>
          have HX := am hx
          rw [hx, if_pos rfl] at h
          obtain rfl : true = r := by simpa using h
          clear h hx
          go_wp2_with (first | (go_at_call 58; have tk := tok; clear tok; refine (HO.out x.f1 _ HX.out _).mono ?_; rintro e w6 ⟨rfl, hd6⟩; have hb6 := hd6.below; clear hd6; have X6 := am (VX.below X4.out hb6); have HB6 := am (below_then HB4.out HB4.out.size hb6); clear hb6 e0 e1 e2 e3; obtain ⟨e0, e1, e2, e3⟩ := VX.cells X6.out))
          go_ret
          exact ⟨rfl, HB6.out⟩
         | true =>
          have HX := am hx
          rw [hx] at h
          simp only [Bool.true_eq_false, if_false] at h
          clear hx
          obtain ⟨q, hq, h⟩ := Option.bind_eq_some_iff.mp h
          have HQ := am (fun W (hb : Below w.heap.size w W) => spec_headOf.calls k _ c1 l1 a2 q W (Kd.C_below HR1.out hb) hc1 hq)
          clear hq
          by_cases q0 : 0 ≤ q
          ·rw [if_pos q0] at h
           have q0b := decide_eq_true q0
           by_cases q1 : q < (l1.length : Int)
           ·rw [if_pos q1] at h
            obtain ⟨ad', he, y0, y1, y2, y3⟩ := at_T50 HR1.out q q0 q1
            cases he
            generalize rd_T50 l1 q = y at h y0 y1
            have HK := am y1
            clear y0 y1 y2 y3
            have q0 := eq_true q0
            have q1 := eq_true q1
            by_cases zy : y.f1 = 7
            ·have by7 : (y.f1 == 7) = true := beq_iff_eq.2 zy
             obtain rfl : true = r := by simpa [zy] using h
             clear h zy
             go_wp2_with (first | (go_at_call 58; have tk := tok; clear tok; refine (HO.out x.f1 _ HX.out _).mono ?_; rintro e w6 ⟨rfl, hd6⟩; have hb6 := hd6.below; clear hd6; have X6 := am (VX.below X4.out hb6); have HB6 := am (below_then HB4.out HB4.out.size hb6); clear hb6 e0 e1 e2 e3; obtain ⟨e0, e1, e2, e3⟩ := VX.cells X6.out) | (go_at_call 59; refine (HQ.out _ HB6.out).mono ?_; rintro e w7 ⟨rfl, hd7⟩; have hb7 := hd7.below; clear hd7; have X7 := am (VX.below X6.out hb7); have HB7 := am (below_then HB6.out HB6.out.size hb7); clear hb7 e0 e1 e2 e3; obtain ⟨e0, e1, e2, e3⟩ := VX.cells X7.out; have y1 := pw_cell_below HB7.out HK.out))
             go_ret
             exact ⟨rfl, HB7.out⟩
            ·have by7 : (y.f1 == 7) = false := beq_eq_false_iff_ne.2 zy
             cases hy : spec_validLine.inB y.f1 8 10 with
             | true =>
              have HY := am hy
              obtain rfl : true = r := by rw [hy, by7] at h; simpa using h
              clear h hy zy
              go_wp2_with (first | (go_at_call 58; have tk := tok; clear tok; refine (HO.out x.f1 _ HX.out _).mono ?_; rintro e w6 ⟨rfl, hd6⟩; have hb6 := hd6.below; clear hd6; have X6 := am (VX.below X4.out hb6); have HB6 := am (below_then HB4.out HB4.out.size hb6); clear hb6 e0 e1 e2 e3; obtain ⟨e0, e1, e2, e3⟩ := VX.cells X6.out) | (go_at_call 59; refine (HQ.out _ HB6.out).mono ?_; rintro e w7 ⟨rfl, hd7⟩; have hb7 := hd7.below; clear hd7; have X7 := am (VX.below X6.out hb7); have HB7 := am (below_then HB6.out HB6.out.size hb7); clear hb7 e0 e1 e2 e3; obtain ⟨e0, e1, e2, e3⟩ := VX.cells X7.out; have y1 := pw_cell_below HB7.out HK.out) | (go_at_call 58; refine (HO.out y.f1 _ HY.out _).mono ?_; rintro e w8 ⟨rfl, hd8⟩; have hb8 := hd8.below; clear hd8; have X8 := am (VX.below X7.out hb8); have HB8 := am (below_then HB7.out HB7.out.size hb8); clear hb8 e0 e1 e2 e3; obtain ⟨e0, e1, e2, e3⟩ := VX.cells X8.out))
              go_ret
              exact ⟨rfl, HB8.out⟩
             | false =>
              have HY := am hy
              obtain rfl : false = r := by rw [hy, by7] at h; simpa using h
              clear h hy zy
              go_wp2_with (first | (go_at_call 58; have tk := tok; clear tok; refine (HO.out x.f1 _ HX.out _).mono ?_; rintro e w6 ⟨rfl, hd6⟩; have hb6 := hd6.below; clear hd6; have X6 := am (VX.below X4.out hb6); have HB6 := am (below_then HB4.out HB4.out.size hb6); clear hb6 e0 e1 e2 e3; obtain ⟨e0, e1, e2, e3⟩ := VX.cells X6.out) | (go_at_call 59; refine (HQ.out _ HB6.out).mono ?_; rintro e w7 ⟨rfl, hd7⟩; have hb7 := hd7.below; clear hd7; have X7 := am (VX.below X6.out hb7); have HB7 := am (below_then HB6.out HB6.out.size hb7); clear hb7 e0 e1 e2 e3; obtain ⟨e0, e1, e2, e3⟩ := VX.cells X7.out; have y1 := pw_cell_below HB7.out HK.out) | (go_at_call 58; refine (HO.out y.f1 _ HY.out _).mono ?_; rintro e w8 ⟨rfl, hd8⟩; have hb8 := hd8.below; clear hd8; have X8 := am (VX.below X7.out hb8); have HB8 := am (below_then HB7.out HB7.out.size hb8); clear hb8 e0 e1 e2 e3; obtain ⟨e0, e1, e2, e3⟩ := VX.cells X8.out))
              go_ret
              exact ⟨rfl, HB8.out⟩
           ·rw [if_neg q1] at h
            cases h
          ·rw [if_neg q0] at h
           have q0b := decide_eq_false q0
           obtain rfl : false = r := by simpa using h
           clear h q0
           go_wp2_with (first | (go_at_call 58; have tk := tok; clear tok; refine (HO.out x.f1 _ HX.out _).mono ?_; rintro e w6 ⟨rfl, hd6⟩; have hb6 := hd6.below; clear hd6; have X6 := am (VX.below X4.out hb6); have HB6 := am (below_then HB4.out HB4.out.size hb6); clear hb6 e0 e1 e2 e3; obtain ⟨e0, e1, e2, e3⟩ := VX.cells X6.out) | (go_at_call 59; refine (HQ.out _ HB6.out).mono ?_; rintro e w7 ⟨rfl, hd7⟩; have hb7 := hd7.below; clear hd7; have X7 := am (VX.below X6.out hb7); have HB7 := am (below_then HB6.out HB6.out.size hb7); clear hb7 e0 e1 e2 e3; obtain ⟨e0, e1, e2, e3⟩ := VX.cells X7.out))
           go_ret
           exact ⟨rfl, HB7.out⟩
  ·rw [if_neg h1] at h
   cases h
 ·rw [if_neg h0] at h
  cases h
def spec_validName.l0 : Nat → ByteArray → Int → Option (Bool)
 | 0, _, _ => none
 | k + 1, x0, x3 => if x3 < (x0.size : Int) then (if 0 ≤ x3 then (if (bt x0 x3) < 97 then (some false) else (if (bt x0 x3) > 122 then (some false) else (spec_validName.l0 k x0 (wrap64 (x3 + 1))))) else (none)) else ((spec_inRange.f (x0.size : Int) 1 6).bind fun t152 => (some t152))
def spec_validName.f (k : Nat) (a0 : ByteArray) : Option (Bool) := spec_validName.l0 k a0 0
set_option maxHeartbeats 8000000 in
set_option maxRecDepth 100000 in
theorem spec_validName.calls (k : Nat) (a0 : ByteArray) (r : Bool) (w : World) (h : spec_validName.f k a0 = some r) :
  Calls Try.prog 60 #[.string a0] w fun e w' => e = .returned (.bool r) ∧ Drawn0 w w' := by
 have H : (spec_validName.l0 k a0 0) = some r := h
 clear h
 have H' := am H
 clear H
 go_enter Try.func60, Try.ntmps60
 go_wp2
 go_loopg [3] k (fun kq v3 w' => ∃ (x3_1 : Int), v3 = .int .i64 x3_1 ∧ Aside0 (spec_validName.l0 kq a0 x3_1 = some r) ∧ Aside0 (kq ≤ k) ∧ Drawn0 w w')
 case atStart => exact ⟨(0), (sq), H', ⟨Nat.le_refl _⟩, Y5⟩
 case round =>
  clear H'
  obtain ⟨x3_1, rfl, HA, HK1, ⟨m1, rfl⟩⟩ := hrel
  cases gk with
  | zero => exact absurd HA.out (by simp [spec_validName.l0])
  | succ k1 =>
   have H := HA.out
   clear HA
   simp only [spec_validName.l0] at H
   by_cases c2 : x3_1 < (a0.size : Int)
   ·rw [if_pos c2] at H
    have c2b0 : decide (x3_1 < (a0.size : Int)) = true := decide_eq_true c2
    clear c2
    by_cases c3 : 0 ≤ x3_1
    ·rw [if_pos c3] at H
     have c3b0 : decide (0 ≤ x3_1) = true := decide_eq_true c3
     clear c3
     by_cases c5 : (bt a0 x3_1) < 97
     ·rw [if_pos c5] at H
      have c5b0 : decide ((bt a0 x3_1) < 97) = true := decide_eq_true c5
      clear c5
      obtain rfl := Option.some.inj H
      have p4 : 0 ≤ (x3_1 : Int) := of_decide_eq_true (uq)
      have q4 : x3_1 < (a0.size : Int) := of_decide_eq_true (uq)
      have hx4 := bt_at a0 x3_1
      replace p4 := eq_true p4
      replace q4 := eq_true q4
      go_wp2
      go_ret
      exact ⟨sq, Y5⟩
     ·rw [if_neg c5] at H
      have c5b0 : decide ((bt a0 x3_1) < 97) = false := decide_eq_false c5
      clear c5
      by_cases c7 : (bt a0 x3_1) > 122
      ·rw [if_pos c7] at H
       have c7b0 : decide (122 < (bt a0 x3_1)) = true := decide_eq_true c7
       clear c7
       obtain rfl := Option.some.inj H
       have p4 : 0 ≤ (x3_1 : Int) := of_decide_eq_true (uq)
       have q4 : x3_1 < (a0.size : Int) := of_decide_eq_true (uq)
       have hx4 := bt_at a0 x3_1
       replace p4 := eq_true p4
       replace q4 := eq_true q4
       have p6 : 0 ≤ (x3_1 : Int) := of_decide_eq_true (uq)
       have q6 : x3_1 < (a0.size : Int) := of_decide_eq_true (uq)
       have hx6 := bt_at a0 x3_1
       replace p6 := eq_true p6
       replace q6 := eq_true q6
       go_wp2
       go_ret
       exact ⟨sq, Y5⟩
      ·rw [if_neg c7] at H
       have c7b0 : decide (122 < (bt a0 x3_1)) = false := decide_eq_false c7
       clear c7
       have H' := am H
       clear H
       have p4 : 0 ≤ (x3_1 : Int) := of_decide_eq_true (uq)
       have q4 : x3_1 < (a0.size : Int) := of_decide_eq_true (uq)
       have hx4 := bt_at a0 x3_1
       replace p4 := eq_true p4
       replace q4 := eq_true q4
       have p6 : 0 ≤ (x3_1 : Int) := of_decide_eq_true (uq)
       have q6 : x3_1 < (a0.size : Int) := of_decide_eq_true (uq)
       have hx6 := bt_at a0 x3_1
       replace p6 := eq_true p6
       replace q6 := eq_true q6
       go_wp2
       go_roundg k1
       case measure => have := HK1.out; omega
       case rel => exact ⟨(wrap64 (x3_1 + 1)), (sq), H', ⟨by have := HK1.out; omega⟩, Y5⟩
    ·rw [if_neg c3] at H
     exact absurd H (by simp)
   ·rw [if_neg c2] at H
    have c2b0 : decide (x3_1 < (a0.size : Int)) = false := decide_eq_false c2
    clear c2
    replace H := Option.bind_eq_some_iff.mp H
    obtain ⟨t152, A80, H⟩ := H
    replace H : (some t152) = some r := H
    have A8 := am A80
    clear A80
    obtain rfl := Option.some.inj H
    go_wp2_with (first | ((with_reducible refine gate_callee (f := 54) rfl ?_); refine gL (some 22) Try.func54 #[.int .i64 (a0.size : Int), .int .i64 1, .int .i64 6] ?_; (with_reducible refine (spec_inRange.calls (a0.size : Int) 1 6 t152 _ A8.out).mono ?_); rintro e w' ⟨rfl, ⟨nd, rfl⟩⟩; refine ⟨_, rfl, ?_⟩))
    go_ret
    exact ⟨sq, Y5⟩
def spec_classNamed.l0 : Nat → List (S63) → ByteArray → Int → Option (Int)
 | 0, _, _, _ => none
 | k + 1, x0, x1, x5 => if x5 < (x0.length : Int) then (if 0 ≤ x5 then (if ((rd_T63 x0 x5).f0).toList = x1.toList then (some x5) else (spec_classNamed.l0 k x0 x1 (wrap64 (x5 + 1)))) else (none)) else (some (-1))
def spec_classNamed.f (k : Nat) (l0 : List (S63)) (a1 : ByteArray) : Option (Int) := spec_classNamed.l0 k l0 a1 0
set_option maxHeartbeats 8000000 in
set_option maxRecDepth 100000 in
theorem spec_classNamed.calls (k : Nat) (A0 : Option Addr) (c0 : Nat) (l0 : List (S63)) (a1 : ByteArray) (r : Int) (w : World) (hr0 : Kd.C k63 w A0 l0.length l0) (hc0 : l0.length ≤ c0) (h : spec_classNamed.f k l0 a1 = some r) :
  Calls Try.prog 61 #[.slice A0 l0.length c0, .string a1] w fun e w' => e = .returned (.int .i64 r) ∧ Drawn0 w w' := by
 have HR0 := am hr0
 have HC0 := am hc0
 clear hr0 hc0
 have H : (spec_classNamed.l0 k l0 a1 0) = some r := h
 clear h
 have H' := am H
 clear H
 go_enter Try.func61, Try.ntmps61
 go_wp2
 go_loopg [5] k (fun kq v5 w' => ∃ (x5_1 : Int), v5 = .int .i64 x5_1 ∧ Aside0 (spec_classNamed.l0 kq l0 a1 x5_1 = some r) ∧ Aside0 (kq ≤ k) ∧ Drawn0 w w')
 case atStart => exact ⟨(0), (sq), H', ⟨Nat.le_refl _⟩, Y5⟩
 case round =>
  clear H'
  try clear p2
  obtain ⟨x5_1, rfl, HA, HK1, ⟨m1, rfl⟩⟩ := hrel
  cases gk with
  | zero => exact absurd HA.out (by simp [spec_classNamed.l0])
  | succ k1 =>
   have H := HA.out
   clear HA
   simp only [spec_classNamed.l0] at H
   by_cases c3 : x5_1 < (l0.length : Int)
   ·rw [if_pos c3] at H
    have c3b0 : decide (x5_1 < (l0.length : Int)) = true := decide_eq_true c3
    clear c3
    by_cases c4 : 0 ≤ x5_1
    ·rw [if_pos c4] at H
     have c4b0 : decide (0 ≤ x5_1) = true := decide_eq_true c4
     clear c4
     by_cases c5 : ((rd_T63 l0 x5_1).f0).toList = a1.toList
     ·rw [if_pos c5] at H
      have c5b0 : (((rd_T63 l0 x5_1).f0).toList == a1.toList) = true := beq_iff_eq.mpr c5
      have c5b1 : (((rd_T63 l0 x5_1).f0).toList != a1.toList) = false := bne_eq_false_iff_eq.mpr c5
      clear c5
      obtain rfl := Option.some.inj H
      have p153 : 0 ≤ (x5_1 : Int) := of_decide_eq_true (uq)
      have q153 : x5_1 < (l0.length : Int) := of_decide_eq_true (uq)
      obtain ⟨ad153, e153, hx153_0, hx153_1⟩ := at_T63 HR0.out x5_1 p153 q153
      cases e153
      replace p153 := eq_true p153
      replace q153 := eq_true q153
      go_wp2
      go_ret
      exact ⟨sq, Y5⟩
     ·rw [if_neg c5] at H
      have c5b0 : (((rd_T63 l0 x5_1).f0).toList == a1.toList) = false := beq_eq_false_iff_ne.mpr c5
      have c5b1 : (((rd_T63 l0 x5_1).f0).toList != a1.toList) = true := bne_iff_ne.mpr c5
      have H' := am H
      clear H
      have p153 : 0 ≤ (x5_1 : Int) := of_decide_eq_true (uq)
      have q153 : x5_1 < (l0.length : Int) := of_decide_eq_true (uq)
      obtain ⟨ad153, e153, hx153_0, hx153_1⟩ := at_T63 HR0.out x5_1 p153 q153
      cases e153
      replace p153 := eq_true p153
      replace q153 := eq_true q153
      go_wp2
      go_roundg k1
      case measure => have := HK1.out; omega
      case rel => exact ⟨(wrap64 (x5_1 + 1)), (sq), H', ⟨by have := HK1.out; omega⟩, Y5⟩
    ·rw [if_neg c4] at H
     exact absurd H (by simp)
   ·rw [if_neg c3] at H
    have c3b0 : decide (x5_1 < (l0.length : Int)) = false := decide_eq_false c3
    clear c3
    obtain rfl := Option.some.inj H
    go_wp2
    go_ret
    exact ⟨sq, Y5⟩
mutual
def spec_validTree.l0 : Nat → Int → List (S63) → Option (Bool)
 | 0, _, _ => none
 | k + 1, x3, x155000 => if x3 < (x155000.length : Int) then (if 0 ≤ x3 then ((spec_validName.f k ((rd_T63 x155000 x3).f0)).bind fun t158 => (if t158 = true then (if x3 ≤ (x155000.length : Int) then ((spec_classNamed.f k (x155000.take (x3 : Int).toNat) ((rd_T63 x155000 x3).f0)).bind fun t163 => (if t163 ≥ 0 then (spec_validTree.j1 k x3 true x155000) else (if x3 = 0 then (if ((rd_T63 x155000 x3).f1) = (-1) then (if x3 > 0 then ((spec_inRange.f ((rd_T63 x155000 x3).f1) 0 (wrap64 (x3 - 1))).bind fun t164 => (spec_validTree.j1 k x3 (!t164) x155000)) else (spec_validTree.j1 k x3 false x155000)) else (spec_validTree.j1 k x3 true x155000)) else (if x3 > 0 then ((spec_inRange.f ((rd_T63 x155000 x3).f1) 0 (wrap64 (x3 - 1))).bind fun t165 => (spec_validTree.j1 k x3 (!t165) x155000)) else (spec_validTree.j1 k x3 false x155000))))) else (none)) else (spec_validTree.j1 k x3 true x155000))) else (none)) else ((spec_inRange.f (x155000.length : Int) 1 8).bind fun t155 => (some t155))
def spec_validTree.j1 : Nat → Int → Bool → List (S63) → Option (Bool)
 | 0, _, _, _ => none
 | k + 1, x3, x51, x155000 => if x51 = true then (some false) else (spec_validTree.l0 k (wrap64 (x3 + 1)) x155000)
end
def spec_validTree.f (k : Nat) (l0_0 : List (S63)) : Option (Bool) := spec_validTree.l0 k 0 l0_0
set_option maxHeartbeats 8000000 in
set_option maxRecDepth 100000 in
theorem spec_validTree.calls (k : Nat) (A0_0 : Option Addr) (c0_0 : Nat) (l0_0 : List (S63)) (r : Bool) (w : World) (hr0_0 : Kd.C k63 w A0_0 l0_0.length l0_0) (hc0_0 : l0_0.length ≤ c0_0) (h : spec_validTree.f k l0_0 = some r) :
  Calls Try.prog 46 #[.agg #[.slice A0_0 l0_0.length c0_0]] w fun e w' => e = .returned (.bool r) ∧ Below w.heap.size w w' := by
 have hu33 := Try.underlying33
 have hu63 := Try.underlying63
 have HR0_0 := am hr0_0
 have HC0_0 := am hc0_0
 clear hr0_0 hc0_0
 have HB := am (Below.refl w.heap.size w)
 have H : (spec_validTree.l0 k 0 l0_0) = some r := h
 clear h
 have H' := am H
 clear H
 go_enter Try.func46, Try.ntmps46
 go_wp2_with (first | ((with_reducible refine gate_dst (N := 1) rfl ?_); refine bE (N := 1) (cs := #[.slice A0_0 l0_0.length c0_0]) (t := 33) ?_; intro gb154 hg w2 hbox hb; have BK154 := am (hbox); have GW154 := am ((Y0 : w.heap.size ≤ gb154)); have GE154 := am ((Y0 : w.heap.size ≤ gb154)); replace HB := am (below_step (bq) hb); clear hb hbox hg))
 go_loopg [3] k (fun kq v3 w' => ∃ (x3_1 : Int), v3 = .int .i64 x3_1 ∧ Aside0 (spec_validTree.l0 kq x3_1 l0_0 = some r) ∧ Aside0 (kq ≤ k) ∧ Aside0 (w'.heap[gb154]? = some (.cells #[(.slice A0_0 l0_0.length c0_0)] 33 (0, 0))) ∧ Aside0 (Below w.heap.size w w'))
 case atStart => exact ⟨(0), (sq), H', ⟨Nat.le_refl _⟩, ⟨kq BK154.out⟩, ⟨Y23⟩⟩
 case round =>
  clear H'
  try clear c1
  try clear p2
  obtain ⟨x3_1, rfl, HA, HK1, BK154, HB⟩ := hrel
  cases gk with
  | zero => exact absurd HA.out (by simp [spec_validTree.l0])
  | succ k1 =>
   have H := HA.out
   clear HA
   simp only [spec_validTree.l0] at H
   by_cases c3 : x3_1 < (l0_0.length : Int)
   ·rw [if_pos c3] at H
    have c3b0 : decide (x3_1 < (l0_0.length : Int)) = true := decide_eq_true c3
    clear c3
    by_cases c4 : 0 ≤ x3_1
    ·rw [if_pos c4] at H
     have c4b0 : decide (0 ≤ x3_1) = true := decide_eq_true c4
     clear c4
     have HC5 := am H
     clear H
     have hcz6_0 := bc0 BK154.out
     have hfz6_0 := blk_frozen BK154.out 0
     have p156 : 0 ≤ (x3_1 : Int) := of_decide_eq_true (uq)
     have q156 : x3_1 < (l0_0.length : Int) := of_decide_eq_true (uq)
     obtain ⟨ad156, e156, hx156_0, hx156_1⟩ := at_T63 HR0_0.out x3_1 p156 q156
     cases e156
     replace hx156_0 := cb HB.out hx156_0
     replace hx156_1 := cb HB.out hx156_1
     replace p156 := eq_true p156
     replace q156 := eq_true q156
     go_upto_region 5 with (first | ((with_reducible refine gate_dst (N := 4) rfl ?_); refine bE (N := 4) (cs := #[.string (⟨#[]⟩ : ByteArray), .int .i64 0]) (t := 63) ?_; intro gb157 hg w7 hbox hb; have BK157 := am (hbox); have GW157 := am ((Y68 : w.heap.size ≤ gb157)); have GE157 := am ((Y68 : w.heap.size ≤ gb157)); have NB154_157 := am ((by rw [hg]; exact Nat.ne_of_lt (blk_lt (g := gb154) (o := .cells #[.slice (some ad156) l0_0.length c0_0] 33 (0, 0)) (kq BK154.out)) : gb154 ≠ gb157)); have NB157_154 := am ((by rw [hg]; exact Nat.ne_of_gt (blk_lt (g := gb154) (o := .cells #[.slice (some ad156) l0_0.length c0_0] 33 (0, 0)) (kq BK154.out)) : gb157 ≠ gb154)); replace BK154 := am (blk_below (g := gb154) (o := .cells #[.slice (some ad156) l0_0.length c0_0] 33 (0, 0)) (kq BK154.out) hb); replace HB := am (below_step (Y23) hb); clear hb hbox hg; have hnb8 := NB157_154.out; have hnc8 := NB154_157.out; have hcz9_0 := bc0 BK157.out; have hcz9_1 := bc1 BK157.out; have hfz9_0 := blk_frozen BK157.out 0; have hfz9_1 := blk_frozen BK157.out 1))
     (try simp only [Act.put, List.setIfInBounds_toArray, List.set_cons_zero, List.set_cons_succ])
     go_cut [51] (fun v51 wc => ∃ (kq : Nat) (x51_4 : Bool), v51 = .bool x51_4 ∧ Aside0 (spec_validTree.j1 kq x3_1 x51_4 l0_0 = some r) ∧ Aside0 (kq ≤ k1) ∧ Aside0 (wc.heap[gb154]? = some (.cells #[(.slice (some ad156) l0_0.length c0_0)] 33 (0, 0))) ∧ Aside0 (wc.heap[gb157]? = some (.cells #[.string ((rd_T63 l0_0 x3_1).f0), .int .i64 ((rd_T63 l0_0 x3_1).f1)] 63 (0, 0))) ∧ Aside0 (Below w.heap.size w wc))
     case first =>
      have n0_ : Aside0 (((w7.setCell ⟨gb157, 0, none⟩ (.string ((rd_T63 l0_0 x3_1).f0))).setCell ⟨gb157, 1, none⟩ (.int .i64 ((rd_T63 l0_0 x3_1).f1))).heap[gb154]? = some (.cells #[.slice (some ad156) l0_0.length c0_0] 33 (0, 0))) := ⟨by (with_reducible repeat (first | refine blk_drewN ?_ _ | refine blk_drew ?_ | refine blk_alloc ?_ _)); refine blk_far ?_ NB154_157.out _; (with_reducible repeat (first | refine blk_drewN ?_ _ | refine blk_drew ?_ | refine blk_alloc ?_ _)); refine blk_far ?_ NB154_157.out _; (with_reducible repeat (first | refine blk_drewN ?_ _ | refine blk_drew ?_ | refine blk_alloc ?_ _)); exact BK154.out⟩
      have n1_ : Aside0 (((w7.setCell ⟨gb157, 0, none⟩ (.string ((rd_T63 l0_0 x3_1).f0))).setCell ⟨gb157, 1, none⟩ (.int .i64 ((rd_T63 l0_0 x3_1).f1))).heap[gb157]? = some (.cells #[.string ((rd_T63 l0_0 x3_1).f0), .int .i64 ((rd_T63 l0_0 x3_1).f1)] 63 (0, 0))) := ⟨by (with_reducible repeat (first | refine blk_drewN ?_ _ | refine blk_drew ?_ | refine blk_alloc ?_ _)); refine blk_put (cs := #[.string ((rd_T63 l0_0 x3_1).f0), .int .i64 0]) ?_ 1 _ rfl; (with_reducible repeat (first | refine blk_drewN ?_ _ | refine blk_drew ?_ | refine blk_alloc ?_ _)); refine blk_put (cs := #[.string (⟨#[]⟩ : ByteArray), .int .i64 0]) ?_ 0 _ rfl; (with_reducible repeat (first | refine blk_drewN ?_ _ | refine blk_drew ?_ | refine blk_alloc ?_ _)); exact BK157.out⟩
      have n2_ : Aside0 (Below w.heap.size w ((w7.setCell ⟨gb157, 0, none⟩ (.string ((rd_T63 l0_0 x3_1).f0))).setCell ⟨gb157, 1, none⟩ (.int .i64 ((rd_T63 l0_0 x3_1).f1)))) := ⟨Y56⟩
      clear BK154 BK157 HB hcz9_0 hcz9_1 hfz9_0 hfz9_1
      generalize ((w7.setCell ⟨gb157, 0, none⟩ (.string ((rd_T63 l0_0 x3_1).f0))).setCell ⟨gb157, 1, none⟩ (.int .i64 ((rd_T63 l0_0 x3_1).f1))) = w16 at n0_ n1_ n2_ ⊢
      have BK154 := n0_
      have BK157 := n1_
      have HB := n2_
      clear n0_ n1_ n2_
      have HRW := am (Kd.C_below HR0_0.out HB.out)
      have e0 : w16.cell? ⟨gb157, 0, none⟩ = some (.string ((rd_T63 l0_0 x3_1).f0)) := (blk_cell BK157.out 0).trans rfl
      have e1 : w16.cell? ⟨gb157, 1, none⟩ = some (.int .i64 ((rd_T63 l0_0 x3_1).f1)) := (blk_cell BK157.out 1).trans rfl
      have e2 : w16.cell? ⟨gb154, 0, none⟩ = some (.slice (some ad156) l0_0.length c0_0) := (blk_cell BK154.out 0).trans rfl
      have H := HC5.out
      clear HC5
      obtain ⟨v, hv, H⟩ := Option.bind_eq_some_iff.mp H
      have HN := am (fun W => (spec_validName.calls k1 _ v W hv).mono fun e w' h => (⟨h.1, h.2.out⟩ : e = .returned (.bool v) ∧ ∃ m, w' = W.drewN m))
      clear hv hx156_0 hx156_1
      generalize hgx : rd_T63 l0_0 x3_1 = x at H e0 e1 HN BK157
      have HGX := am hgx
      clear hgx
      cases v with
      | false =>
       have H' := am (show spec_validTree.j1 k1 x3_1 true l0_0 = some r from H)
       clear H
       go_big_quiet ((go_at_call 60; exact Calls.quiet_of (HN.out _)))
       go_wp2
       go_meet
       case rel => exact ⟨_, _, rfl, H', ⟨by have := HK1.out; omega⟩, ⟨blk_drewN BK154.out _⟩, ⟨by rw [HGX.out]; exact blk_drewN BK157.out _⟩, ⟨pw_below_drewN HB.out _⟩⟩
      | true =>
       replace H : (if x3_1 ≤ (l0_0.length : Int) then ((spec_classNamed.f k1 (l0_0.take (x3_1 : Int).toNat) x.f0).bind fun t163 => (if t163 ≥ 0 then (spec_validTree.j1 k1 x3_1 true l0_0) else (if x3_1 = 0 then (if x.f1 = (-1) then (if x3_1 > 0 then ((spec_inRange.f x.f1 0 (wrap64 (x3_1 - 1))).bind fun t164 => (spec_validTree.j1 k1 x3_1 (!t164) l0_0)) else (spec_validTree.j1 k1 x3_1 false l0_0)) else (spec_validTree.j1 k1 x3_1 true l0_0)) else (if x3_1 > 0 then ((spec_inRange.f x.f1 0 (wrap64 (x3_1 - 1))).bind fun t165 => (spec_validTree.j1 k1 x3_1 (!t165) l0_0)) else (spec_validTree.j1 k1 x3_1 false l0_0))))) else (none)) = some r := H
       have hle : x3_1 ≤ (l0_0.length : Int) := by have := of_decide_eq_true c3b0; omega
       have h0 : 0 ≤ x3_1 := of_decide_eq_true c4b0
       rw [if_pos hle] at H
       obtain ⟨c, hc, H⟩ := Option.bind_eq_some_iff.mp H
       obtain ⟨i0, hi0, _, _, _⟩ := info_parts info63
       have hcut := cut_to (P := Try.prog) 31 63 .i64 Try.underlying31 hi0 (some ad156) l0_0.length c0_0 x3_1 h0 hle HC0_0.out
       have hr18 := Kd.C_take (m := (x3_1 : Int).toNat) HRW.out (by omega)
       obtain ⟨y, hy⟩ : ∃ y : List S63, y = l0_0.take (x3_1 : Int).toNat := ⟨_, rfl⟩
       have hyl : y.length = (x3_1 : Int).toNat := by rw [hy, List.length_take]; omega
       have hyc : y.length ≤ c0_0 := by have := HC0_0.out; omega
       rw [← hy] at hr18
       rw [← hyl] at hcut
       rw [← hy] at hc
       have HCN := am (fun m => (spec_classNamed.calls k1 _ _ y x.f0 c (w16.drewN m) (Kd.C_drewN hr18 m) hyc hc).mono fun e w' h => (⟨h.1, h.2.out⟩ : e = .returned (.int .i64 c) ∧ ∃ m', w' = (w16.drewN m).drewN m'))
       clear hr18 hc hy hyl hyc
       have b0 := eq_true h0
       have b1 := eq_true hle
       by_cases hc0 : c ≥ 0
       ·rw [if_pos hc0] at H
        have b2 : decide (0 ≤ c) = true := decide_eq_true hc0
        have H' := am H
        clear H hc0 h0 hle
        go_big_quiet (first | (go_at_call 60; exact Calls.quiet_of (HN.out _)) | (go_at_call 61; exact Calls.quiet_of (HCN.out _)))
        go_wp2
        go_meet
        case rel => exact ⟨_, _, rfl, H', ⟨by have := HK1.out; omega⟩, ⟨blk_drewN BK154.out _⟩, ⟨by rw [HGX.out]; exact blk_drewN BK157.out _⟩, ⟨pw_below_drewN HB.out _⟩⟩
       ·rw [if_neg hc0] at H
        have b2 : decide (0 ≤ c) = false := decide_eq_false hc0
        clear hc0
        by_cases hz : x3_1 = 0
        ·rw [if_pos hz] at H
         have b3 : (x3_1 == 0) = true := beq_iff_eq.2 hz
         have b4 : decide (0 < x3_1) = false := decide_eq_false (by omega)
         by_cases hf : x.f1 = -1
         ·rw [if_pos hf, if_neg (by omega)] at H
          have b5 : (x.f1 != -1) = false := by simpa using hf
          have H' := am H
          clear H hf h0 hle hz
          go_big_quiet (first | (go_at_call 60; exact Calls.quiet_of (HN.out _)) | (go_at_call 61; exact Calls.quiet_of (HCN.out _)))
          go_wp2
          go_meet
          case rel => exact ⟨_, _, rfl, H', ⟨by have := HK1.out; omega⟩, ⟨blk_drewN BK154.out _⟩, ⟨by rw [HGX.out]; exact blk_drewN BK157.out _⟩, ⟨pw_below_drewN HB.out _⟩⟩
         ·rw [if_neg hf] at H
          have b5 : (x.f1 != -1) = true := by simpa using hf
          have H' := am H
          clear H hf h0 hle hz
          go_big_quiet (first | (go_at_call 60; exact Calls.quiet_of (HN.out _)) | (go_at_call 61; exact Calls.quiet_of (HCN.out _)))
          go_wp2
          go_meet
          case rel => exact ⟨_, _, rfl, H', ⟨by have := HK1.out; omega⟩, ⟨blk_drewN BK154.out _⟩, ⟨by rw [HGX.out]; exact blk_drewN BK157.out _⟩, ⟨pw_below_drewN HB.out _⟩⟩
        ·rw [if_neg hz, if_pos (by omega)] at H
         have b3 : (x3_1 == 0) = false := beq_eq_false_iff_ne.2 hz
         have b4 : decide (0 < x3_1) = true := decide_eq_true (by omega)
         obtain ⟨t, ht, H⟩ := Option.bind_eq_some_iff.mp H
         have H' := am H
         have HI := am (fun W => (spec_inRange.calls _ _ _ t W ht).mono fun e w' h => (⟨h.1, h.2.out⟩ : e = .returned (.bool t) ∧ ∃ m, w' = W.drewN m))
         clear H ht h0 hle hz
         go_big_quiet (first | (go_at_call 60; exact Calls.quiet_of (HN.out _)) | (go_at_call 61; exact Calls.quiet_of (HCN.out _)) | (go_at_call 54; exact Calls.quiet_of (HI.out _)))
         go_wp2
         go_meet
         case rel => exact ⟨_, _, rfl, H', ⟨by have := HK1.out; omega⟩, ⟨blk_drewN BK154.out _⟩, ⟨by rw [HGX.out]; exact blk_drewN BK157.out _⟩, ⟨pw_below_drewN HB.out _⟩⟩
     case rest =>
      clear HC5
      try clear c1
      try clear c2
      try clear p2
      try clear c3
      try clear q3
      try clear p6
      try clear c11
      try clear c12
      try clear c13
      try clear c21
      try clear c32
      try clear c32b0
      try clear q39
      try clear q39
      obtain ⟨kq, x51_4, rfl, HA, HJ4, BK154, BK157, HB⟩ := hcut
      cases kq with
      | zero => exact absurd HA.out (by simp [spec_validTree.j1])
      | succ kj4 =>
       have H := HA.out
       clear HA
       simp only [spec_validTree.j1] at H
       by_cases c42 : x51_4 = true
       ·subst c42
        have H1 : (some false) = some r := by rw [if_pos rfl] at H; exact H
        clear H
        have H := H1
        clear H1
        obtain rfl := Option.some.inj H
        go_wp2
        go_ret
        exact ⟨Y1, Y56⟩
       ·replace c42 := Bool.eq_false_iff.mpr c42
        subst c42
        have H1 : (spec_validTree.l0 kj4 (wrap64 (x3_1 + 1)) l0_0) = some r := by rw [if_neg (show ¬ (false = true) by decide)] at H; exact H
        clear H
        have H := H1
        clear H1
        have H' := am H
        clear H
        go_wp2
        go_roundg kj4
        case measure => have := HK1.out; have := HJ4.out; omega
        case rel => exact ⟨(wrap64 (x3_1 + 1)), (sq), H', ⟨by have := HK1.out; have := HJ4.out; omega⟩, ⟨kq BK154.out⟩, ⟨Y56⟩⟩
    ·rw [if_neg c4] at H
     exact absurd H (by simp)
   ·rw [if_neg c3] at H
    have c3b0 : decide (x3_1 < (l0_0.length : Int)) = false := decide_eq_false c3
    clear c3
    replace H := Option.bind_eq_some_iff.mp H
    obtain ⟨t155, A430, H⟩ := H
    replace H : (some t155) = some r := H
    have A43 := am A430
    clear A430
    obtain rfl := Option.some.inj H
    have hcz44_0 := bc0 BK154.out
    have hfz44_0 := blk_frozen BK154.out 0
    go_wp2_with (first | ((with_reducible refine gate_callee (f := 54) rfl ?_); refine gL (some 55) Try.func54 #[.int .i64 (l0_0.length : Int), .int .i64 1, .int .i64 8] ?_; (with_reducible refine (spec_inRange.calls (l0_0.length : Int) 1 8 t155 _ A43.out).mono ?_); rintro e w' ⟨rfl, ⟨nd, rfl⟩⟩; refine ⟨_, rfl, ?_⟩))
    go_ret
    exact ⟨Y1, Y23⟩
def spec_validProgram.l0 : Nat → List (S50) → Int → List (S63) → Option (Bool)
 | 0, _, _, _ => none
 | k + 1, x1, x5, x155000 => if x5 < (x1.length : Int) then ((spec_validLine.f k x155000 x1 x5).bind fun t156 => (if t156 = true then (spec_validProgram.l0 k x1 (wrap64 (x5 + 1)) x155000) else (some false))) else ((spec_validTree.f k x155000).bind fun t155 => (if t155 = true then (some (decide ((x1.length : Int) ≤ 24))) else (some false)))
def spec_validProgram.f (k : Nat) (l0_0 : List (S63)) (l1 : List (S50)) : Option (Bool) := spec_validProgram.l0 k l1 0 l0_0
set_option maxHeartbeats 8000000 in
set_option maxRecDepth 100000 in
theorem spec_validProgram.calls (k : Nat) (A0_0 : Option Addr) (c0_0 : Nat) (l0_0 : List (S63)) (A1 : Option Addr) (c1 : Nat) (l1 : List (S50)) (r : Bool) (w : World) (hr0_0 : Kd.C k63 w A0_0 l0_0.length l0_0) (hc0_0 : l0_0.length ≤ c0_0) (hr1 : Kd.C k50 w A1 l1.length l1) (hc1 : l1.length ≤ c1) (h : spec_validProgram.f k l0_0 l1 = some r) :
  Calls Try.prog 35 #[.agg #[.slice A0_0 l0_0.length c0_0], .slice A1 l1.length c1] w fun e w' => e = .returned (.bool r) ∧ Below w.heap.size w w' := by
 have hu33 := Try.underlying33
 have HR0_0 := am hr0_0
 have HC0_0 := am hc0_0
 clear hr0_0 hc0_0
 have HR1 := am hr1
 have HC1 := am hc1
 clear hr1 hc1
 have HB := am (Below.refl w.heap.size w)
 have H : (spec_validProgram.l0 k l1 0 l0_0) = some r := h
 clear h
 have H' := am H
 clear H
 go_enter Try.func35, Try.ntmps35
 go_wp2_with (first | ((with_reducible refine gate_dst (N := 2) rfl ?_); (try (refine gate_guard (by rfl) ?_; dsimp only)); refine box_event ?hg (N := 2) ?hd (cs := #[.slice A0_0 l0_0.length c0_0]) (t := 33) ?hr ?_; (case hd => rfl); (case hg => rfl); (case hr => exact Y4); intro gb154 hg w3 hbox hb; have BK154 := am (hbox); have GW154 := am ((Y0 : w.heap.size ≤ gb154)); have GE154 := am ((Y0 : w.heap.size ≤ gb154)); replace HB := am (below_step (bq) hb); clear hb hbox hg))
 go_loopg [5] k (fun kq v5 w' => ∃ (x5_1 : Int), v5 = .int .i64 x5_1 ∧ Aside0 (spec_validProgram.l0 kq l1 x5_1 l0_0 = some r) ∧ Aside0 (kq ≤ k) ∧ Aside0 (w'.heap[gb154]? = some (.cells #[(.slice A0_0 l0_0.length c0_0)] 33 (0, 0))) ∧ Aside0 (Below w.heap.size w w'))
 case atStart => exact ⟨(0), (sq), H', ⟨Nat.le_refl _⟩, ⟨kq BK154.out⟩, ⟨Y23⟩⟩
 case round =>
  clear H'
  try clear c1
  try clear p2
  try clear c3
  obtain ⟨x5_1, rfl, HA, HK1, BK154, HB⟩ := hrel
  cases gk with
  | zero => exact absurd HA.out (by simp [spec_validProgram.l0])
  | succ k1 =>
   have H := HA.out
   clear HA
   simp only [spec_validProgram.l0] at H
   by_cases c4 : x5_1 < (l1.length : Int)
   ·rw [if_pos c4] at H
    have c4b0 : decide (x5_1 < (l1.length : Int)) = true := decide_eq_true c4
    clear c4
    replace H := Option.bind_eq_some_iff.mp H
    obtain ⟨t156, A50, H⟩ := H
    replace H : (if t156 = true then (spec_validProgram.l0 k1 l1 (wrap64 (x5_1 + 1)) l0_0) else (some false)) = some r := H
    have A5 := am A50
    clear A50
    by_cases c6 : t156 = true
    ·subst c6
     have H1 : (spec_validProgram.l0 k1 l1 (wrap64 (x5_1 + 1)) l0_0) = some r := by rw [if_pos rfl] at H; exact H
     clear H
     have H := H1
     clear H1
     have H' := am H
     clear H
     have hcz7_0 := bc0 BK154.out
     have hfz7_0 := blk_frozen BK154.out 0
     go_wp2_with (first | ((with_reducible refine gate_callee (f := 45) rfl ?_); refine gL (some 15) Try.func45 #[.agg #[.slice A0_0 l0_0.length c0_0], .slice A1 l1.length c1, .int .i64 x5_1] ?_; (with_reducible refine (spec_validLine.calls k1 _ _ l0_0 _ _ l1 x5_1 true _ ?side1 ?side2 ?side3 ?side4 A5.out).mono ?_); (case side1 => exact cq (Kd.C_below HR0_0.out HB.out)); (case side2 => exact HC0_0.out); (case side3 => exact cq (Kd.C_below HR1.out HB.out)); (case side4 => exact HC1.out); rintro e w8 ⟨rfl, hb⟩; refine ⟨_, rfl, ?_⟩; replace BK154 := am (blk_below (g := gb154) (o := .cells #[.slice A0_0 l0_0.length c0_0] 33 (0, 0)) (kq BK154.out) hb); replace HB := am (below_step (Y23) hb); (try clear hb); (try clear hb2); (try clear hk); (try clear hi)))
     go_roundg k1
     case measure => have := HK1.out; omega
     case rel => exact ⟨(wrap64 (x5_1 + 1)), (sq), H', ⟨by have := HK1.out; omega⟩, ⟨kq BK154.out⟩, ⟨Y23⟩⟩
    ·replace c6 := Bool.eq_false_iff.mpr c6
     subst c6
     have H1 : (some false) = some r := by rw [if_neg (show ¬ (false = true) by decide)] at H; exact H
     clear H
     have H := H1
     clear H1
     obtain rfl := Option.some.inj H
     have hcz9_0 := bc0 BK154.out
     have hfz9_0 := blk_frozen BK154.out 0
     go_wp2_with (first | ((with_reducible refine gate_callee (f := 45) rfl ?_); refine gL (some 15) Try.func45 #[.agg #[.slice A0_0 l0_0.length c0_0], .slice A1 l1.length c1, .int .i64 x5_1] ?_; (with_reducible refine (spec_validLine.calls k1 _ _ l0_0 _ _ l1 x5_1 false _ ?side1 ?side2 ?side3 ?side4 A5.out).mono ?_); (case side1 => exact cq (Kd.C_below HR0_0.out HB.out)); (case side2 => exact HC0_0.out); (case side3 => exact cq (Kd.C_below HR1.out HB.out)); (case side4 => exact HC1.out); rintro e w10 ⟨rfl, hb⟩; refine ⟨_, rfl, ?_⟩; replace BK154 := am (blk_below (g := gb154) (o := .cells #[.slice A0_0 l0_0.length c0_0] 33 (0, 0)) (kq BK154.out) hb); replace HB := am (below_step (Y23) hb); (try clear hb); (try clear hb2); (try clear hk); (try clear hi)))
     go_ret
     exact ⟨Y1, Y23⟩
   ·rw [if_neg c4] at H
    have c4b0 : decide (x5_1 < (l1.length : Int)) = false := decide_eq_false c4
    clear c4
    replace H := Option.bind_eq_some_iff.mp H
    obtain ⟨t155, A110, H⟩ := H
    replace H : (if t155 = true then (some (decide ((l1.length : Int) ≤ 24))) else (some false)) = some r := H
    have A11 := am A110
    clear A110
    by_cases c12 : t155 = true
    ·subst c12
     have H1 : (some (decide ((l1.length : Int) ≤ 24))) = some r := by rw [if_pos rfl] at H; exact H
     clear H
     have H := H1
     clear H1
     obtain rfl := Option.some.inj H
     have hcz13_0 := bc0 BK154.out
     have hfz13_0 := blk_frozen BK154.out 0
     go_wp2_with (first | ((with_reducible refine gate_callee (f := 46) rfl ?_); refine gL (some 18) Try.func46 #[.agg #[.slice A0_0 l0_0.length c0_0]] ?_; (with_reducible refine (spec_validTree.calls k1 _ _ l0_0 true _ ?side1 ?side2 A11.out).mono ?_); (case side1 => exact cq (Kd.C_below HR0_0.out HB.out)); (case side2 => exact HC0_0.out); rintro e w14 ⟨rfl, hb⟩; refine ⟨_, rfl, ?_⟩; replace BK154 := am (blk_below (g := gb154) (o := .cells #[.slice A0_0 l0_0.length c0_0] 33 (0, 0)) (kq BK154.out) hb); replace HB := am (below_step (Y23) hb); (try clear hb); (try clear hb2); (try clear hk); (try clear hi)))
     go_ret
     exact ⟨Y1, Y23⟩
    ·replace c12 := Bool.eq_false_iff.mpr c12
     subst c12
     have H1 : (some false) = some r := by rw [if_neg (show ¬ (false = true) by decide)] at H; exact H
     clear H
     have H := H1
     clear H1
     obtain rfl := Option.some.inj H
     have hcz15_0 := bc0 BK154.out
     have hfz15_0 := blk_frozen BK154.out 0
     go_wp2_with (first | ((with_reducible refine gate_callee (f := 46) rfl ?_); refine gL (some 18) Try.func46 #[.agg #[.slice A0_0 l0_0.length c0_0]] ?_; (with_reducible refine (spec_validTree.calls k1 _ _ l0_0 false _ ?side1 ?side2 A11.out).mono ?_); (case side1 => exact cq (Kd.C_below HR0_0.out HB.out)); (case side2 => exact HC0_0.out); rintro e w16 ⟨rfl, hb⟩; refine ⟨_, rfl, ?_⟩; replace BK154 := am (blk_below (g := gb154) (o := .cells #[.slice A0_0 l0_0.length c0_0] 33 (0, 0)) (kq BK154.out) hb); replace HB := am (below_step (Y23) hb); (try clear hb); (try clear hb2); (try clear hk); (try clear hi)))
     go_ret
     exact ⟨Y1, Y23⟩
def spec_both.f (k : Nat) (l0_0 : List (S63)) (l1 : List (S50)) (l2 : List (S50)) : Option (Bool) := (spec_validProgram.f k l0_0 l1).bind fun t158 => (if t158 = true then ((spec_validProgram.f k l0_0 l2).bind fun t159 => (some t159)) else (some false))
set_option maxHeartbeats 8000000 in
set_option maxRecDepth 100000 in
theorem spec_both.calls (k : Nat) (A0_0 : Option Addr) (c0_0 : Nat) (l0_0 : List (S63)) (A1 : Option Addr) (c1 : Nat) (l1 : List (S50)) (A2 : Option Addr) (c2 : Nat) (l2 : List (S50)) (r : Bool) (w : World) (hr0_0 : Kd.C k63 w A0_0 l0_0.length l0_0) (hc0_0 : l0_0.length ≤ c0_0) (hr1 : Kd.C k50 w A1 l1.length l1) (hc1 : l1.length ≤ c1) (hr2 : Kd.C k50 w A2 l2.length l2) (hc2 : l2.length ≤ c2) (h : spec_both.f k l0_0 l1 l2 = some r) :
  Calls Try.prog 25 #[.agg #[.slice A0_0 l0_0.length c0_0], .slice A1 l1.length c1, .slice A2 l2.length c2] w fun e w' => e = .returned (.bool r) ∧ Below w.heap.size w w' := by
 have hu33 := Try.underlying33
 have HR0_0 := am hr0_0
 have HC0_0 := am hc0_0
 clear hr0_0 hc0_0
 have HR1 := am hr1
 have HC1 := am hc1
 clear hr1 hc1
 have HR2 := am hr2
 have HC2 := am hc2
 clear hr2 hc2
 have HB := am (Below.refl w.heap.size w)
 have H : ((spec_validProgram.f k l0_0 l1).bind fun t158 => (if t158 = true then ((spec_validProgram.f k l0_0 l2).bind fun t159 => (some t159)) else (some false))) = some r := h
 clear h
 replace H := Option.bind_eq_some_iff.mp H
 obtain ⟨t158, A40, H⟩ := H
 replace H : (if t158 = true then ((spec_validProgram.f k l0_0 l2).bind fun t159 => (some t159)) else (some false)) = some r := H
 have A4 := am A40
 clear A40
 by_cases c5 : t158 = true
 ·subst c5
  have H1 : ((spec_validProgram.f k l0_0 l2).bind fun t159 => (some t159)) = some r := by rw [if_pos rfl] at H; exact H
  clear H
  have H := H1
  clear H1
  replace H := Option.bind_eq_some_iff.mp H
  obtain ⟨t159, A60, H⟩ := H
  replace H : (some t159) = some r := H
  have A6 := am A60
  clear A60
  obtain rfl := Option.some.inj H
  go_enter Try.func25, Try.ntmps25
  go_wp2_with (first | ((with_reducible refine gate_dst (N := 3) rfl ?_); refine bE (N := 3) (cs := #[.slice A0_0 l0_0.length c0_0]) (t := 33) ?_; intro gb157 hg w7 hbox hb; have BK157 := am (hbox); have GW157 := am ((Y0 : w.heap.size ≤ gb157)); have GE157 := am ((Y0 : w.heap.size ≤ gb157)); replace HB := am (below_step (bq) hb); clear hb hbox hg; have hcz8_0 := bc0 BK157.out; have hfz8_0 := blk_frozen BK157.out 0) | ((with_reducible refine gate_callee (f := 35) rfl ?_); refine gL (some 9) Try.func35 #[.agg #[.slice A0_0 l0_0.length c0_0], .slice A1 l1.length c1] ?_; (with_reducible refine (spec_validProgram.calls k _ _ l0_0 _ _ l1 true _ ?side1 ?side2 ?side3 ?side4 A4.out).mono ?_); (case side1 => exact cq (Kd.C_below HR0_0.out HB.out)); (case side2 => exact HC0_0.out); (case side3 => exact cq (Kd.C_below HR1.out HB.out)); (case side4 => exact HC1.out); rintro e w9 ⟨rfl, hb⟩; refine ⟨_, rfl, ?_⟩; replace BK157 := am (blk_below (g := gb157) (o := .cells #[.slice A0_0 l0_0.length c0_0] 33 (0, 0)) (kq BK157.out) hb); replace HB := am (below_step (Y38) hb); (try clear hb); (try clear hb2); (try clear hk); (try clear hi); have hcz10_0 := bc0 BK157.out; have hfz10_0 := blk_frozen BK157.out 0) | (go_at_call 35; (with_reducible refine (spec_validProgram.calls k _ _ l0_0 _ _ l2 t159 _ ?side1 ?side2 ?side3 ?side4 A6.out).mono ?_); (case side1 => exact cq (Kd.C_below HR0_0.out HB.out)); (case side2 => exact HC0_0.out); (case side3 => exact cq (Kd.C_below HR2.out HB.out)); (case side4 => exact HC2.out); rintro e w11 ⟨rfl, hb⟩; replace BK157 := am (blk_below (g := gb157) (o := .cells #[.slice A0_0 l0_0.length c0_0] 33 (0, 0)) (kq BK157.out) hb); replace HB := am (below_step (Y38) hb); (try clear hb); (try clear hb2); (try clear hk); (try clear hi)))
  go_ret
  exact ⟨Y1, Y38⟩
 ·replace c5 := Bool.eq_false_iff.mpr c5
  subst c5
  have H1 : (some false) = some r := by rw [if_neg (show ¬ (false = true) by decide)] at H; exact H
  clear H
  have H := H1
  clear H1
  obtain rfl := Option.some.inj H
  go_enter Try.func25, Try.ntmps25
  go_wp2_with (first | ((with_reducible refine gate_dst (N := 3) rfl ?_); refine bE (N := 3) (cs := #[.slice A0_0 l0_0.length c0_0]) (t := 33) ?_; intro gb157 hg w12 hbox hb; have BK157 := am (hbox); have GW157 := am ((Y0 : w.heap.size ≤ gb157)); have GE157 := am ((Y0 : w.heap.size ≤ gb157)); replace HB := am (below_step (bq) hb); clear hb hbox hg; have hcz13_0 := bc0 BK157.out; have hfz13_0 := blk_frozen BK157.out 0) | ((with_reducible refine gate_callee (f := 35) rfl ?_); refine gL (some 9) Try.func35 #[.agg #[.slice A0_0 l0_0.length c0_0], .slice A1 l1.length c1] ?_; (with_reducible refine (spec_validProgram.calls k _ _ l0_0 _ _ l1 false _ ?side1 ?side2 ?side3 ?side4 A4.out).mono ?_); (case side1 => exact cq (Kd.C_below HR0_0.out HB.out)); (case side2 => exact HC0_0.out); (case side3 => exact cq (Kd.C_below HR1.out HB.out)); (case side4 => exact HC1.out); rintro e w14 ⟨rfl, hb⟩; refine ⟨_, rfl, ?_⟩; replace BK157 := am (blk_below (g := gb157) (o := .cells #[.slice A0_0 l0_0.length c0_0] 33 (0, 0)) (kq BK157.out) hb); replace HB := am (below_step (Y38) hb); (try clear hb); (try clear hb2); (try clear hk); (try clear hi)))
  go_ret
  exact ⟨Y1, Y38⟩
def spec_checkedProgram.f (k : Nat) (l0_0 : List (S63)) (l1 : List (S50)) : Option ((List (S50)) × Bool) := (spec_validProgram.f k l0_0 l1).bind fun t161 => (if t161 = true then (some (l1, true)) else (some (([] : List (S50)), false)))
set_option maxHeartbeats 8000000 in
set_option maxRecDepth 100000 in
theorem spec_checkedProgram.calls (k : Nat) (A0_0 : Option Addr) (c0_0 : Nat) (l0_0 : List (S63)) (P1_ : Nat → Prop) (u9000_ : Value) (l1 : List (S50)) (r1 : List (S50)) (r2 : Bool) (w0 w : World) (hB : Below w0.heap.size w0 w) (hr0_0 : ∀ W_, Kept w W_ (fun k_ => P1_ k_) → Kd.C k63 W_ A0_0 l0_0.length l0_0) (hc0_0 : l0_0.length ≤ c0_0) (ho1 : Kd.R k50 50 w w0.heap.size P1_ u9000_ l1) (h : spec_checkedProgram.f k l0_0 l1 = some (r1, r2)) :
  Calls Try.prog 26 #[.agg #[.slice A0_0 l0_0.length c0_0], u9000_] w fun e w' => ∃ v0_ : Value, e = .returned (.tuple #[v0_, .bool r2]) ∧ Kd.R k50 50 w' w0.heap.size (fun k_ => (P1_ k_ ∨ w.heap.size ≤ k_)) v0_ r1 ∧ Below w0.heap.size w0 w' ∧ Kept w w' (fun k_ => P1_ k_) := by
 have hu33 := Try.underlying33
 have HR0_0 := am hr0_0
 have HC0_0 := am hc0_0
 clear hr0_0 hc0_0
 have HO1 := am (show Kd.R k50 50 w w0.heap.size (fun k_ => (P1_ k_ ∨ w.heap.size ≤ k_)) u9000_ l1 from Kd.R_mono ho1 (fun k_ hk => (.inl hk)))
 have HK := am (Kept.refl w (fun k_ => P1_ k_))
 have HW0 := am hB.size
 have HB := am hB
 clear hB
 have H : ((spec_validProgram.f k l0_0 l1).bind fun t161 => (if t161 = true then (some (l1, true)) else (some (([] : List (S50)), false)))) = some (r1, r2) := h
 clear h
 replace H := Option.bind_eq_some_iff.mp H
 obtain ⟨t161, A30, H⟩ := H
 replace H : (if t161 = true then (some (l1, true)) else (some (([] : List (S50)), false))) = some (r1, r2) := H
 have A3 := am A30
 clear A30
 by_cases c4 : t161 = true
 ·subst c4
  have H1 : (some (l1, true)) = some (r1, r2) := by rw [if_pos rfl] at H; exact H
  clear H
  have H := H1
  clear H1
  simp only [Option.some.injEq, Prod.mk.injEq] at H
  obtain ⟨rfl, rfl⟩ := H
  go_enter Try.func26, Try.ntmps26
  go_wp2_with (first | ((with_reducible refine gate_dst (N := 2) rfl ?_); refine bE (N := 2) (cs := #[.slice A0_0 l0_0.length c0_0]) (t := 33) ?_; intro gb160 hg w5 hbox hb; have BK160 := am (hbox); have GW160 := am ((Y48 : w.heap.size ≤ gb160)); have GE160 := am ((Y0 : w0.heap.size ≤ gb160)); replace HO1 := am (Kd.R_below (rq HO1.out) hb); replace HK := am (Kept.below (S := (fun k_ => P1_ k_)) (Y18) hb); replace HB := am (below_step (bq) hb); clear hb hbox hg; have hcz6_0 := bc0 BK160.out; have hfz6_0 := blk_frozen BK160.out 0; obtain ⟨Ao7, co7, eo7⟩ := Kd.R_slice HO1.out; subst eo7) | ((with_reducible refine gate_callee (f := 35) rfl ?_); refine gL (some 8) Try.func35 #[.agg #[.slice A0_0 l0_0.length c0_0], .slice Ao7 l1.length co7] ?_; (with_reducible refine (spec_validProgram.calls k _ _ l0_0 _ _ l1 true _ ?side1 ?side2 ?side3 ?side4 A3.out).mono ?_); (case side1 => exact Kd.C_kept_now HR0_0.out (Y32)); (case side2 => exact HC0_0.out); (case side3 => exact cq (Kd.R_reads' HO1.out).2.2); (case side4 => exact (Kd.R_reads' HO1.out).2.1); rintro e w8 ⟨rfl, hb⟩; refine ⟨_, rfl, ?_⟩; replace HO1 := am (Kd.R_below (rq HO1.out) hb); replace BK160 := am (blk_below (g := gb160) (o := .cells #[.slice A0_0 l0_0.length c0_0] 33 (0, 0)) (kq BK160.out) hb); replace HK := am (Kept.below (S := (fun k_ => P1_ k_)) (Y32) hb); replace HB := am (below_step (Y49) hb); (try clear hb); (try clear hb2); (try clear hk); (try clear hi)))
  go_ret2
  exact ⟨_, Y1, rq HO1.out, Y49, Y32⟩
 ·replace c4 := Bool.eq_false_iff.mpr c4
  subst c4
  have H1 : (some (([] : List (S50)), false)) = some (r1, r2) := by rw [if_neg (show ¬ (false = true) by decide)] at H; exact H
  clear H
  have H := H1
  clear H1
  simp only [Option.some.injEq, Prod.mk.injEq] at H
  obtain ⟨rfl, rfl⟩ := H
  go_enter Try.func26, Try.ntmps26
  go_wp2_with (first | ((with_reducible refine gate_dst (N := 2) rfl ?_); refine bE (N := 2) (cs := #[.slice A0_0 l0_0.length c0_0]) (t := 33) ?_; intro gb160 hg w9 hbox hb; have BK160 := am (hbox); have GW160 := am ((Y48 : w.heap.size ≤ gb160)); have GE160 := am ((Y0 : w0.heap.size ≤ gb160)); replace HO1 := am (Kd.R_below (rq HO1.out) hb); replace HK := am (Kept.below (S := (fun k_ => P1_ k_)) (Y18) hb); replace HB := am (below_step (bq) hb); clear hb hbox hg; have hcz10_0 := bc0 BK160.out; have hfz10_0 := blk_frozen BK160.out 0; obtain ⟨Ao11, co11, eo11⟩ := Kd.R_slice HO1.out; subst eo11) | ((with_reducible refine gate_callee (f := 35) rfl ?_); refine gL (some 8) Try.func35 #[.agg #[.slice A0_0 l0_0.length c0_0], .slice Ao11 l1.length co11] ?_; (with_reducible refine (spec_validProgram.calls k _ _ l0_0 _ _ l1 false _ ?side1 ?side2 ?side3 ?side4 A3.out).mono ?_); (case side1 => exact Kd.C_kept_now HR0_0.out (Y32)); (case side2 => exact HC0_0.out); (case side3 => exact cq (Kd.R_reads' HO1.out).2.2); (case side4 => exact (Kd.R_reads' HO1.out).2.1); rintro e w12 ⟨rfl, hb⟩; refine ⟨_, rfl, ?_⟩; replace HO1 := am (Kd.R_below (rq HO1.out) hb); replace BK160 := am (blk_below (g := gb160) (o := .cells #[.slice A0_0 l0_0.length c0_0] 33 (0, 0)) (kq BK160.out) hb); replace HK := am (Kept.below (S := (fun k_ => P1_ k_)) (Y32) hb); replace HB := am (below_step (Y49) hb); (try clear hb); (try clear hb2); (try clear hk); (try clear hi)))
  go_ret2
  exact ⟨_, Y1, Y28, Y49, Y32⟩
def laws_toClass.f (a0_0 : ByteArray) (a0_1 : Int) : Option (ByteArray × Int) := some (a0_0, a0_1)
set_option maxHeartbeats 8000000 in
set_option maxRecDepth 100000 in
theorem laws_toClass.calls (a0_0 : ByteArray) (a0_1 : Int) (r1 : ByteArray) (r2 : Int) (w : World) (h : laws_toClass.f a0_0 a0_1 = some (r1, r2)) :
  Calls Try.prog 40 #[.agg #[.string a0_0, .int .i64 a0_1]] w fun e w' => e = .returned (.agg #[.string r1, .int .i64 r2]) ∧ Below w.heap.size w w' := by
 have hu62 := Try.underlying62
 have hu63 := Try.underlying63
 have HB := am (Below.refl w.heap.size w)
 have H : (some (a0_0, a0_1)) = some (r1, r2) := h
 clear h
 simp only [Option.some.injEq, Prod.mk.injEq] at H
 obtain ⟨rfl, rfl⟩ := H
 go_enter Try.func40, Try.ntmps40
 go_wp2_with (first | ((with_reducible refine gate_dst (N := 1) rfl ?_); refine bE (N := 1) (cs := #[.string a0_0, .int .i64 a0_1]) (t := 62) ?_; intro gb177 hg w2 hbox hb; have BK177 := am (hbox); have GW177 := am ((Y0 : w.heap.size ≤ gb177)); have GE177 := am ((Y0 : w.heap.size ≤ gb177)); replace HB := am (below_step (bq) hb); clear hb hbox hg) | ((with_reducible refine gate_dst (N := 2) rfl ?_); refine bE (N := 2) (cs := #[.string (⟨#[]⟩ : ByteArray), .int .i64 0]) (t := 63) ?_; intro gb178 hg w3 hbox hb; have BK178 := am (hbox); have GW178 := am ((Y69 : w.heap.size ≤ gb178)); have GE178 := am ((Y69 : w.heap.size ≤ gb178)); have NB177_178 := am ((by rw [hg]; exact Nat.ne_of_lt (blk_lt (g := gb177) (o := .cells #[.string a0_0, .int .i64 a0_1] 62 (0, 0)) (kq BK177.out)) : gb177 ≠ gb178)); have NB178_177 := am ((by rw [hg]; exact Nat.ne_of_gt (blk_lt (g := gb177) (o := .cells #[.string a0_0, .int .i64 a0_1] 62 (0, 0)) (kq BK177.out)) : gb178 ≠ gb177)); replace BK177 := am (blk_below (g := gb177) (o := .cells #[.string a0_0, .int .i64 a0_1] 62 (0, 0)) (kq BK177.out) hb); replace HB := am (below_step (by repeat (first | (with_reducible first | exact HB.out | apply below_alloc | apply pw_below_drewN | apply below_drew1 | refine below_set ?_ GE177.out) | exact HB.out)) hb); clear hb hbox hg) | ((with_reducible refine gate_dst (N := 3) rfl ?_); refine bE (N := 3) (cs := #[.string (⟨#[]⟩ : ByteArray), .int .i64 0]) (t := 63) ?_; intro gb179 hg w4 hbox hb; have BK179 := am (hbox); have GW179 := am ((Y70 : w.heap.size ≤ gb179)); have GE179 := am ((Y70 : w.heap.size ≤ gb179)); have NB177_179 := am ((by rw [hg]; exact Nat.ne_of_lt (blk_lt (g := gb177) (o := .cells #[.string a0_0, .int .i64 a0_1] 62 (0, 0)) (kq BK177.out)) : gb177 ≠ gb179)); have NB179_177 := am ((by rw [hg]; exact Nat.ne_of_gt (blk_lt (g := gb177) (o := .cells #[.string a0_0, .int .i64 a0_1] 62 (0, 0)) (kq BK177.out)) : gb179 ≠ gb177)); have NB178_179 := am ((by rw [hg]; exact Nat.ne_of_lt (blk_lt (g := gb178) (o := .cells #[.string (⟨#[]⟩ : ByteArray), .int .i64 0] 63 (0, 0)) (kq BK178.out)) : gb178 ≠ gb179)); have NB179_178 := am ((by rw [hg]; exact Nat.ne_of_gt (blk_lt (g := gb178) (o := .cells #[.string (⟨#[]⟩ : ByteArray), .int .i64 0] 63 (0, 0)) (kq BK178.out)) : gb179 ≠ gb178)); replace BK177 := am (blk_below (g := gb177) (o := .cells #[.string a0_0, .int .i64 a0_1] 62 (0, 0)) (kq BK177.out) hb); replace BK178 := am (blk_below (g := gb178) (o := .cells #[.string (⟨#[]⟩ : ByteArray), .int .i64 0] 63 (0, 0)) (kq BK178.out) hb); replace HB := am (below_step (by repeat (first | (with_reducible first | exact HB.out | apply below_alloc | apply pw_below_drewN | apply below_drew1 | refine below_set ?_ GE177.out | refine below_set ?_ GE178.out) | exact HB.out)) hb); clear hb hbox hg; have hnb5 := NB177_178.out; have hnc5 := NB178_177.out; have hnb6 := NB177_179.out; have hnc6 := NB179_177.out; have hcz7_0 := bc0 BK177.out; have hcz7_1 := bc1 BK177.out; have hfz7_0 := blk_frozen BK177.out 0; have hfz7_1 := blk_frozen BK177.out 1; have hnb8 := NB179_178.out; have hnc8 := NB178_179.out; have hcz9_0 := bc0 BK179.out; have hcz9_1 := bc1 BK179.out; have hfz9_0 := blk_frozen BK179.out 0; have hfz9_1 := blk_frozen BK179.out 1; have hcz10_0 := bc0 BK178.out; have hcz10_1 := bc1 BK178.out; have hfz10_0 := blk_frozen BK178.out 0; have hfz10_1 := blk_frozen BK178.out 1))
 refine bodyPost_ret (results_cell_row rfl _ _ gb178 63 #[.string a0_0, .int .i64 a0_1] (0, 0) _ rfl (by (with_reducible repeat (first | refine blk_drewN ?_ _ | refine blk_drew ?_ | refine blk_alloc ?_ _)); refine blk_put (cs := #[.string a0_0, .int .i64 0]) ?_ 1 _ rfl; (with_reducible repeat (first | refine blk_drewN ?_ _ | refine blk_drew ?_ | refine blk_alloc ?_ _)); refine blk_put (cs := #[.string (⟨#[]⟩ : ByteArray), .int .i64 0]) ?_ 0 _ rfl; (with_reducible repeat (first | refine blk_drewN ?_ _ | refine blk_drew ?_ | refine blk_alloc ?_ _)); refine blk_far ?_ NB178_179.out _; (with_reducible repeat (first | refine blk_drewN ?_ _ | refine blk_drew ?_ | refine blk_alloc ?_ _)); refine blk_far ?_ NB178_179.out _; (with_reducible repeat (first | refine blk_drewN ?_ _ | refine blk_drew ?_ | refine blk_alloc ?_ _)); exact BK178.out) Try.underlying63 rfl (by kernel_rfl)) rfl ?_
 exact ⟨Y1, by repeat (first | (with_reducible first | exact HB.out | apply below_alloc | apply pw_below_drewN | apply below_drew1 | refine below_set ?_ GE177.out | refine below_set ?_ GE178.out | refine below_set ?_ GE179.out) | exact HB.out)⟩
def laws_toClassS.l0 : Nat → List (S62) → List (S63) → Int → Option ((List (S63)))
 | 0, _, _, _ => none
 | k + 1, x0, x3, x4 => if x4 < (x0.length : Int) then (if 0 ≤ x4 then ((laws_toClass.f ((rd_T62 x0 x4).f0) ((rd_T62 x0 x4).f1)).bind fun bt184 => (if x4 < (x3.length : Int) then (laws_toClassS.l0 k x0 (x3.set (x4 : Int).toNat (⟨bt184.1, bt184.2⟩ : S63)) (wrap64 (x4 + 1))) else (none))) else (none)) else (some x3)
def laws_toClassS.f (k : Nat) (l0 : List (S62)) : Option ((List (S63))) := if 0 ≤ (l0.length : Int) then (if ((l0.length : Int) : Int).toNat ≤ 11728124029610 then (laws_toClassS.l0 k l0 (List.replicate ((l0.length : Int) : Int).toNat z63) 0) else (none)) else (none)
set_option maxHeartbeats 8000000 in
set_option maxRecDepth 100000 in
theorem laws_toClassS.calls (k : Nat) (A0 : Option Addr) (c0 : Nat) (l0 : List (S62)) (r : List (S63)) (w : World) (hr0 : Kd.C k62 w A0 l0.length l0) (hc0 : l0.length ≤ c0) (h : laws_toClassS.f k l0 = some r) :
  Calls Try.prog 27 #[.slice A0 l0.length c0] w fun e w' => ∃ v0_ : Value, e = .returned (v0_) ∧ Kd.R k63 63 w' w.heap.size (fun _ => True) v0_ r ∧ Below w.heap.size w w' := by
 have hu62 := Try.underlying62
 have hu63 := Try.underlying63
 have HR0 := am hr0
 have HC0 := am hc0
 clear hr0 hc0
 have HB := am (Below.refl w.heap.size w)
 have H : (if 0 ≤ (l0.length : Int) then (if ((l0.length : Int) : Int).toNat ≤ 11728124029610 then (laws_toClassS.l0 k l0 (List.replicate ((l0.length : Int) : Int).toNat z63) 0) else (none)) else (none)) = some r := h
 clear h
 by_cases c2 : 0 ≤ (l0.length : Int)
 ·rw [if_pos c2] at H
  have c2b0 := eq_true c2
  have c2b1 : decide (0 ≤ (l0.length : Int)) = true := decide_eq_true c2
  clear c2
  by_cases c3 : ((l0.length : Int) : Int).toNat ≤ 11728124029610
  ·rw [if_pos c3] at H
   have c3b0 := eq_true c3
   have c3b1 : decide (((l0.length : Int) : Int).toNat ≤ 11728124029610) = true := decide_eq_true c3
   clear c3
   obtain ⟨y180, hy180⟩ : ∃ y_ : List (S63), y_ = (List.replicate ((l0.length : Int) : Int).toNat z63) := ⟨_, rfl⟩
   replace H : (laws_toClassS.l0 k l0 y180 0) = some r := by first | (rw [hy180]; with_reducible exact H) | (have H2_ := (Option.bind_some _ _).symm.trans H; rw [hy180]; with_reducible exact H2_) | (have H2_ := (Option.bind_some _ _).symm.trans H; with_reducible exact H2_) | with_reducible exact H | (rw [hy180]; exact H) | exact H
   have Ny180 := am hy180
   clear hy180
   have H' := am H
   clear H
   go_enter Try.func27, Try.ntmps27
   go_wp2_with (first | ((with_reducible refine gate_dst (N := 7) rfl ?_); refine Kd.R_make k63 _ 63 rfl (N := 7) rfl 31 _ _ rfl (l0.length : Int) rfl rfl Try.underlying31 (.agg #[(.string ⟨#[]⟩), (.int .i64 0)]) 24 info63 rfl (by decide) (by omega) z63 (ok := fun _ => True) (okp := fun _ => True) (k63_mkM _ _ _ z63 ) (fun _ hk => hk) trivial (of_decide_eq_true (uq)) (Nat.le_trans (Nat.mul_le_mul_right _ (of_decide_eq_true (uq) : (l0.length : Int).toNat ≤ 11728124029610)) (by omega)) (Below.refl _ _) (Nat.le_refl _) ?_; intro v181 w4 ho5 hb hg_ hnew_; clear hg_ hnew_; (first | rw [← Ny180.out] at ho5 | (simp only [Int.reduceToNat] at ho5; rw [← Ny180.out] at ho5)); have HO182 := am (Kd.R_lower ho5 (below_size (bq))); replace HB := am (below_step (bq) hb); clear hb ho5))
   go_loopg [4] k (fun kq v4 w' => ∃ (x3_1 : List (S63)) (x4_1 : Int), v4 = .int .i64 x4_1 ∧ Aside0 (laws_toClassS.l0 kq l0 x3_1 x4_1 = some r) ∧ Aside0 (kq ≤ k) ∧ Aside0 (Kd.R k63 63 w' w.heap.size (fun _ => True) v181 x3_1) ∧ Aside0 (Below w.heap.size w w'))
   case atStart => exact ⟨(y180), (0), (sq), H', ⟨Nat.le_refl _⟩, ⟨rq HO182.out⟩, ⟨bq⟩⟩
   case round =>
    clear H'
    try clear c2
    try clear c2b0
    try clear c2b1
    try clear p2
    try clear c3
    try clear c3b0
    try clear c3b1
    obtain ⟨x3_1, x4_1, rfl, HA, HK1, HO_3, HB⟩ := hrel
    cases gk with
    | zero => exact absurd HA.out (by simp [laws_toClassS.l0])
    | succ k1 =>
     have H := HA.out
     clear HA
     simp only [laws_toClassS.l0] at H
     by_cases c6 : x4_1 < (l0.length : Int)
     ·rw [if_pos c6] at H
      have c6b0 : decide (x4_1 < (l0.length : Int)) = true := decide_eq_true c6
      clear c6
      by_cases c7 : 0 ≤ x4_1
      ·rw [if_pos c7] at H
       have c7b0 : decide (0 ≤ x4_1) = true := decide_eq_true c7
       clear c7
       replace H := Option.bind_eq_some_iff.mp H
       obtain ⟨⟨t184, t185⟩, A80, H⟩ := H
       replace H : (if x4_1 < (x3_1.length : Int) then (laws_toClassS.l0 k1 l0 (x3_1.set (x4_1 : Int).toNat (⟨t184, t185⟩ : S63)) (wrap64 (x4_1 + 1))) else (none)) = some r := H
       have A8 := am A80
       clear A80
       by_cases c9 : x4_1 < (x3_1.length : Int)
       ·rw [if_pos c9] at H
        have c9b0 : decide (x4_1 < (x3_1.length : Int)) = true := decide_eq_true c9
        clear c9
        obtain ⟨y186, hy186⟩ : ∃ y_ : List (S63), y_ = (x3_1.set (x4_1 : Int).toNat (⟨t184, t185⟩ : S63)) := ⟨_, rfl⟩
        replace H : (laws_toClassS.l0 k1 l0 y186 (wrap64 (x4_1 + 1))) = some r := by first | (rw [hy186]; with_reducible exact H) | (have H2_ := (Option.bind_some _ _).symm.trans H; rw [hy186]; with_reducible exact H2_) | (have H2_ := (Option.bind_some _ _).symm.trans H; with_reducible exact H2_) | with_reducible exact H | (rw [hy186]; exact H) | exact H
        have Ny186 := am hy186
        clear hy186
        have H' := am H
        clear H
        have p183 : 0 ≤ (x4_1 : Int) := of_decide_eq_true (uq)
        have q183 : x4_1 < (l0.length : Int) := of_decide_eq_true (uq)
        obtain ⟨ad183, e183, hx183_0, hx183_1⟩ := at_T62 HR0.out x4_1 p183 q183
        cases e183
        replace hx183_0 := cb HB.out hx183_0
        replace hx183_1 := cb HB.out hx183_1
        replace p183 := eq_true p183
        replace q183 := eq_true q183
        go_wp2_with (first | ((with_reducible refine gate_callee (f := 40) rfl ?_); refine gL (some 20) Try.func40 #[.agg #[.string ((rd_T62 l0 x4_1).f0), .int .i64 ((rd_T62 l0 x4_1).f1)]] ?_; (with_reducible refine (laws_toClass.calls ((rd_T62 l0 x4_1).f0) ((rd_T62 l0 x4_1).f1) t184 t185 _ A8.out).mono ?_); rintro e w11 ⟨rfl, hb⟩; refine ⟨_, rfl, ?_⟩; replace HO_3 := am (Kd.R_below (rq HO_3.out) hb); replace HB := am (below_step (bq) hb); (try clear hb); (try clear hb2); (try clear hk); (try clear hi); have p10 : 0 ≤ (x4_1 : Int) := of_decide_eq_true (uq); have q10 : (x4_1 : Int) < ((x3_1.length : Int) : Int) := of_decide_eq_true (uq); obtain ⟨go10, co10, eo10, gb10, gl10, cl10, HG10⟩ := Kd.R_form HO_3.out (by omega); (first | cases eo10 | (injection eo10 with ea_ en_ ec_; (first | subst ea_ | (injection ea_ with ea_; subst ea_)); subst ec_; clear en_)); have GB10 := am gb10; have GG10 := am HG10; clear gb10 gl10 HG10; obtain ⟨ce10, hcl10, hM10, hcc10, hfr10⟩ := Kd.R_elem HO_3.out z63 (x4_1 : Int) p10 q10; obtain rfl := k63_openM hM10; have hx10_0 : w11.cell? ⟨go10, (x4_1 : Int).toNat * 2, none⟩ = some (.string ((rd_T63 x3_1 x4_1).f0)) := hcc10 0 _ rfl; have hx10_1 : w11.cell? ⟨go10, (x4_1 : Int).toNat * 2 + 1, none⟩ = some (.int .i64 ((rd_T63 x3_1 x4_1).f1)) := hcc10 1 _ rfl; have hf10_0 : w11.frozen? ⟨go10, (x4_1 : Int).toNat * 2, none⟩ = false := hfr10 0; have hf10_1 : w11.frozen? ⟨go10, (x4_1 : Int).toNat * 2 + 1, none⟩ = false := hfr10 1; clear hcl10 hcc10 hfr10 hM10; replace p10 := eq_true p10; replace q10 := eq_true q10; have HX12 := am (show Kd.R k63 63 w11 w.heap.size (fun _ => True) (.slice (some ⟨go10, 0, none⟩) x3_1.length co10) x3_1 from (rq HO_3.out)); obtain ⟨ce12, hcl12, hM12, hcc12, hfr12⟩ := Kd.R_elem HX12.out z63 (x4_1 : Int) (of_decide_eq_true (uq)) (by have h_ : (x4_1 : Int) < ((x3_1.length : Int) : Int) := of_decide_eq_true (uq); first | exact h_ | (have e_ := (Kd.R_reads' HO_3.out).1; omega) | simpa using h_); obtain rfl := k63_openM hM12; have HP12 := Kd.R_seg HX12.out (x4_1 : Int) (of_decide_eq_true (uq)) (by have h_ : (x4_1 : Int) < ((x3_1.length : Int) : Int) := of_decide_eq_true (uq); first | exact h_ | (have e_ := (Kd.R_reads' HO_3.out).1; omega) | simpa using h_) (seg := [.string t184, .int .i64 t185]) (j := 0) hcl12 hcc12 (show 2 ≤ 2 from by decide) (x' := (⟨t184, t185⟩ : S63)) (k63_mkM _ _ _ (⟨t184, t185⟩ : S63) ) (fun _ hk => hk); have hx12_0 := hcc12 0 _ rfl; (try simp only [show (k63).sz = 2 from rfl, Nat.mul_one, Nat.add_zero] at hx12_0); have hf12_0 := hfr12 0; (try simp only [show (k63).sz = 2 from rfl, Nat.mul_one, Nat.add_zero] at hf12_0); have hx12_1 := hcc12 1 _ rfl; (try simp only [show (k63).sz = 2 from rfl, Nat.mul_one, Nat.add_zero] at hx12_1); have hf12_1 := hfr12 1; (try simp only [show (k63).sz = 2 from rfl, Nat.mul_one, Nat.add_zero] at hf12_1); clear hcl12 hcc12 hfr12 hM12) | ((with_reducible refine gate_store (t := 63) (p := 21) rfl ?_); refine store_event (t := 63) (p := 21) (v := ?vo_w13) (w1 := ((w11.setCell ⟨go10, (x4_1 : Int).toNat * 2, none⟩ (.string t184)).setCell ⟨go10, (x4_1 : Int).toNat * 2 + 1, none⟩ (.int .i64 t185))) ?hg ?ho ?hn ?hr ?_; (case ho => rfl); (case hg => rfl); (case hn => rfl); (case hr => exact Y4); intro w13 hw; have hg : w11.grownBy w13 (some go10) := (by rw [hw]; exact HP12.2); have hp_ : Kd.R k63 63 w13 w.heap.size (fun _ => True) (.slice (some ⟨go10, 0, none⟩) x3_1.length co10) y186 := (by rw [hw, Ny186.out]; exact HP12.1); clear HP12; replace HO_3 := am (hp_); replace HB := am ((by rw [hw]; exact below_set (below_set (HB.out) GB10.out) GB10.out : Below w.heap.size w w13)); clear hg hw hp_))
        go_roundg k1
        case measure => have := HK1.out; omega
        case rel => exact ⟨(y186), (wrap64 (x4_1 + 1)), (sq), H', ⟨by have := HK1.out; omega⟩, ⟨rq HO_3.out⟩, ⟨bq⟩⟩
       ·rw [if_neg c9] at H
        exact absurd H (by simp)
      ·rw [if_neg c7] at H
       exact absurd H (by simp)
     ·rw [if_neg c6] at H
      have c6b0 : decide (x4_1 < (l0.length : Int)) = false := decide_eq_false c6
      clear c6
      obtain rfl := Option.some.inj H
      go_wp2
      go_ret
      exact ⟨_, Y1, rq HO_3.out, bq⟩
  ·rw [if_neg c3] at H
   exact absurd H (by simp)
 ·rw [if_neg c2] at H
  exact absurd H (by simp)
def laws_toTree.f (k : Nat) (l0_0 : List (S62)) : Option ((List (S63))) := (laws_toClassS.f k l0_0).bind fun t190 => (some t190)
set_option maxHeartbeats 8000000 in
set_option maxRecDepth 100000 in
theorem laws_toTree.calls (k : Nat) (A0_0 : Option Addr) (c0_0 : Nat) (l0_0 : List (S62)) (r : List (S63)) (w : World) (hr0_0 : Kd.C k62 w A0_0 l0_0.length l0_0) (hc0_0 : l0_0.length ≤ c0_0) (h : laws_toTree.f k l0_0 = some r) :
  Calls Try.prog 10 #[.agg #[.slice A0_0 l0_0.length c0_0]] w fun e w' => ∃ v0_ : Value, e = .returned (.agg #[v0_]) ∧ Kd.R k63 63 w' w.heap.size (fun _ => True) v0_ r ∧ Below w.heap.size w w' := by
 have hu24 := Try.underlying24
 have hu33 := Try.underlying33
 have HR0_0 := am hr0_0
 have HC0_0 := am hc0_0
 clear hr0_0 hc0_0
 have HB := am (Below.refl w.heap.size w)
 have H : ((laws_toClassS.f k l0_0).bind fun t190 => (some t190)) = some r := h
 clear h
 replace H := Option.bind_eq_some_iff.mp H
 obtain ⟨t190, A20, H⟩ := H
 replace H : (some t190) = some r := H
 have A2 := am A20
 clear A20
 obtain rfl := Option.some.inj H
 go_enter Try.func10, Try.ntmps10
 go_wp2_with (first | ((with_reducible refine gate_dst (N := 1) rfl ?_); refine bE (N := 1) (cs := #[.slice A0_0 l0_0.length c0_0]) (t := 24) ?_; intro gb187 hg w3 hbox hb; have BK187 := am (hbox); have GW187 := am ((Y0 : w.heap.size ≤ gb187)); have GE187 := am ((Y0 : w.heap.size ≤ gb187)); replace HB := am (below_step (bq) hb); clear hb hbox hg) | ((with_reducible refine gate_dst (N := 2) rfl ?_); refine bE (N := 2) (cs := #[.slice none 0 0]) (t := 33) ?_; intro gb188 hg w4 hbox hb; have BK188 := am (hbox); have GW188 := am ((Y71 : w.heap.size ≤ gb188)); have GE188 := am ((Y71 : w.heap.size ≤ gb188)); have NB187_188 := am ((by rw [hg]; exact Nat.ne_of_lt (blk_lt (g := gb187) (o := .cells #[.slice A0_0 l0_0.length c0_0] 24 (0, 0)) (kq BK187.out)) : gb187 ≠ gb188)); have NB188_187 := am ((by rw [hg]; exact Nat.ne_of_gt (blk_lt (g := gb187) (o := .cells #[.slice A0_0 l0_0.length c0_0] 24 (0, 0)) (kq BK187.out)) : gb188 ≠ gb187)); replace BK187 := am (blk_below (g := gb187) (o := .cells #[.slice A0_0 l0_0.length c0_0] 24 (0, 0)) (kq BK187.out) hb); replace HB := am (below_step (by repeat (first | (with_reducible first | exact HB.out | apply below_alloc | apply pw_below_drewN | apply below_drew1 | refine below_set ?_ GE187.out) | exact HB.out)) hb); clear hb hbox hg) | ((with_reducible refine gate_dst (N := 3) rfl ?_); refine bE (N := 3) (cs := #[.slice none 0 0]) (t := 33) ?_; intro gb189 hg w5 hbox hb; have BK189 := am (hbox); have GW189 := am ((Y72 : w.heap.size ≤ gb189)); have GE189 := am ((Y72 : w.heap.size ≤ gb189)); have NB187_189 := am ((by rw [hg]; exact Nat.ne_of_lt (blk_lt (g := gb187) (o := .cells #[.slice A0_0 l0_0.length c0_0] 24 (0, 0)) (kq BK187.out)) : gb187 ≠ gb189)); have NB189_187 := am ((by rw [hg]; exact Nat.ne_of_gt (blk_lt (g := gb187) (o := .cells #[.slice A0_0 l0_0.length c0_0] 24 (0, 0)) (kq BK187.out)) : gb189 ≠ gb187)); have NB188_189 := am ((by rw [hg]; exact Nat.ne_of_lt (blk_lt (g := gb188) (o := .cells #[.slice none 0 0] 33 (0, 0)) (kq BK188.out)) : gb188 ≠ gb189)); have NB189_188 := am ((by rw [hg]; exact Nat.ne_of_gt (blk_lt (g := gb188) (o := .cells #[.slice none 0 0] 33 (0, 0)) (kq BK188.out)) : gb189 ≠ gb188)); replace BK187 := am (blk_below (g := gb187) (o := .cells #[.slice A0_0 l0_0.length c0_0] 24 (0, 0)) (kq BK187.out) hb); replace BK188 := am (blk_below (g := gb188) (o := .cells #[.slice none 0 0] 33 (0, 0)) (kq BK188.out) hb); replace HB := am (below_step (by repeat (first | (with_reducible first | exact HB.out | apply below_alloc | apply pw_below_drewN | apply below_drew1 | refine below_set ?_ GE187.out | refine below_set ?_ GE188.out) | exact HB.out)) hb); clear hb hbox hg; have hnb6 := NB187_188.out; have hnc6 := NB188_187.out; have hnb7 := NB187_189.out; have hnc7 := NB189_187.out; have hcz8_0 := bc0 BK187.out; have hfz8_0 := blk_frozen BK187.out 0) | ((with_reducible refine gate_callee (f := 27) rfl ?_); refine gL (some 6) Try.func27 #[.slice A0_0 l0_0.length c0_0] ?_; (with_reducible refine (laws_toClassS.calls k _ _ l0_0 t190 _ ?side1 ?side2 A2.out).mono ?_); (case side1 => exact cq (Kd.C_below HR0_0.out HB.out)); (case side2 => exact HC0_0.out); rintro e w9 ⟨v191, rfl, ho0, hb⟩; refine ⟨_, rfl, ?_⟩; have HO192 := am (Kd.R_lower ho0 (below_size (Y57))); replace BK187 := am (blk_below (g := gb187) (o := .cells #[.slice A0_0 l0_0.length c0_0] 24 (0, 0)) (kq BK187.out) hb); replace BK188 := am (blk_below (g := gb188) (o := .cells #[.slice none 0 0] 33 (0, 0)) (kq BK188.out) hb); replace BK189 := am (blk_below (g := gb189) (o := .cells #[.slice none 0 0] 33 (0, 0)) (kq BK189.out) hb); replace HB := am (below_step (Y57) hb); (try clear hb); (try clear hb2); (try clear hk); (try clear hi); (try clear ho0); obtain ⟨Ao10, co10, eo10⟩ := Kd.R_slice HO192.out; subst eo10; have hnb11 := NB189_188.out; have hnc11 := NB188_189.out; have hcz12_0 := bc0 BK189.out; have hfz12_0 := blk_frozen BK189.out 0; have hcz13_0 := bc0 BK188.out; have hfz13_0 := blk_frozen BK188.out 0))
 refine bodyPost_ret (results_cell_row rfl _ _ gb188 33 #[.slice Ao10 t190.length co10] (0, 0) _ rfl (by (with_reducible repeat (first | refine blk_drewN ?_ _ | refine blk_drew ?_ | refine blk_alloc ?_ _)); refine blk_put (cs := #[.slice none 0 0]) ?_ 0 _ rfl; (with_reducible repeat (first | refine blk_drewN ?_ _ | refine blk_drew ?_ | refine blk_alloc ?_ _)); refine blk_far ?_ NB188_189.out _; (with_reducible repeat (first | refine blk_drewN ?_ _ | refine blk_drew ?_ | refine blk_alloc ?_ _)); exact BK188.out) Try.underlying33 rfl (by kernel_rfl)) rfl ?_
 exact ⟨_, Y1, by (with_reducible repeat (first | apply Kd.R_alloc | apply Kd.R_drewN | apply Kd.R_drew)); exact Kd.R_mono (Kd.R_far (p := ⟨gb188, 0, none⟩) (Kd.R_far (p := ⟨gb189, 0, none⟩) (Kd.R_types (Kd.R_types HO192.out BK189.out (by decide)) BK188.out (by decide)) (fun _ hk => hk.1.2) (.slice Ao10 t190.length co10)) (fun _ hk => hk.2) (.slice Ao10 t190.length co10)) (fun _ hk => trivial), Y57⟩
def laws_toLine.f (a0_0 : Int) (a0_1 : Int) (a0_2 : Int) (a0_3 : Int) : Option (Int × Int × Int × Int) := some (a0_0, a0_1, a0_2, a0_3)
set_option maxHeartbeats 8000000 in
set_option maxRecDepth 100000 in
theorem laws_toLine.calls (a0_0 : Int) (a0_1 : Int) (a0_2 : Int) (a0_3 : Int) (r1 : Int) (r2 : Int) (r3 : Int) (r4 : Int) (w : World) (h : laws_toLine.f a0_0 a0_1 a0_2 a0_3 = some (r1, r2, r3, r4)) :
  Calls Try.prog 28 #[.agg #[.int .i64 a0_0, .int .i64 a0_1, .int .i64 a0_2, .int .i64 a0_3]] w fun e w' => e = .returned (.agg #[.int .i64 r1, .int .i64 r2, .int .i64 r3, .int .i64 r4]) ∧ Below w.heap.size w w' := by
 have hu52 := Try.underlying52
 have hu50 := Try.underlying50
 have HB := am (Below.refl w.heap.size w)
 have H : (some (a0_0, a0_1, a0_2, a0_3)) = some (r1, r2, r3, r4) := h
 clear h
 simp only [Option.some.injEq, Prod.mk.injEq] at H
 obtain ⟨rfl, rfl, rfl, rfl⟩ := H
 go_enter Try.func28, Try.ntmps28
 go_wp2_with (first | ((with_reducible refine gate_dst (N := 1) rfl ?_); refine bE (N := 1) (cs := #[.int .i64 a0_0, .int .i64 a0_1, .int .i64 a0_2, .int .i64 a0_3]) (t := 52) ?_; intro gb193 hg w2 hbox hb; have BK193 := am (hbox); have GW193 := am ((Y0 : w.heap.size ≤ gb193)); have GE193 := am ((Y0 : w.heap.size ≤ gb193)); replace HB := am (below_step (bq) hb); clear hb hbox hg) | ((with_reducible refine gate_dst (N := 2) rfl ?_); refine bE (N := 2) (cs := #[.int .i64 0, .int .i64 0, .int .i64 0, .int .i64 0]) (t := 50) ?_; intro gb194 hg w3 hbox hb; have BK194 := am (hbox); have GW194 := am ((Y73 : w.heap.size ≤ gb194)); have GE194 := am ((Y73 : w.heap.size ≤ gb194)); have NB193_194 := am ((Y74 : gb193 ≠ gb194)); have NB194_193 := am ((Y75 : gb194 ≠ gb193)); replace BK193 := am (blk_below (g := gb193) (o := .cells #[.int .i64 a0_0, .int .i64 a0_1, .int .i64 a0_2, .int .i64 a0_3] 52 (0, 0)) (kq BK193.out) hb); replace HB := am (below_step (by repeat (first | (with_reducible first | exact HB.out | apply below_alloc | apply pw_below_drewN | apply below_drew1 | refine below_set ?_ GE193.out) | exact HB.out)) hb); clear hb hbox hg) | ((with_reducible refine gate_dst (N := 3) rfl ?_); refine bE (N := 3) (cs := #[.int .i64 0, .int .i64 0, .int .i64 0, .int .i64 0]) (t := 50) ?_; intro gb195 hg w4 hbox hb; have BK195 := am (hbox); have GW195 := am ((Y76 : w.heap.size ≤ gb195)); have GE195 := am ((Y76 : w.heap.size ≤ gb195)); have NB193_195 := am ((Y74 : gb193 ≠ gb195)); have NB195_193 := am ((Y75 : gb195 ≠ gb193)); have NB194_195 := am ((by rw [hg]; exact Nat.ne_of_lt (blk_lt (g := gb194) (o := .cells #[.int .i64 0, .int .i64 0, .int .i64 0, .int .i64 0] 50 (0, 0)) (kq BK194.out)) : gb194 ≠ gb195)); have NB195_194 := am ((by rw [hg]; exact Nat.ne_of_gt (blk_lt (g := gb194) (o := .cells #[.int .i64 0, .int .i64 0, .int .i64 0, .int .i64 0] 50 (0, 0)) (kq BK194.out)) : gb195 ≠ gb194)); replace BK193 := am (blk_below (g := gb193) (o := .cells #[.int .i64 a0_0, .int .i64 a0_1, .int .i64 a0_2, .int .i64 a0_3] 52 (0, 0)) (kq BK193.out) hb); replace BK194 := am (blk_below (g := gb194) (o := .cells #[.int .i64 0, .int .i64 0, .int .i64 0, .int .i64 0] 50 (0, 0)) (kq BK194.out) hb); replace HB := am (below_step (by repeat (first | (with_reducible first | exact HB.out | apply below_alloc | apply pw_below_drewN | apply below_drew1 | refine below_set ?_ GE193.out | refine below_set ?_ GE194.out) | exact HB.out)) hb); clear hb hbox hg; have hnb5 := NB193_194.out; have hnc5 := NB194_193.out; have hnb6 := NB193_195.out; have hnc6 := NB195_193.out; have hcz7_0 := bc0 BK193.out; have hcz7_1 := bc1 BK193.out; have hcz7_2 := bc2 BK193.out; have hcz7_3 := bc3 BK193.out; have hfz7_0 := blk_frozen BK193.out 0; have hfz7_1 := blk_frozen BK193.out 1; have hfz7_2 := blk_frozen BK193.out 2; have hfz7_3 := blk_frozen BK193.out 3; have hnb8 := NB195_194.out; have hnc8 := NB194_195.out; have hcz9_0 := bc0 BK195.out; have hcz9_1 := bc1 BK195.out; have hcz9_2 := bc2 BK195.out; have hcz9_3 := bc3 BK195.out; have hfz9_0 := blk_frozen BK195.out 0; have hfz9_1 := blk_frozen BK195.out 1; have hfz9_2 := blk_frozen BK195.out 2; have hfz9_3 := blk_frozen BK195.out 3; have hcz10_0 := bc0 BK194.out; have hcz10_1 := bc1 BK194.out; have hcz10_2 := bc2 BK194.out; have hcz10_3 := bc3 BK194.out; have hfz10_0 := blk_frozen BK194.out 0; have hfz10_1 := blk_frozen BK194.out 1; have hfz10_2 := blk_frozen BK194.out 2; have hfz10_3 := blk_frozen BK194.out 3))
 refine bodyPost_ret (results_cell_row rfl _ _ gb194 50 #[.int .i64 a0_0, .int .i64 a0_1, .int .i64 a0_2, .int .i64 a0_3] (0, 0) _ rfl (by (with_reducible repeat (first | refine blk_drewN ?_ _ | refine blk_drew ?_ | refine blk_alloc ?_ _)); refine blk_put (cs := #[.int .i64 a0_0, .int .i64 a0_1, .int .i64 a0_2, .int .i64 0]) ?_ 3 _ rfl; (with_reducible repeat (first | refine blk_drewN ?_ _ | refine blk_drew ?_ | refine blk_alloc ?_ _)); refine blk_put (cs := #[.int .i64 a0_0, .int .i64 a0_1, .int .i64 0, .int .i64 0]) ?_ 2 _ rfl; (with_reducible repeat (first | refine blk_drewN ?_ _ | refine blk_drew ?_ | refine blk_alloc ?_ _)); refine blk_put (cs := #[.int .i64 a0_0, .int .i64 0, .int .i64 0, .int .i64 0]) ?_ 1 _ rfl; (with_reducible repeat (first | refine blk_drewN ?_ _ | refine blk_drew ?_ | refine blk_alloc ?_ _)); refine blk_put (cs := #[.int .i64 0, .int .i64 0, .int .i64 0, .int .i64 0]) ?_ 0 _ rfl; (with_reducible repeat (first | refine blk_drewN ?_ _ | refine blk_drew ?_ | refine blk_alloc ?_ _)); refine blk_far ?_ NB194_195.out _; (with_reducible repeat (first | refine blk_drewN ?_ _ | refine blk_drew ?_ | refine blk_alloc ?_ _)); refine blk_far ?_ NB194_195.out _; (with_reducible repeat (first | refine blk_drewN ?_ _ | refine blk_drew ?_ | refine blk_alloc ?_ _)); refine blk_far ?_ NB194_195.out _; (with_reducible repeat (first | refine blk_drewN ?_ _ | refine blk_drew ?_ | refine blk_alloc ?_ _)); refine blk_far ?_ NB194_195.out _; (with_reducible repeat (first | refine blk_drewN ?_ _ | refine blk_drew ?_ | refine blk_alloc ?_ _)); exact BK194.out) Try.underlying50 rfl (by kernel_rfl)) rfl ?_
 exact ⟨Y1, by repeat (first | (with_reducible first | exact HB.out | apply below_alloc | apply pw_below_drewN | apply below_drew1 | refine below_set ?_ GE193.out | refine below_set ?_ GE194.out | refine below_set ?_ GE195.out) | exact HB.out)⟩
def laws_toLineS.l0 : Nat → List (S52) → List (S50) → Int → Option ((List (S50)))
 | 0, _, _, _ => none
 | k + 1, x0, x3, x4 => if x4 < (x0.length : Int) then (if 0 ≤ x4 then ((laws_toLine.f ((rd_T52 x0 x4).f0) ((rd_T52 x0 x4).f1) ((rd_T52 x0 x4).f2) ((rd_T52 x0 x4).f3)).bind fun bt200 => (if x4 < (x3.length : Int) then (laws_toLineS.l0 k x0 (x3.set (x4 : Int).toNat (⟨bt200.1, bt200.2.1, bt200.2.2.1, bt200.2.2.2⟩ : S50)) (wrap64 (x4 + 1))) else (none))) else (none)) else (some x3)
def laws_toLineS.f (k : Nat) (l0 : List (S52)) : Option ((List (S50))) := if 0 ≤ (l0.length : Int) then (if ((l0.length : Int) : Int).toNat ≤ 8796093022208 then (laws_toLineS.l0 k l0 (List.replicate ((l0.length : Int) : Int).toNat z50) 0) else (none)) else (none)
set_option maxHeartbeats 8000000 in
set_option maxRecDepth 100000 in
theorem laws_toLineS.calls (k : Nat) (A0 : Option Addr) (c0 : Nat) (l0 : List (S52)) (r : List (S50)) (w : World) (hr0 : Kd.C k52 w A0 l0.length l0) (hc0 : l0.length ≤ c0) (h : laws_toLineS.f k l0 = some r) :
  Calls Try.prog 11 #[.slice A0 l0.length c0] w fun e w' => ∃ v0_ : Value, e = .returned (v0_) ∧ Kd.R k50 50 w' w.heap.size (fun _ => True) v0_ r ∧ Below w.heap.size w w' := by
 have hu52 := Try.underlying52
 have hu50 := Try.underlying50
 have HR0 := am hr0
 have HC0 := am hc0
 clear hr0 hc0
 have HB := am (Below.refl w.heap.size w)
 have H : (if 0 ≤ (l0.length : Int) then (if ((l0.length : Int) : Int).toNat ≤ 8796093022208 then (laws_toLineS.l0 k l0 (List.replicate ((l0.length : Int) : Int).toNat z50) 0) else (none)) else (none)) = some r := h
 clear h
 by_cases c2 : 0 ≤ (l0.length : Int)
 ·rw [if_pos c2] at H
  have c2b0 := eq_true c2
  have c2b1 : decide (0 ≤ (l0.length : Int)) = true := decide_eq_true c2
  clear c2
  by_cases c3 : ((l0.length : Int) : Int).toNat ≤ 8796093022208
  ·rw [if_pos c3] at H
   have c3b0 := eq_true c3
   have c3b1 : decide (((l0.length : Int) : Int).toNat ≤ 8796093022208) = true := decide_eq_true c3
   clear c3
   obtain ⟨y196, hy196⟩ : ∃ y_ : List (S50), y_ = (List.replicate ((l0.length : Int) : Int).toNat z50) := ⟨_, rfl⟩
   replace H : (laws_toLineS.l0 k l0 y196 0) = some r := by first | (rw [hy196]; with_reducible exact H) | (have H2_ := (Option.bind_some _ _).symm.trans H; rw [hy196]; with_reducible exact H2_) | (have H2_ := (Option.bind_some _ _).symm.trans H; with_reducible exact H2_) | with_reducible exact H | (rw [hy196]; exact H) | exact H
   have Ny196 := am hy196
   clear hy196
   have H' := am H
   clear H
   go_enter Try.func11, Try.ntmps11
   go_wp2_with (first | ((with_reducible refine gate_dst (N := 7) rfl ?_); refine Kd.R_make k50 _ 50 rfl (N := 7) rfl 28 _ _ rfl (l0.length : Int) rfl rfl Try.underlying28 (.agg #[(.int .i64 0), (.int .i64 0), (.int .i64 0), (.int .i64 0)]) 32 info50 rfl (by decide) (by omega) z50 (ok := fun _ => True) (okp := fun _ => True) (k50_mkM _ _ _ z50 ) (fun _ hk => hk) trivial (of_decide_eq_true (uq)) (Nat.le_trans (Nat.mul_le_mul_right _ (of_decide_eq_true (uq) : (l0.length : Int).toNat ≤ 8796093022208)) (by omega)) (Below.refl _ _) (Nat.le_refl _) ?_; intro v197 w4 ho5 hb hg_ hnew_; clear hg_ hnew_; (first | rw [← Ny196.out] at ho5 | (simp only [Int.reduceToNat] at ho5; rw [← Ny196.out] at ho5)); have HO198 := am (Kd.R_lower ho5 (below_size (bq))); replace HB := am (below_step (bq) hb); clear hb ho5))
   go_loopg [4] k (fun kq v4 w' => ∃ (x3_1 : List (S50)) (x4_1 : Int), v4 = .int .i64 x4_1 ∧ Aside0 (laws_toLineS.l0 kq l0 x3_1 x4_1 = some r) ∧ Aside0 (kq ≤ k) ∧ Aside0 (Kd.R k50 50 w' w.heap.size (fun _ => True) v197 x3_1) ∧ Aside0 (Below w.heap.size w w'))
   case atStart => exact ⟨(y196), (0), (sq), H', ⟨Nat.le_refl _⟩, ⟨rq HO198.out⟩, ⟨bq⟩⟩
   case round =>
    clear H'
    try clear c1
    try clear c2
    try clear c2b0
    try clear c2b1
    try clear p2
    try clear c3
    try clear c3b0
    try clear c3b1
    obtain ⟨x3_1, x4_1, rfl, HA, HK1, HO_3, HB⟩ := hrel
    cases gk with
    | zero => exact absurd HA.out (by simp [laws_toLineS.l0])
    | succ k1 =>
     have H := HA.out
     clear HA
     simp only [laws_toLineS.l0] at H
     by_cases c6 : x4_1 < (l0.length : Int)
     ·rw [if_pos c6] at H
      have c6b0 : decide (x4_1 < (l0.length : Int)) = true := decide_eq_true c6
      clear c6
      by_cases c7 : 0 ≤ x4_1
      ·rw [if_pos c7] at H
       have c7b0 : decide (0 ≤ x4_1) = true := decide_eq_true c7
       clear c7
       replace H := Option.bind_eq_some_iff.mp H
       obtain ⟨⟨t200, t201, t202, t203⟩, A80, H⟩ := H
       replace H : (if x4_1 < (x3_1.length : Int) then (laws_toLineS.l0 k1 l0 (x3_1.set (x4_1 : Int).toNat (⟨t200, t201, t202, t203⟩ : S50)) (wrap64 (x4_1 + 1))) else (none)) = some r := H
       have A8 := am A80
       clear A80
       by_cases c9 : x4_1 < (x3_1.length : Int)
       ·rw [if_pos c9] at H
        have c9b0 : decide (x4_1 < (x3_1.length : Int)) = true := decide_eq_true c9
        clear c9
        obtain ⟨y204, hy204⟩ : ∃ y_ : List (S50), y_ = (x3_1.set (x4_1 : Int).toNat (⟨t200, t201, t202, t203⟩ : S50)) := ⟨_, rfl⟩
        replace H : (laws_toLineS.l0 k1 l0 y204 (wrap64 (x4_1 + 1))) = some r := by first | (rw [hy204]; with_reducible exact H) | (have H2_ := (Option.bind_some _ _).symm.trans H; rw [hy204]; with_reducible exact H2_) | (have H2_ := (Option.bind_some _ _).symm.trans H; with_reducible exact H2_) | with_reducible exact H | (rw [hy204]; exact H) | exact H
        have Ny204 := am hy204
        clear hy204
        have H' := am H
        clear H
        have p199 : 0 ≤ (x4_1 : Int) := of_decide_eq_true (uq)
        have q199 : x4_1 < (l0.length : Int) := of_decide_eq_true (uq)
        obtain ⟨ad199, e199, hx199_0, hx199_1, hx199_2, hx199_3⟩ := at_T52 HR0.out x4_1 p199 q199
        cases e199
        replace hx199_0 := cb HB.out hx199_0
        replace hx199_1 := cb HB.out hx199_1
        replace hx199_2 := cb HB.out hx199_2
        replace hx199_3 := cb HB.out hx199_3
        replace p199 := eq_true p199
        replace q199 := eq_true q199
        go_wp2_with (first | ((with_reducible refine gate_callee (f := 28) rfl ?_); refine gL (some 20) Try.func28 #[.agg #[.int .i64 ((rd_T52 l0 x4_1).f0), .int .i64 ((rd_T52 l0 x4_1).f1), .int .i64 ((rd_T52 l0 x4_1).f2), .int .i64 ((rd_T52 l0 x4_1).f3)]] ?_; (with_reducible refine (laws_toLine.calls ((rd_T52 l0 x4_1).f0) ((rd_T52 l0 x4_1).f1) ((rd_T52 l0 x4_1).f2) ((rd_T52 l0 x4_1).f3) t200 t201 t202 t203 _ A8.out).mono ?_); rintro e w11 ⟨rfl, hb⟩; refine ⟨_, rfl, ?_⟩; replace HO_3 := am (Kd.R_below (rq HO_3.out) hb); replace HB := am (below_step (bq) hb); (try clear hb); (try clear hb2); (try clear hk); (try clear hi); have p10 : 0 ≤ (x4_1 : Int) := of_decide_eq_true (uq); have q10 : (x4_1 : Int) < ((x3_1.length : Int) : Int) := of_decide_eq_true (uq); obtain ⟨go10, co10, eo10, gb10, gl10, cl10, HG10⟩ := Kd.R_form HO_3.out (by omega); (first | cases eo10 | (injection eo10 with ea_ en_ ec_; (first | subst ea_ | (injection ea_ with ea_; subst ea_)); subst ec_; clear en_)); have GB10 := am gb10; have GG10 := am HG10; clear gb10 gl10 HG10; obtain ⟨ce10, hcl10, hM10, hcc10, hfr10⟩ := Kd.R_elem HO_3.out z50 (x4_1 : Int) p10 q10; obtain rfl := k50_openM hM10; have hx10_0 : w11.cell? ⟨go10, (x4_1 : Int).toNat * 4, none⟩ = some (.int .i64 ((rd_T50 x3_1 x4_1).f0)) := hcc10 0 _ rfl; have hx10_1 : w11.cell? ⟨go10, (x4_1 : Int).toNat * 4 + 1, none⟩ = some (.int .i64 ((rd_T50 x3_1 x4_1).f1)) := hcc10 1 _ rfl; have hx10_2 : w11.cell? ⟨go10, (x4_1 : Int).toNat * 4 + 2, none⟩ = some (.int .i64 ((rd_T50 x3_1 x4_1).f2)) := hcc10 2 _ rfl; have hx10_3 : w11.cell? ⟨go10, (x4_1 : Int).toNat * 4 + 3, none⟩ = some (.int .i64 ((rd_T50 x3_1 x4_1).f3)) := hcc10 3 _ rfl; have hf10_0 : w11.frozen? ⟨go10, (x4_1 : Int).toNat * 4, none⟩ = false := hfr10 0; have hf10_1 : w11.frozen? ⟨go10, (x4_1 : Int).toNat * 4 + 1, none⟩ = false := hfr10 1; have hf10_2 : w11.frozen? ⟨go10, (x4_1 : Int).toNat * 4 + 2, none⟩ = false := hfr10 2; have hf10_3 : w11.frozen? ⟨go10, (x4_1 : Int).toNat * 4 + 3, none⟩ = false := hfr10 3; clear hcl10 hcc10 hfr10 hM10; replace p10 := eq_true p10; replace q10 := eq_true q10; have HX12 := am (show Kd.R k50 50 w11 w.heap.size (fun _ => True) (.slice (some ⟨go10, 0, none⟩) x3_1.length co10) x3_1 from (rq HO_3.out)); obtain ⟨ce12, hcl12, hM12, hcc12, hfr12⟩ := Kd.R_elem HX12.out z50 (x4_1 : Int) (of_decide_eq_true (uq)) (by have h_ : (x4_1 : Int) < ((x3_1.length : Int) : Int) := of_decide_eq_true (uq); first | exact h_ | (have e_ := (Kd.R_reads' HO_3.out).1; omega) | simpa using h_); obtain rfl := k50_openM hM12; have HP12 := Kd.R_seg HX12.out (x4_1 : Int) (of_decide_eq_true (uq)) (by have h_ : (x4_1 : Int) < ((x3_1.length : Int) : Int) := of_decide_eq_true (uq); first | exact h_ | (have e_ := (Kd.R_reads' HO_3.out).1; omega) | simpa using h_) (seg := [.int .i64 t200, .int .i64 t201, .int .i64 t202, .int .i64 t203]) (j := 0) hcl12 hcc12 (show 4 ≤ 4 from by decide) (x' := (⟨t200, t201, t202, t203⟩ : S50)) (k50_mkM _ _ _ (⟨t200, t201, t202, t203⟩ : S50) ) (fun _ hk => hk); have hx12_0 := hcc12 0 _ rfl; (try simp only [show (k50).sz = 4 from rfl, Nat.mul_one, Nat.add_zero] at hx12_0); have hf12_0 := hfr12 0; (try simp only [show (k50).sz = 4 from rfl, Nat.mul_one, Nat.add_zero] at hf12_0); have hx12_1 := hcc12 1 _ rfl; (try simp only [show (k50).sz = 4 from rfl, Nat.mul_one, Nat.add_zero] at hx12_1); have hf12_1 := hfr12 1; (try simp only [show (k50).sz = 4 from rfl, Nat.mul_one, Nat.add_zero] at hf12_1); have hx12_2 := hcc12 2 _ rfl; (try simp only [show (k50).sz = 4 from rfl, Nat.mul_one, Nat.add_zero] at hx12_2); have hf12_2 := hfr12 2; (try simp only [show (k50).sz = 4 from rfl, Nat.mul_one, Nat.add_zero] at hf12_2); have hx12_3 := hcc12 3 _ rfl; (try simp only [show (k50).sz = 4 from rfl, Nat.mul_one, Nat.add_zero] at hx12_3); have hf12_3 := hfr12 3; (try simp only [show (k50).sz = 4 from rfl, Nat.mul_one, Nat.add_zero] at hf12_3); clear hcl12 hcc12 hfr12 hM12) | ((with_reducible refine gate_store (t := 50) (p := 21) rfl ?_); refine store_event (t := 50) (p := 21) (v := ?vo_w13) (w1 := ((((w11.setCell ⟨go10, (x4_1 : Int).toNat * 4, none⟩ (.int .i64 t200)).setCell ⟨go10, (x4_1 : Int).toNat * 4 + 1, none⟩ (.int .i64 t201)).setCell ⟨go10, (x4_1 : Int).toNat * 4 + 2, none⟩ (.int .i64 t202)).setCell ⟨go10, (x4_1 : Int).toNat * 4 + 3, none⟩ (.int .i64 t203))) ?hg ?ho ?hn ?hr ?_; (case ho => rfl); (case hg => rfl); (case hn => rfl); (case hr => exact Y4); intro w13 hw; have hg : w11.grownBy w13 (some go10) := (by rw [hw]; exact HP12.2); have hp_ : Kd.R k50 50 w13 w.heap.size (fun _ => True) (.slice (some ⟨go10, 0, none⟩) x3_1.length co10) y204 := (by rw [hw, Ny204.out]; exact HP12.1); clear HP12; replace HO_3 := am (hp_); replace HB := am ((by rw [hw]; exact below_set (below_set (below_set (below_set (HB.out) GB10.out) GB10.out) GB10.out) GB10.out : Below w.heap.size w w13)); clear hg hw hp_))
        go_roundg k1
        case measure => have := HK1.out; omega
        case rel => exact ⟨(y204), (wrap64 (x4_1 + 1)), (sq), H', ⟨by have := HK1.out; omega⟩, ⟨rq HO_3.out⟩, ⟨bq⟩⟩
       ·rw [if_neg c9] at H
        exact absurd H (by simp)
      ·rw [if_neg c7] at H
       exact absurd H (by simp)
     ·rw [if_neg c6] at H
      have c6b0 : decide (x4_1 < (l0.length : Int)) = false := decide_eq_false c6
      clear c6
      obtain rfl := Option.some.inj H
      go_wp2
      go_ret
      exact ⟨_, Y1, rq HO_3.out, bq⟩
  ·rw [if_neg c3] at H
   exact absurd H (by simp)
 ·rw [if_neg c2] at H
  exact absurd H (by simp)
def impl_within.f (a0 : Int) (a1 : Int) (a2 : Int) : Option (Bool) := if a0 ≥ a1 then (some (decide (a0 ≤ a2))) else (some false)
set_option maxHeartbeats 8000000 in
set_option maxRecDepth 100000 in
theorem impl_within.calls (a0 : Int) (a1 : Int) (a2 : Int) (r : Bool) (w : World) (h : impl_within.f a0 a1 a2 = some r) :
  Calls Try.prog 50 #[.int .i64 a0, .int .i64 a1, .int .i64 a2] w fun e w' => e = .returned (.bool r) ∧ Drawn0 w w' := by
 have H : (if a0 ≥ a1 then (some (decide (a0 ≤ a2))) else (some false)) = some r := h
 clear h
 by_cases c4 : a0 ≥ a1
 ·rw [if_pos c4] at H
  have c4b0 : decide (a1 ≤ a0) = true := decide_eq_true c4
  clear c4
  obtain rfl := Option.some.inj H
  go_enter Try.func50, Try.ntmps50
  go_wp2
  go_ret
  exact ⟨sq, Y5⟩
 ·rw [if_neg c4] at H
  have c4b0 : decide (a1 ≤ a0) = false := decide_eq_false c4
  clear c4
  obtain rfl := Option.some.inj H
  go_enter Try.func50, Try.ntmps50
  go_wp2
  go_ret
  exact ⟨sq, Y5⟩
def impl_nameOk.l0 : Nat → ByteArray → Int → Int → Option (Bool)
 | 0, _, _, _ => none
 | k + 1, x0, x5, x6 => if x6 < x5 then (if 0 ≤ x6 then (if x6 < (x0.size : Int) then (if (bt x0 x6) < 97 then (some false) else (if (bt x0 x6) > 122 then (some false) else (impl_nameOk.l0 k x0 x5 (wrap64 (x6 + 1))))) else (none)) else (none)) else ((impl_within.f (x0.size : Int) 1 6).bind fun t205 => (some t205))
def impl_nameOk.f (k : Nat) (a0 : ByteArray) : Option (Bool) := impl_nameOk.l0 k a0 (a0.size : Int) 0
set_option maxHeartbeats 8000000 in
set_option maxRecDepth 100000 in
theorem impl_nameOk.calls (k : Nat) (a0 : ByteArray) (r : Bool) (w : World) (h : impl_nameOk.f k a0 = some r) :
  Calls Try.prog 62 #[.string a0] w fun e w' => e = .returned (.bool r) ∧ Drawn0 w w' := by
 have H : (impl_nameOk.l0 k a0 (a0.size : Int) 0) = some r := h
 clear h
 have H' := am H
 clear H
 go_enter Try.func62, Try.ntmps62
 go_wp2
 go_loopg [6] k (fun kq v6 w' => ∃ (x6_1 : Int), v6 = .int .i64 x6_1 ∧ Aside0 (impl_nameOk.l0 kq a0 (a0.size : Int) x6_1 = some r) ∧ Aside0 (kq ≤ k) ∧ Drawn0 w w')
 case atStart => exact ⟨(0), (sq), H', ⟨Nat.le_refl _⟩, Y5⟩
 case round =>
  clear H'
  obtain ⟨x6_1, rfl, HA, HK1, ⟨m1, rfl⟩⟩ := hrel
  cases gk with
  | zero => exact absurd HA.out (by simp [impl_nameOk.l0])
  | succ k1 =>
   have H := HA.out
   clear HA
   simp only [impl_nameOk.l0] at H
   by_cases c2 : x6_1 < (a0.size : Int)
   ·rw [if_pos c2] at H
    have c2b0 : decide (x6_1 < (a0.size : Int)) = true := decide_eq_true c2
    clear c2
    by_cases c3 : 0 ≤ x6_1
    ·rw [if_pos c3] at H
     have c3b0 : decide (0 ≤ x6_1) = true := decide_eq_true c3
     clear c3
     by_cases c4 : x6_1 < (a0.size : Int)
     ·rw [if_pos c4] at H
      have c4b0 : decide (x6_1 < (a0.size : Int)) = true := decide_eq_true c4
      clear c4
      by_cases c6 : (bt a0 x6_1) < 97
      ·rw [if_pos c6] at H
       have c6b0 : decide ((bt a0 x6_1) < 97) = true := decide_eq_true c6
       clear c6
       obtain rfl := Option.some.inj H
       have p5 : 0 ≤ (x6_1 : Int) := of_decide_eq_true (uq)
       have q5 : x6_1 < (a0.size : Int) := of_decide_eq_true (uq)
       have hx5 := bt_at a0 x6_1
       replace p5 := eq_true p5
       replace q5 := eq_true q5
       go_wp2
       go_ret
       exact ⟨sq, Y5⟩
      ·rw [if_neg c6] at H
       have c6b0 : decide ((bt a0 x6_1) < 97) = false := decide_eq_false c6
       clear c6
       by_cases c8 : (bt a0 x6_1) > 122
       ·rw [if_pos c8] at H
        have c8b0 : decide (122 < (bt a0 x6_1)) = true := decide_eq_true c8
        clear c8
        obtain rfl := Option.some.inj H
        have p5 : 0 ≤ (x6_1 : Int) := of_decide_eq_true (uq)
        have q5 : x6_1 < (a0.size : Int) := of_decide_eq_true (uq)
        have hx5 := bt_at a0 x6_1
        replace p5 := eq_true p5
        replace q5 := eq_true q5
        have p7 : 0 ≤ (x6_1 : Int) := of_decide_eq_true (uq)
        have q7 : x6_1 < (a0.size : Int) := of_decide_eq_true (uq)
        have hx7 := bt_at a0 x6_1
        replace p7 := eq_true p7
        replace q7 := eq_true q7
        go_wp2
        go_ret
        exact ⟨sq, Y5⟩
       ·rw [if_neg c8] at H
        have c8b0 : decide (122 < (bt a0 x6_1)) = false := decide_eq_false c8
        clear c8
        have H' := am H
        clear H
        have p5 : 0 ≤ (x6_1 : Int) := of_decide_eq_true (uq)
        have q5 : x6_1 < (a0.size : Int) := of_decide_eq_true (uq)
        have hx5 := bt_at a0 x6_1
        replace p5 := eq_true p5
        replace q5 := eq_true q5
        have p7 : 0 ≤ (x6_1 : Int) := of_decide_eq_true (uq)
        have q7 : x6_1 < (a0.size : Int) := of_decide_eq_true (uq)
        have hx7 := bt_at a0 x6_1
        replace p7 := eq_true p7
        replace q7 := eq_true q7
        go_wp2
        go_roundg k1
        case measure => have := HK1.out; omega
        case rel => exact ⟨(wrap64 (x6_1 + 1)), (sq), H', ⟨by have := HK1.out; omega⟩, Y5⟩
     ·rw [if_neg c4] at H
      exact absurd H (by simp)
    ·rw [if_neg c3] at H
     exact absurd H (by simp)
   ·rw [if_neg c2] at H
    have c2b0 : decide (x6_1 < (a0.size : Int)) = false := decide_eq_false c2
    clear c2
    replace H := Option.bind_eq_some_iff.mp H
    obtain ⟨t205, A90, H⟩ := H
    replace H : (some t205) = some r := H
    have A9 := am A90
    clear A90
    obtain rfl := Option.some.inj H
    go_wp2_with (first | ((with_reducible refine gate_callee (f := 50) rfl ?_); refine gL (some 22) Try.func50 #[.int .i64 (a0.size : Int), .int .i64 1, .int .i64 6] ?_; (with_reducible refine (impl_within.calls (a0.size : Int) 1 6 t205 _ A9.out).mono ?_); rintro e w' ⟨rfl, ⟨nd, rfl⟩⟩; refine ⟨_, rfl, ?_⟩))
    go_ret
    exact ⟨sq, Y5⟩

theorem impl_named1_calls (a b : ByteArray) (p : Int) (B : Nat) (w : World) (hB : B < w.heap.size) (hc : w.cell? ⟨B, 0, none⟩ = some (.string b)) :
  Calls Try.prog 73 #[.agg #[.string a, .int .i64 p], .pointer (some ⟨B, 0, none⟩)] w fun e w' => e = .returned (.bool (a.toList == b.toList)) ∧ Below w.heap.size w w' := by
 have hne : B ≠ w.heap.size := by omega
 go_enter Try.func73, Try.ntmps73
 go_wp2
 go_ret
 exact ⟨rfl, (Below.refl _ _).alloc (Nat.le_refl _) _⟩
set_option maxHeartbeats 8000000 in
set_option maxRecDepth 100000 in
theorem impl_named_idx (A_ : Option Addr) (c_ : Nat) (l : List (S63)) (B0_ : Nat) (p : S63 → Option Bool) (r : Int) (w : World) (hr : Kd.C k63 w A_ l.length l) (h : idxFrom p l 0 = some r)
  (hp : ∀ W, Below w.heap.size w W → ∀ (x : S63) (b : Bool), p x = some b → Calls Try.prog 73 #[.agg #[.string x.f0, .int .i64 x.f1], .pointer (some ⟨B0_, 0, none⟩)] W fun e w' => e = .returned (.bool b) ∧ Below W.heap.size W w') :
  Calls Try.prog 72 #[.slice A_ l.length c_, .func (.func 73) #[] #[.pointer (some ⟨B0_, 0, none⟩)]] w fun e w' => e = .returned (.int .i64 r) ∧ Below w.heap.size w w' := by
 have hm : l.length ≤ 9223372036854775807 := Kd.C_max hr
 have HR := am hr
 have HP := am hp
 have H0 := am h
 clear hr hp h
 go_enter Try.func72, Try.ntmps72
 go_wp2
 go_loopw [5, 8] (fun i5 i8 wr => ∃ k : Nat, k ≤ l.length ∧ i8 = .int .i64 k ∧ Aside0 (idxFrom p (l.drop k) k = some r) ∧ Below w.heap.size w wr) (fun _ i8 _ => l.length - (intOf i8).toNat)
 case atStart => exact ⟨0, Nat.zero_le _, rfl, H0, Below.refl _ _⟩
 case round =>
  clear H0
  obtain ⟨k, hk, rfl, HA, hb⟩ := hrel
  by_cases hlt : k < l.length
  ·have HB := am (idxFrom_step hlt HA.out)
   clear HA
   obtain ⟨ad, rfl, hx0, hx1⟩ := at_T63 HR.out (k : Int) (by omega) (by omega)
   have hrd : rd_T63 l (k : Int) = l[k] := by simp [rd_T63, List.getD_eq_getElem?_getD, hlt]
   replace hx0 := pw_cell_below hb hx0
   replace hx1 := pw_cell_below hb hx1
   rw [hrd] at hx0 hx1
   simp only [Int.toNat_natCast] at hx0 hx1
   clear hrd
   obtain ⟨b, hb1, hb0⟩ := HB.out
   have HQ := am hb1
   clear hb1 HB
   cases b with
   | true =>
    have HZ := am (by simpa using hb0 : (k : Int) = r)
    clear hb0
    go_wp2_with (go_at_call 73; refine (HP.out _ hb _ _ HQ.out).mono ?_; rintro e w' ⟨rfl, hb2⟩)
    go_ret
    exact ⟨by rw [← HZ.out]; rfl, below_then hb hb.size hb2⟩
   | false =>
    have HZ := am (by simpa using hb0 : idxFrom p (l.drop (k + 1)) (k + 1) = some r)
    clear hb0
    go_wp2_with (go_at_call 73; refine (HP.out _ hb _ _ HQ.out).mono ?_; rintro e w' ⟨rfl, hb2⟩)
    go_roundw
    case rel => exact ⟨k + 1, hlt, by go_num, HZ, below_then hb hb.size hb2⟩
    case measure => simp [intOf]; omega
  ·have HZ := am (idxFrom_end (by omega) HA.out)
   clear HA
   go_wp2
   go_ret
   exact ⟨by rw [HZ.out]; rfl, hb⟩
def impl_Tree_named.f (l0_0 : List S63) (a1 : ByteArray) : Option Int := idxFrom (fun x : S63 => some (x.f0.toList == a1.toList)) l0_0 0
set_option maxHeartbeats 8000000 in
set_option maxRecDepth 100000 in
theorem impl_Tree_named.calls (A0_0 : Option Addr) (c0_0 : Nat) (l0_0 : List (S63)) (a1 : ByteArray) (r : Int) (w : World) (hr0_0 : Kd.C k63 w A0_0 l0_0.length l0_0) (hc0_0 : l0_0.length ≤ c0_0) (h : impl_Tree_named.f l0_0 a1 = some r) :
  Calls Try.prog 63 #[.agg #[.slice A0_0 l0_0.length c0_0], .string a1] w fun e w' => e = .returned (.int .i64 r) ∧ Below w.heap.size w w' := by
 have hu33 := Try.underlying33
 have HF := am (fun W (hb : Below w.heap.size w W) (B : Nat) (hB : B < W.heap.size) (hc : W.cell? ⟨B, 0, none⟩ = some (.string a1)) => impl_named_idx A0_0 c0_0 l0_0 B (fun x : S63 => some (x.f0.toList == a1.toList)) r W (Kd.C_below hr0_0 hb) h (fun W' hb' x b hx => by
  obtain rfl := Option.some.inj hx
  exact impl_named1_calls x.f0 a1 x.f1 B W' (Nat.lt_of_lt_of_le hB hb'.size) (pw_cell_below hb' hc)))
 clear h hr0_0
 go_enter Try.func63, Try.ntmps63
 go_wp2_with (go_at_call 72; refine (HF.out _ (((Below.refl _ _).alloc (Nat.le_refl _) _).alloc (by simp) _) _ (by simp) (by simp)).mono ?_; rintro e w' ⟨rfl, hb2⟩)
 go_ret
 exact ⟨rfl, (((Below.refl _ _).alloc (Nat.le_refl _) _).alloc (by simp) _).trans (hb2.mono (by simp; omega))⟩
end Go.Proofs.Ytgbigghiegiejaa.P
end
