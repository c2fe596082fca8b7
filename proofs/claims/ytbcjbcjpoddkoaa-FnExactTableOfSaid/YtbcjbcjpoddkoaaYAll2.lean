/- One part of the proofs on this program: functions of the program as plain functions, that the code comes to them, and facts on them. -/
import Derived.Test.YtbcjbcjpoddkoaaYAll1
import Derived.Test.YtbcjbcjpoddkoaaYWAuto
section
namespace Go.Proofs.Ytbcjbcjpoddkoaa.P
open Go.RowKit Go.Proofs.YtbcjbcjpoddkoaaW.PrintWords Go.Proofs.YtbcjbcjpoddkoaaW.PrintLast Go.Proofs.YtbcjbcjpoddkoaaW.PrintMore
attribute [local go_sem] max2_int min2_int max_two min_two max_three min_three max_four min_four isSome_cell_setCell
set_option linter.unusedVariables false
set_option linter.unusedSimpArgs false
def spec_validLine.inB (a lo hi : Int) : Bool := decide (lo ≤ a) && decide (a ≤ hi)
theorem spec_inRange_eq (a lo hi : Int) : spec_inRange.f a lo hi = some (spec_validLine.inB a lo hi) := by
 unfold spec_inRange.f spec_validLine.inB
 by_cases h : lo ≤ a
 ·rw [if_pos h]; simp [h]
 ·rw [if_neg h]; simp [h]
theorem spec_opens_eq (a : Int) : spec_opens.f a = some (spec_validLine.inB a 7 12) := by
 unfold spec_opens.f
 rw [spec_inRange_eq]; rfl
theorem spec_follows_eq (a : Int) : spec_follows.f a = some (spec_validLine.inB a 8 10) := by
 unfold spec_follows.f
 rw [spec_inRange_eq]; rfl
def spec_validLine.off (p : List S59) (i : Int) (x : S59) : Bool :=
 if (if i = 0 then decide (x.f0 ≠ 0) else if (wrap64 ((rd_T59 p (i - 1)).f0 + 1)) < x.f0 then true else (spec_validLine.inB (rd_T59 p (i - 1)).f1 7 12 != (x.f0 == wrap64 ((rd_T59 p (i - 1)).f0 + 1)))) then true
 else decide (i + 1 = (p.length : Int)) && spec_validLine.inB x.f1 7 12
def spec_validLine.f (k : Nat) (l0_0 : List S98) (l1 : List S59) (a2 : Int) : Option Bool :=
 if 0 ≤ a2 then if a2 < (l1.length : Int) then
  (spec_validNumbers.f k l0_0 (rd_T59 l1 a2).f0 (rd_T59 l1 a2).f1 (rd_T59 l1 a2).f2 (rd_T59 l1 a2).f3).bind fun v =>
  if v = false then some false else if spec_validLine.inB (rd_T59 l1 a2).f0 0 5 = false then some false else
  if spec_validLine.off l1 a2 (rd_T59 l1 a2) then some false else
  (if (rd_T59 l1 a2).f1 = 7 then spec_validChain.f k l1 a2 else some true).bind fun c1 => if c1 = false then some false else
  (if (rd_T59 l1 a2).f1 = 5 ∨ (rd_T59 l1 a2).f1 = 6 then spec_inLoop.f k l1 a2 else some true).bind fun c2 => if c2 = false then some false else
  if spec_validLine.inB (rd_T59 l1 a2).f1 8 10 = false then some true else
  (spec_headOf.f k l1 a2).bind fun h => if 0 ≤ h then if h < (l1.length : Int) then some ((rd_T59 l1 h).f1 == 7 || spec_validLine.inB (rd_T59 l1 h).f1 8 10) else none else some false
 else none else none
def VX (W : World) (BX : Nat) (x : S59) : Prop := W.heap[BX]? = some (.cells #[.int .i64 x.f0, .int .i64 x.f1, .int .i64 x.f2, .int .i64 x.f3] 59 (0, 0))
theorem VX.below {W W' : World} {BX : Nat} {x : S59} (h : VX W BX x) (hb : Below W.heap.size W W') : VX W' BX x := (hb.block _ (blk_lt h)).trans h
theorem VX.cells {W : World} {BX : Nat} {x : S59} (h : VX W BX x) : W.cell? ⟨BX, 0, none⟩ = some (.int .i64 x.f0) ∧ W.cell? ⟨BX, 1, none⟩ = some (.int .i64 x.f1) ∧ W.cell? ⟨BX, 2, none⟩ = some (.int .i64 x.f2) ∧ W.cell? ⟨BX, 3, none⟩ = some (.int .i64 x.f3) :=
 ⟨(blk_cell h 0).trans rfl, (blk_cell h 1).trans rfl, (blk_cell h 2).trans rfl, (blk_cell h 3).trans rfl⟩
set_option maxHeartbeats 8000000 in
set_option maxRecDepth 100000 in
theorem spec_validLine.calls (k : Nat) (A0_0 : Option Addr) (c0_0 : Nat) (l0_0 : List S98) (A1 : Option Addr) (c1 : Nat) (l1 : List S59) (a2 : Int) (r : Bool) (w : World) (hr0_0 : Kd.C k98 w A0_0 l0_0.length l0_0) (hc0_0 : l0_0.length ≤ c0_0) (hr1 : Kd.C k59 w A1 l1.length l1) (hc1 : l1.length ≤ c1) (h : spec_validLine.f k l0_0 l1 a2 = some r) :
  Calls Try.prog 63 #[.agg #[.slice A0_0 l0_0.length c0_0], .slice A1 l1.length c1, .int .i64 a2] w fun e w' => e = .returned (.bool r) ∧ Below w.heap.size w w' := by
 have hu32 := Try.underlying32
 have hu59 := Try.underlying59
 have hm : l1.length ≤ 9223372036854775807 := Kd.C_max hr1
 unfold spec_validLine.f at h
 by_cases h0 : 0 ≤ a2
 ·rw [if_pos h0] at h
  by_cases h1 : a2 < (l1.length : Int)
  ·rw [if_pos h1] at h
   obtain ⟨v, hv, h⟩ := Option.bind_eq_some_iff.mp h
   have HN := am (fun W (hb : Below w.heap.size w W) => spec_validNumbers.calls k A0_0 c0_0 l0_0 _ _ _ _ v W (Kd.C_below hr0_0 hb) hc0_0 hv)
   clear hv
   obtain ⟨ad, rfl, hx0, hx1, hx2, hx3⟩ := at_T59 hr1 a2 h0 h1
   have HR1 := am hr1
   clear hr0_0 hr1
   generalize hgx : rd_T59 l1 a2 = x at h HN hx0 hx1 hx2 hx3
   clear hgx
   have X1 := am (show VX ((w.alloc (.cells #[.slice A0_0 l0_0.length c0_0] 32)).alloc (.cells #[.int .i64 x.f0, .int .i64 x.f1, .int .i64 x.f2, .int .i64 x.f3] 59)) (w.heap.size + 1) x by have := heap_alloc_new (w.alloc (.cells #[.slice A0_0 l0_0.length c0_0] 32)) (.cells #[.int .i64 x.f0, .int .i64 x.f1, .int .i64 x.f2, .int .i64 x.f3] 59); simpa [VX] using this)
   have HB1 := am (((Below.refl w.heap.size w).alloc (Nat.le_refl _) (.cells #[.slice A0_0 l0_0.length c0_0] 32)).alloc (by simp) (.cells #[.int .i64 x.f0, .int .i64 x.f1, .int .i64 x.f2, .int .i64 x.f3] 59))
   have hbt := (Below.refl w.heap.size w).alloc (Nat.le_refl _) (.cells #[.slice A0_0 l0_0.length c0_0] 32)
   replace hx0 := pw_cell_below hbt hx0
   replace hx1 := pw_cell_below hbt hx1
   replace hx2 := pw_cell_below hbt hx2
   replace hx3 := pw_cell_below hbt hx3
   clear hbt
   have p0 := eq_true h0
   have p1 := eq_true h1
   cases v with
   | false =>
    obtain rfl : false = r := by simpa using h
    clear h
    go_enter Try.func63, Try.ntmps63
    go_wp2_with (first | (go_at_call 86; refine (HN.out _ HB1.out).mono ?_; rintro e w2 ⟨rfl, hb2⟩; have X2 := am (VX.below X1.out hb2); have HB2 := am (below_then HB1.out HB1.out.size hb2); clear hb2; obtain ⟨e0, e1, e2, e3⟩ := VX.cells X2.out))
    go_ret
    exact ⟨rfl, HB2.out⟩
   | true =>
    simp only [Bool.true_eq_false, if_false] at h
    cases h5 : spec_validLine.inB x.f0 0 5 with
    | false =>
     have H5 := am h5
     rw [h5, if_pos rfl] at h
     obtain rfl : false = r := by simpa using h
     clear h h5
     go_enter Try.func63, Try.ntmps63
     go_wp2_with (first | (go_at_call 86; refine (HN.out _ HB1.out).mono ?_; rintro e w2 ⟨rfl, hb2⟩; have X2 := am (VX.below X1.out hb2); have HB2 := am (below_then HB1.out HB1.out.size hb2); clear hb2; obtain ⟨e0, e1, e2, e3⟩ := VX.cells X2.out) | (go_at_call 60; refine (spec_inRange.calls _ _ _ _ _ (spec_inRange_eq _ _ _)).mono ?_; rintro e w3 ⟨rfl, hd3⟩; have hb3 := hd3.below; clear hd3; have X3 := am (VX.below X2.out hb3); have HB3 := am (below_then HB2.out HB2.out.size hb3); clear hb3 e0 e1 e2 e3; obtain ⟨e0, e1, e2, e3⟩ := VX.cells X3.out; rw [H5.out]))
     go_ret
     exact ⟨rfl, HB3.out⟩
    | true =>
     have H5 := am h5
     rw [h5] at h
     simp only [Bool.true_eq_false, if_false] at h
     clear h5
     have HH := am h
     clear h
     go_enter Try.func63, Try.ntmps63
     go_upto_region 4 with (first | (go_at_call 86; refine (HN.out _ HB1.out).mono ?_; rintro e w2 ⟨rfl, hb2⟩; have X2 := am (VX.below X1.out hb2); have HB2 := am (below_then HB1.out HB1.out.size hb2); clear hb2; obtain ⟨e0, e1, e2, e3⟩ := VX.cells X2.out) | (go_at_call 60; refine (spec_inRange.calls _ _ _ _ _ (spec_inRange_eq _ _ _)).mono ?_; rintro e w3 ⟨rfl, hd3⟩; have hb3 := hd3.below; clear hd3; have X3 := am (VX.below X2.out hb3); have HB3 := am (below_then HB2.out HB2.out.size hb3); clear hb3 e0 e1 e2 e3; obtain ⟨e0, e1, e2, e3⟩ := VX.cells X3.out; rw [H5.out]))
     go_cut [77] (fun v77 wc => v77 = .bool (spec_validLine.off l1 a2 x) ∧ Aside0 (VX wc (w.heap.size + 1) x) ∧ Aside0 (Below w.heap.size w wc))
     case first =>
      clear HH
      have HO := am (fun (a : Int) (b : Bool) (hb : spec_validLine.inB a 7 12 = b) W => (spec_opens.calls a b W (by rw [spec_opens_eq, hb])).mono fun e w' h => (⟨h.1, h.2.out⟩ : e = .returned (.bool b) ∧ ∃ m, w' = W.drewN m))
      have hw2 : IntKind.i64.wrap (a2 + 1) = a2 + 1 := IntWalk.i64_in _ (by omega)
      by_cases z0 : a2 = 0
      ·have b0 : (a2 == 0) = true := beq_iff_eq.2 z0
       have b0' : decide (0 < a2) = false := decide_eq_false (by omega)
       by_cases zx : x.f0 = 0
       ·have b1 : (x.f0 != 0) = false := by simpa using zx
        have HE := am (by unfold spec_validLine.off; rw [if_pos z0]; simp [zx] : spec_validLine.off l1 a2 x = (decide (a2 + 1 = (l1.length : Int)) && spec_validLine.inB x.f1 7 12))
        clear z0
        clear zx
        by_cases zl : a2 + 1 = (l1.length : Int)
        ·have b3 : (a2 + 1 == (l1.length : Int)) = true := by rw [beq_iff_eq]; omega
         cases hx : spec_validLine.inB x.f1 7 12 with
         | true =>
          have HX := am hx
          have HF := am (by rw [HE.out, hx, decide_eq_true zl]; rfl : spec_validLine.off l1 a2 x = true)
          clear zl hx HE
          go_big_quiet ((go_at_call 87; exact Calls.quiet_of (HO.out x.f1 _ HX.out _)))
          go_wp2
          go_meet
          case rel => exact ⟨by rw [HF.out], X3, ⟨pw_below_drewN HB3.out _⟩⟩
         | false =>
          have HX := am hx
          have HF := am (by rw [HE.out, hx]; simp : spec_validLine.off l1 a2 x = false)
          clear zl hx HE
          go_big_quiet ((go_at_call 87; exact Calls.quiet_of (HO.out x.f1 _ HX.out _)))
          go_wp2
          go_meet
          case rel => exact ⟨by rw [HF.out], X3, ⟨pw_below_drewN HB3.out _⟩⟩
        ·have b3 : (a2 + 1 == (l1.length : Int)) = false := by rw [beq_eq_false_iff_ne]; omega
         have HF := am (by rw [HE.out, decide_eq_false zl]; rfl : spec_validLine.off l1 a2 x = false)
         clear zl HE
         go_big_quiet (fail)
         go_wp2
         go_meet
         case rel => exact ⟨by rw [HF.out], X3, ⟨pw_below_drewN HB3.out _⟩⟩
       ·have b1 : (x.f0 != 0) = true := by simpa using zx
        have HF := am (by unfold spec_validLine.off; rw [if_pos z0]; simp [zx] : spec_validLine.off l1 a2 x = true)
        clear zx z0
        go_big_quiet (fail)
        go_wp2
        go_meet
        case rel => exact ⟨by rw [HF.out], X3, ⟨pw_below_drewN HB3.out _⟩⟩
      ·have b0 : (a2 == 0) = false := beq_eq_false_iff_ne.2 z0
       have b0' : decide (0 < a2) = true := decide_eq_true (by omega)
       have q0 : 0 ≤ a2 - 1 := by omega
       have q1 : a2 - 1 < (l1.length : Int) := by omega
       obtain ⟨j, hj⟩ : ∃ j, a2 - 1 = j := ⟨_, rfl⟩
       rw [hj] at q0 q1
       obtain ⟨ad', he, y0, y1, y2, y3⟩ := at_T59 HR1.out j q0 q1
       cases he
       replace y0 := pw_cell_below HB3.out y0
       replace y1 := pw_cell_below HB3.out y1
       clear y2 y3
       replace q0 := eq_true q0
       replace q1 := eq_true q1
       have HD := am (by unfold spec_validLine.off; rw [if_neg z0] : spec_validLine.off l1 a2 x = if (if (wrap64 ((rd_T59 l1 (a2 - 1)).f0 + 1)) < x.f0 then true else (spec_validLine.inB (rd_T59 l1 (a2 - 1)).f1 7 12 != (x.f0 == wrap64 ((rd_T59 l1 (a2 - 1)).f0 + 1)))) then true else decide (a2 + 1 = (l1.length : Int)) && spec_validLine.inB x.f1 7 12)
       clear z0
       rw [hj] at HD
       generalize rd_T59 l1 j = y at HD y0 y1
       generalize hz : wrap64 (y.f0 + 1) = z at HD
       have HZ := am hz
       by_cases zt : z < x.f0
       ·have b4 : decide (z < x.f0) = true := decide_eq_true zt
        have HF := am (by rw [HD.out]; simp [zt] : spec_validLine.off l1 a2 x = true)
        clear zt HD
        go_big_quiet (fail)
        go_wp2
        go_meet
        case rel => exact ⟨by rw [HF.out], X3, ⟨pw_below_drewN HB3.out _⟩⟩
       ·have b4 : decide (z < x.f0) = false := decide_eq_false zt
        cases hy : spec_validLine.inB y.f1 7 12 with
        | true =>
         have HY := am hy
         by_cases ze : x.f0 = z
         ·have b5 : (x.f0 == z) = true := beq_iff_eq.2 ze
          have HE := am (by rw [HD.out, hy, b5]; simp [zt] : spec_validLine.off l1 a2 x = (decide (a2 + 1 = (l1.length : Int)) && spec_validLine.inB x.f1 7 12))
          clear zt HD hy ze
          by_cases zl : a2 + 1 = (l1.length : Int)
          ·have b3 : (a2 + 1 == (l1.length : Int)) = true := by rw [beq_iff_eq]; omega
           cases hx : spec_validLine.inB x.f1 7 12 with
           | true =>
            have HX := am hx
            have HF := am (by rw [HE.out, hx, decide_eq_true zl]; rfl : spec_validLine.off l1 a2 x = true)
            clear zl hx HE
            go_big_quiet (first | (go_at_call 87; exact Calls.quiet_of (HO.out y.f1 _ HY.out _)) | (go_at_call 87; exact Calls.quiet_of (HO.out x.f1 _ HX.out _)))
            go_wp2
            go_meet
            case rel => exact ⟨by rw [HF.out], X3, ⟨pw_below_drewN HB3.out _⟩⟩
           | false =>
            have HX := am hx
            have HF := am (by rw [HE.out, hx]; simp : spec_validLine.off l1 a2 x = false)
            clear zl hx HE
            go_big_quiet (first | (go_at_call 87; exact Calls.quiet_of (HO.out y.f1 _ HY.out _)) | (go_at_call 87; exact Calls.quiet_of (HO.out x.f1 _ HX.out _)))
            go_wp2
            go_meet
            case rel => exact ⟨by rw [HF.out], X3, ⟨pw_below_drewN HB3.out _⟩⟩
          ·have b3 : (a2 + 1 == (l1.length : Int)) = false := by rw [beq_eq_false_iff_ne]; omega
           have HF := am (by rw [HE.out, decide_eq_false zl]; rfl : spec_validLine.off l1 a2 x = false)
           clear zl HE
           go_big_quiet ((go_at_call 87; exact Calls.quiet_of (HO.out y.f1 _ HY.out _)))
           go_wp2
           go_meet
           case rel => exact ⟨by rw [HF.out], X3, ⟨pw_below_drewN HB3.out _⟩⟩
         ·have b5 : (x.f0 == z) = false := beq_eq_false_iff_ne.2 ze
          have HF := am (by rw [HD.out, hy, b5]; simp : spec_validLine.off l1 a2 x = true)
          clear zt HD hy ze
          go_big_quiet ((go_at_call 87; exact Calls.quiet_of (HO.out y.f1 _ HY.out _)))
          go_wp2
          go_meet
          case rel => exact ⟨by rw [HF.out], X3, ⟨pw_below_drewN HB3.out _⟩⟩
        | false =>
         have HY := am hy
         by_cases ze : x.f0 = z
         ·have b5 : (x.f0 == z) = true := beq_iff_eq.2 ze
          have HF := am (by rw [HD.out, hy, b5]; simp : spec_validLine.off l1 a2 x = true)
          clear zt HD hy ze
          go_big_quiet ((go_at_call 87; exact Calls.quiet_of (HO.out y.f1 _ HY.out _)))
          go_wp2
          go_meet
          case rel => exact ⟨by rw [HF.out], X3, ⟨pw_below_drewN HB3.out _⟩⟩
         ·have b5 : (x.f0 == z) = false := beq_eq_false_iff_ne.2 ze
          have HE := am (by rw [HD.out, hy, b5]; simp [zt] : spec_validLine.off l1 a2 x = (decide (a2 + 1 = (l1.length : Int)) && spec_validLine.inB x.f1 7 12))
          clear zt HD hy ze
          by_cases zl : a2 + 1 = (l1.length : Int)
          ·have b3 : (a2 + 1 == (l1.length : Int)) = true := by rw [beq_iff_eq]; omega
           cases hx : spec_validLine.inB x.f1 7 12 with
           | true =>
            have HX := am hx
            have HF := am (by rw [HE.out, hx, decide_eq_true zl]; rfl : spec_validLine.off l1 a2 x = true)
            clear zl hx HE
            go_big_quiet (first | (go_at_call 87; exact Calls.quiet_of (HO.out y.f1 _ HY.out _)) | (go_at_call 87; exact Calls.quiet_of (HO.out x.f1 _ HX.out _)))
            go_wp2
            go_meet
            case rel => exact ⟨by rw [HF.out], X3, ⟨pw_below_drewN HB3.out _⟩⟩
           | false =>
            have HX := am hx
            have HF := am (by rw [HE.out, hx]; simp : spec_validLine.off l1 a2 x = false)
            clear zl hx HE
            go_big_quiet (first | (go_at_call 87; exact Calls.quiet_of (HO.out y.f1 _ HY.out _)) | (go_at_call 87; exact Calls.quiet_of (HO.out x.f1 _ HX.out _)))
            go_wp2
            go_meet
            case rel => exact ⟨by rw [HF.out], X3, ⟨pw_below_drewN HB3.out _⟩⟩
          ·have b3 : (a2 + 1 == (l1.length : Int)) = false := by rw [beq_eq_false_iff_ne]; omega
           have HF := am (by rw [HE.out, decide_eq_false zl]; rfl : spec_validLine.off l1 a2 x = false)
           clear zl HE
           go_big_quiet ((go_at_call 87; exact Calls.quiet_of (HO.out y.f1 _ HY.out _)))
           go_wp2
           go_meet
           case rel => exact ⟨by rw [HF.out], X3, ⟨pw_below_drewN HB3.out _⟩⟩
     case rest =>
      obtain ⟨rfl, X4, HB4⟩ := hcut
      clear X1 HB1
      have h := HH.out
      clear HH
      obtain ⟨e0, e1, e2, e3⟩ := VX.cells X4.out
      have tok : True := trivial
      have HO := am (fun (a : Int) (b : Bool) (hb : spec_validLine.inB a 8 10 = b) W => spec_follows.calls a b W (by rw [spec_follows_eq, hb]))
      cases ho : spec_validLine.off l1 a2 x with
      | true =>
       rw [ho, if_pos rfl] at h
       obtain rfl : false = r := by simpa using h
       clear h ho
       go_wp2
       go_ret
       exact ⟨rfl, HB4.out⟩
      | false =>
       rw [ho] at h
       simp only [Bool.false_eq_true, if_false] at h
       clear ho
       obtain ⟨c, hc, h⟩ := Option.bind_eq_some_iff.mp h
       by_cases z7 : x.f1 = 7
       ·rw [if_pos z7] at hc
        have HC := am (fun W (hb : Below w.heap.size w W) => spec_validChain.calls k _ c1 l1 a2 c W (Kd.C_below HR1.out hb) hc1 hc)
        have b7 : (x.f1 == 7) = true := beq_iff_eq.2 z7
        have b5 : (x.f1 == 5) = false := beq_eq_false_iff_ne.2 (by omega)
        have b6 : (x.f1 == 6) = false := beq_eq_false_iff_ne.2 (by omega)
        cases c with
        | false =>
         obtain rfl : false = r := by simpa using h
         clear h hc z7
         go_wp2_with (first | (go_at_call 88; refine (HC.out _ HB4.out).mono ?_; rintro e w5 ⟨rfl, hb5⟩; have X5 := am (VX.below X4.out hb5); have HB5 := am (below_then HB4.out HB4.out.size hb5); clear hb5 e0 e1 e2 e3; obtain ⟨e0, e1, e2, e3⟩ := VX.cells X5.out))
         go_ret
         exact ⟨rfl, HB5.out⟩
        | true =>
         have hx : spec_validLine.inB x.f1 8 10 = false := by unfold spec_validLine.inB; rw [z7]; rfl
         have HX := am hx
         obtain rfl : true = r := by simpa [z7, show spec_validLine.inB 7 8 10 = false from rfl] using h
         clear h hc z7 hx
         go_wp2_with (first | (go_at_call 88; refine (HC.out _ HB4.out).mono ?_; rintro e w5 ⟨rfl, hb5⟩; have X5 := am (VX.below X4.out hb5); have HB5 := am (below_then HB4.out HB4.out.size hb5); clear hb5 e0 e1 e2 e3; obtain ⟨e0, e1, e2, e3⟩ := VX.cells X5.out) | (go_at_call 90; have tk := tok; clear tok; refine (HO.out x.f1 _ HX.out _).mono ?_; rintro e w6 ⟨rfl, hd6⟩; have hb6 := hd6.below; clear hd6; have X6 := am (VX.below X5.out hb6); have HB6 := am (below_then HB5.out HB5.out.size hb6); clear hb6 e0 e1 e2 e3; obtain ⟨e0, e1, e2, e3⟩ := VX.cells X6.out))
         go_ret
         exact ⟨rfl, HB6.out⟩
       ·rw [if_neg z7] at hc
        obtain rfl : true = c := by simpa using hc
        clear hc
        have b7 : (x.f1 == 7) = false := beq_eq_false_iff_ne.2 z7
        simp only [Bool.true_eq_false, if_false] at h
        obtain ⟨c, hc, h⟩ := Option.bind_eq_some_iff.mp h
        by_cases z56 : x.f1 = 5 ∨ x.f1 = 6
        ·rw [if_pos z56] at hc
         have HC := am (fun W (hb : Below w.heap.size w W) => spec_inLoop.calls k _ c1 l1 a2 c W (Kd.C_below HR1.out hb) hc1 hc)
         have hx : spec_validLine.inB x.f1 8 10 = false := by rcases z56 with z | z <;> (unfold spec_validLine.inB; rw [z]; rfl)
         have HX := am hx
         cases c with
         | false =>
          obtain rfl : false = r := by simpa using h
          clear h hc hx
          rcases z56 with z | z
          ·have b5 : (x.f1 == 5) = true := beq_iff_eq.2 z
           clear z z7
           go_wp2_with (first | (go_at_call 89; refine (HC.out _ HB4.out).mono ?_; rintro e w5 ⟨rfl, hd5⟩; have hb5 := hd5.below; clear hd5; have X5 := am (VX.below X4.out hb5); have HB5 := am (below_then HB4.out HB4.out.size hb5); clear hb5 e0 e1 e2 e3; obtain ⟨e0, e1, e2, e3⟩ := VX.cells X5.out))
           go_ret
           exact ⟨rfl, HB5.out⟩
          ·have b5 : (x.f1 == 5) = false := beq_eq_false_iff_ne.2 (by omega)
           have b6 : (x.f1 == 6) = true := beq_iff_eq.2 z
           clear z z7
           go_wp2_with (first | (go_at_call 89; refine (HC.out _ HB4.out).mono ?_; rintro e w5 ⟨rfl, hd5⟩; have hb5 := hd5.below; clear hd5; have X5 := am (VX.below X4.out hb5); have HB5 := am (below_then HB4.out HB4.out.size hb5); clear hb5 e0 e1 e2 e3; obtain ⟨e0, e1, e2, e3⟩ := VX.cells X5.out))
           go_ret
           exact ⟨rfl, HB5.out⟩
         | true =>
          obtain rfl : true = r := by simpa [hx] using h
          clear h hc hx
          rcases z56 with z | z
          ·have b5 : (x.f1 == 5) = true := beq_iff_eq.2 z
           clear z z7
           go_wp2_with (first | (go_at_call 89; refine (HC.out _ HB4.out).mono ?_; rintro e w5 ⟨rfl, hd5⟩; have hb5 := hd5.below; clear hd5; have X5 := am (VX.below X4.out hb5); have HB5 := am (below_then HB4.out HB4.out.size hb5); clear hb5 e0 e1 e2 e3; obtain ⟨e0, e1, e2, e3⟩ := VX.cells X5.out) | (go_at_call 90; have tk := tok; clear tok; refine (HO.out x.f1 _ HX.out _).mono ?_; rintro e w6 ⟨rfl, hd6⟩; have hb6 := hd6.below; clear hd6; have X6 := am (VX.below X5.out hb6); have HB6 := am (below_then HB5.out HB5.out.size hb6); clear hb6 e0 e1 e2 e3; obtain ⟨e0, e1, e2, e3⟩ := VX.cells X6.out))
           go_ret
           exact ⟨rfl, HB6.out⟩
          ·have b5 : (x.f1 == 5) = false := beq_eq_false_iff_ne.2 (by omega)
           have b6 : (x.f1 == 6) = true := beq_iff_eq.2 z
           clear z z7
           go_wp2_with (first | (go_at_call 89; refine (HC.out _ HB4.out).mono ?_; rintro e w5 ⟨rfl, hd5⟩; have hb5 := hd5.below; clear hd5; have X5 := am (VX.below X4.out hb5); have HB5 := am (below_then HB4.out HB4.out.size hb5); clear hb5 e0 e1 e2 e3; obtain ⟨e0, e1, e2, e3⟩ := VX.cells X5.out) | (go_at_call 90; have tk := tok; clear tok; refine (HO.out x.f1 _ HX.out _).mono ?_; rintro e w6 ⟨rfl, hd6⟩; have hb6 := hd6.below; clear hd6; have X6 := am (VX.below X5.out hb6); have HB6 := am (below_then HB5.out HB5.out.size hb6); clear hb6 e0 e1 e2 e3; obtain ⟨e0, e1, e2, e3⟩ := VX.cells X6.out))
           go_ret
           exact ⟨rfl, HB6.out⟩
        ·rw [if_neg z56] at hc
         obtain rfl : true = c := by simpa using hc
         clear hc
         have b5 : (x.f1 == 5) = false := beq_eq_false_iff_ne.2 (fun z => z56 (.inl z))
         have b6 : (x.f1 == 6) = false := beq_eq_false_iff_ne.2 (fun z => z56 (.inr z))
         simp only [Bool.true_eq_false, if_false] at h
         clear z7 z56
         cases hx : spec_validLine.inB x.f1 8 10 with
         | false =>
          have HX := am hx
          rw [hx, if_pos rfl] at h
          obtain rfl : true = r := by simpa using h
          clear h hx
          go_wp2_with (first | (go_at_call 90; have tk := tok; clear tok; refine (HO.out x.f1 _ HX.out _).mono ?_; rintro e w6 ⟨rfl, hd6⟩; have hb6 := hd6.below; clear hd6; have X6 := am (VX.below X4.out hb6); have HB6 := am (below_then HB4.out HB4.out.size hb6); clear hb6 e0 e1 e2 e3; obtain ⟨e0, e1, e2, e3⟩ := VX.cells X6.out))
          go_ret
          exact ⟨rfl, HB6.out⟩
         | true =>
          have HX := am hx
          rw [hx] at h
          simp only [Bool.true_eq_false, if_false] at h
          clear hx
          obtain ⟨q, hq, h⟩ := Option.bind_eq_some_iff.mp h
          have HQ := am (fun W (hb : Below w.heap.size w W) => spec_headOf.calls k _ c1 l1 a2 q W (Kd.C_below HR1.out hb) hc1 hq)
          clear hq
          by_cases q0 : 0 ≤ q
          ·rw [if_pos q0] at h
           have q0b := decide_eq_true q0
           by_cases q1 : q < (l1.length : Int)
           ·rw [if_pos q1] at h
            obtain ⟨ad', he, y0, y1, y2, y3⟩ := at_T59 HR1.out q q0 q1
            cases he
            generalize rd_T59 l1 q = y at h y0 y1
            have HK := am y1
            clear y0 y1 y2 y3
            have q0 := eq_true q0
            have q1 := eq_true q1
            by_cases zy : y.f1 = 7
            ·have by7 : (y.f1 == 7) = true := beq_iff_eq.2 zy
             obtain rfl : true = r := by simpa [zy] using h
             clear h zy
             go_wp2_with (first | (go_at_call 90; have tk := tok; clear tok; refine (HO.out x.f1 _ HX.out _).mono ?_; rintro e w6 ⟨rfl, hd6⟩; have hb6 := hd6.below; clear hd6; have X6 := am (VX.below X4.out hb6); have HB6 := am (below_then HB4.out HB4.out.size hb6); clear hb6 e0 e1 e2 e3; obtain ⟨e0, e1, e2, e3⟩ := VX.cells X6.out) | (go_at_call 91; refine (HQ.out _ HB6.out).mono ?_; rintro e w7 ⟨rfl, hd7⟩; have hb7 := hd7.below; clear hd7; have X7 := am (VX.below X6.out hb7); have HB7 := am (below_then HB6.out HB6.out.size hb7); clear hb7 e0 e1 e2 e3; obtain ⟨e0, e1, e2, e3⟩ := VX.cells X7.out; have y1 := pw_cell_below HB7.out HK.out))
             go_ret
             exact ⟨rfl, HB7.out⟩
            ·have by7 : (y.f1 == 7) = false := beq_eq_false_iff_ne.2 zy
             cases hy : spec_validLine.inB y.f1 8 10 with
             | true =>
              have HY := am hy
              obtain rfl : true = r := by rw [hy, by7] at h; simpa using h
              clear h hy zy
              go_wp2_with (first | (go_at_call 90; have tk := tok; clear tok; refine (HO.out x.f1 _ HX.out _).mono ?_; rintro e w6 ⟨rfl, hd6⟩; have hb6 := hd6.below; clear hd6; have X6 := am (VX.below X4.out hb6); have HB6 := am (below_then HB4.out HB4.out.size hb6); clear hb6 e0 e1 e2 e3; obtain ⟨e0, e1, e2, e3⟩ := VX.cells X6.out) | (go_at_call 91; refine (HQ.out _ HB6.out).mono ?_; rintro e w7 ⟨rfl, hd7⟩; have hb7 := hd7.below; clear hd7; have X7 := am (VX.below X6.out hb7); have HB7 := am (below_then HB6.out HB6.out.size hb7); clear hb7 e0 e1 e2 e3; obtain ⟨e0, e1, e2, e3⟩ := VX.cells X7.out; have y1 := pw_cell_below HB7.out HK.out) | (go_at_call 90; refine (HO.out y.f1 _ HY.out _).mono ?_; rintro e w8 ⟨rfl, hd8⟩; have hb8 := hd8.below; clear hd8; have X8 := am (VX.below X7.out hb8); have HB8 := am (below_then HB7.out HB7.out.size hb8); clear hb8 e0 e1 e2 e3; obtain ⟨e0, e1, e2, e3⟩ := VX.cells X8.out))
              go_ret
              exact ⟨rfl, HB8.out⟩
             | false =>
              have HY := am hy
              obtain rfl : false = r := by rw [hy, by7] at h; simpa using h
              clear h hy zy
              go_wp2_with (first | (go_at_call 90; have tk := tok; clear tok; refine (HO.out x.f1 _ HX.out _).mono ?_; rintro e w6 ⟨rfl, hd6⟩; have hb6 := hd6.below; clear hd6; have X6 := am (VX.below X4.out hb6); have HB6 := am (below_then HB4.out HB4.out.size hb6); clear hb6 e0 e1 e2 e3; obtain ⟨e0, e1, e2, e3⟩ := VX.cells X6.out) | (go_at_call 91; refine (HQ.out _ HB6.out).mono ?_; rintro e w7 ⟨rfl, hd7⟩; have hb7 := hd7.below; clear hd7; have X7 := am (VX.below X6.out hb7); have HB7 := am (below_then HB6.out HB6.out.size hb7); clear hb7 e0 e1 e2 e3; obtain ⟨e0, e1, e2, e3⟩ := VX.cells X7.out; have y1 := pw_cell_below HB7.out HK.out) | (go_at_call 90; refine (HO.out y.f1 _ HY.out _).mono ?_; rintro e w8 ⟨rfl, hd8⟩; have hb8 := hd8.below; clear hd8; have X8 := am (VX.below X7.out hb8); have HB8 := am (below_then HB7.out HB7.out.size hb8); clear hb8 e0 e1 e2 e3; obtain ⟨e0, e1, e2, e3⟩ := VX.cells X8.out))
              go_ret
              exact ⟨rfl, HB8.out⟩
           ·rw [if_neg q1] at h
            cases h
          ·rw [if_neg q0] at h
           have q0b := decide_eq_false q0
           obtain rfl : false = r := by simpa using h
           clear h q0
           go_wp2_with (first | (go_at_call 90; have tk := tok; clear tok; refine (HO.out x.f1 _ HX.out _).mono ?_; rintro e w6 ⟨rfl, hd6⟩; have hb6 := hd6.below; clear hd6; have X6 := am (VX.below X4.out hb6); have HB6 := am (below_then HB4.out HB4.out.size hb6); clear hb6 e0 e1 e2 e3; obtain ⟨e0, e1, e2, e3⟩ := VX.cells X6.out) | (go_at_call 91; refine (HQ.out _ HB6.out).mono ?_; rintro e w7 ⟨rfl, hd7⟩; have hb7 := hd7.below; clear hd7; have X7 := am (VX.below X6.out hb7); have HB7 := am (below_then HB6.out HB6.out.size hb7); clear hb7 e0 e1 e2 e3; obtain ⟨e0, e1, e2, e3⟩ := VX.cells X7.out))
           go_ret
           exact ⟨rfl, HB7.out⟩
  ·rw [if_neg h1] at h
   cases h
 ·rw [if_neg h0] at h
  cases h
def spec_validName.l0 : Nat → ByteArray → Int → Option (Bool)
 | 0, _, _ => none
 | k + 1, x0, x3 => if x3 < (x0.size : Int) then (if 0 ≤ x3 then (if (bt x0 x3) < 97 then (some false) else (if (bt x0 x3) > 122 then (some false) else (spec_validName.l0 k x0 (wrap64 (x3 + 1))))) else (none)) else ((spec_inRange.f (x0.size : Int) 1 6).bind fun t152 => (some t152))
def spec_validName.f (k : Nat) (a0 : ByteArray) : Option (Bool) := spec_validName.l0 k a0 0
set_option maxHeartbeats 8000000 in
set_option maxRecDepth 100000 in
theorem spec_validName.calls (k : Nat) (a0 : ByteArray) (r : Bool) (w : World) (h : spec_validName.f k a0 = some r) :
  Calls Try.prog 92 #[.string a0] w fun e w' => e = .returned (.bool r) ∧ Drawn0 w w' := by
 have H : (spec_validName.l0 k a0 0) = some r := h
 clear h
 have H' := am H
 clear H
 go_enter Try.func92, Try.ntmps92
 go_wp2
 go_loopg [3] k (fun kq v3 w' => ∃ (x3_1 : Int), v3 = .int .i64 x3_1 ∧ Aside0 (spec_validName.l0 kq a0 x3_1 = some r) ∧ Aside0 (kq ≤ k) ∧ Drawn0 w w')
 case atStart => exact ⟨(0), (sq), H', ⟨Nat.le_refl _⟩, Y2⟩
 case round =>
  clear H'
  obtain ⟨x3_1, rfl, HA, HK1, ⟨m1, rfl⟩⟩ := hrel
  cases gk with
  | zero => exact absurd HA.out (by simp [spec_validName.l0])
  | succ k1 =>
   have H := HA.out
   clear HA
   simp only [spec_validName.l0] at H
   by_cases c2 : x3_1 < (a0.size : Int)
   ·rw [if_pos c2] at H
    have c2b0 : decide (x3_1 < (a0.size : Int)) = true := decide_eq_true c2
    clear c2
    by_cases c3 : 0 ≤ x3_1
    ·rw [if_pos c3] at H
     have c3b0 : decide (0 ≤ x3_1) = true := decide_eq_true c3
     clear c3
     by_cases c5 : (bt a0 x3_1) < 97
     ·rw [if_pos c5] at H
      have c5b0 : decide ((bt a0 x3_1) < 97) = true := decide_eq_true c5
      clear c5
      obtain rfl := Option.some.inj H
      have p4 : 0 ≤ (x3_1 : Int) := of_decide_eq_true (uq)
      have q4 : x3_1 < (a0.size : Int) := of_decide_eq_true (uq)
      have hx4 := bt_at a0 x3_1
      replace p4 := eq_true p4
      replace q4 := eq_true q4
      go_wp2
      go_ret
      exact ⟨sq, Y2⟩
     ·rw [if_neg c5] at H
      have c5b0 : decide ((bt a0 x3_1) < 97) = false := decide_eq_false c5
      clear c5
      by_cases c7 : (bt a0 x3_1) > 122
      ·rw [if_pos c7] at H
       have c7b0 : decide (122 < (bt a0 x3_1)) = true := decide_eq_true c7
       clear c7
       obtain rfl := Option.some.inj H
       have p4 : 0 ≤ (x3_1 : Int) := of_decide_eq_true (uq)
       have q4 : x3_1 < (a0.size : Int) := of_decide_eq_true (uq)
       have hx4 := bt_at a0 x3_1
       replace p4 := eq_true p4
       replace q4 := eq_true q4
       have p6 : 0 ≤ (x3_1 : Int) := of_decide_eq_true (uq)
       have q6 : x3_1 < (a0.size : Int) := of_decide_eq_true (uq)
       have hx6 := bt_at a0 x3_1
       replace p6 := eq_true p6
       replace q6 := eq_true q6
       go_wp2
       go_ret
       exact ⟨sq, Y2⟩
      ·rw [if_neg c7] at H
       have c7b0 : decide (122 < (bt a0 x3_1)) = false := decide_eq_false c7
       clear c7
       have H' := am H
       clear H
       have p4 : 0 ≤ (x3_1 : Int) := of_decide_eq_true (uq)
       have q4 : x3_1 < (a0.size : Int) := of_decide_eq_true (uq)
       have hx4 := bt_at a0 x3_1
       replace p4 := eq_true p4
       replace q4 := eq_true q4
       have p6 : 0 ≤ (x3_1 : Int) := of_decide_eq_true (uq)
       have q6 : x3_1 < (a0.size : Int) := of_decide_eq_true (uq)
       have hx6 := bt_at a0 x3_1
       replace p6 := eq_true p6
       replace q6 := eq_true q6
       go_wp2
       go_roundg k1
       case measure => have := HK1.out; omega
       case rel => exact ⟨(wrap64 (x3_1 + 1)), (sq), H', ⟨by have := HK1.out; omega⟩, Y2⟩
    ·rw [if_neg c3] at H
     exact absurd H (by simp)
   ·rw [if_neg c2] at H
    have c2b0 : decide (x3_1 < (a0.size : Int)) = false := decide_eq_false c2
    clear c2
    replace H := Option.bind_eq_some_iff.mp H
    obtain ⟨t152, A80, H⟩ := H
    replace H : (some t152) = some r := H
    have A8 := am A80
    clear A80
    obtain rfl := Option.some.inj H
    go_wp2_with (first | ((with_reducible refine gate_callee (f := 60) rfl ?_); refine gL (some 22) Try.func60 #[.int .i64 (a0.size : Int), .int .i64 1, .int .i64 6] ?_; (with_reducible refine (spec_inRange.calls (a0.size : Int) 1 6 t152 _ A8.out).mono ?_); rintro e w' ⟨rfl, ⟨nd, rfl⟩⟩; refine ⟨_, rfl, ?_⟩))
    go_ret
    exact ⟨sq, Y2⟩
def spec_classNamed.l0 : Nat → List (S98) → ByteArray → Int → Option (Int)
 | 0, _, _, _ => none
 | k + 1, x0, x1, x5 => if x5 < (x0.length : Int) then (if 0 ≤ x5 then (if ((rd_T98 x0 x5).f0).toList = x1.toList then (some x5) else (spec_classNamed.l0 k x0 x1 (wrap64 (x5 + 1)))) else (none)) else (some (-1))
def spec_classNamed.f (k : Nat) (l0 : List (S98)) (a1 : ByteArray) : Option (Int) := spec_classNamed.l0 k l0 a1 0
set_option maxHeartbeats 8000000 in
set_option maxRecDepth 100000 in
theorem spec_classNamed.calls (k : Nat) (A0 : Option Addr) (c0 : Nat) (l0 : List (S98)) (a1 : ByteArray) (r : Int) (w : World) (hr0 : Kd.C k98 w A0 l0.length l0) (hc0 : l0.length ≤ c0) (h : spec_classNamed.f k l0 a1 = some r) :
  Calls Try.prog 93 #[.slice A0 l0.length c0, .string a1] w fun e w' => e = .returned (.int .i64 r) ∧ Drawn0 w w' := by
 have HR0 := am hr0
 have HC0 := am hc0
 clear hr0 hc0
 have H : (spec_classNamed.l0 k l0 a1 0) = some r := h
 clear h
 have H' := am H
 clear H
 go_enter Try.func93, Try.ntmps93
 go_wp2
 go_loopg [5] k (fun kq v5 w' => ∃ (x5_1 : Int), v5 = .int .i64 x5_1 ∧ Aside0 (spec_classNamed.l0 kq l0 a1 x5_1 = some r) ∧ Aside0 (kq ≤ k) ∧ Drawn0 w w')
 case atStart => exact ⟨(0), (sq), H', ⟨Nat.le_refl _⟩, Y2⟩
 case round =>
  clear H'
  try clear p2
  obtain ⟨x5_1, rfl, HA, HK1, ⟨m1, rfl⟩⟩ := hrel
  cases gk with
  | zero => exact absurd HA.out (by simp [spec_classNamed.l0])
  | succ k1 =>
   have H := HA.out
   clear HA
   simp only [spec_classNamed.l0] at H
   by_cases c3 : x5_1 < (l0.length : Int)
   ·rw [if_pos c3] at H
    have c3b0 : decide (x5_1 < (l0.length : Int)) = true := decide_eq_true c3
    clear c3
    by_cases c4 : 0 ≤ x5_1
    ·rw [if_pos c4] at H
     have c4b0 : decide (0 ≤ x5_1) = true := decide_eq_true c4
     clear c4
     by_cases c5 : ((rd_T98 l0 x5_1).f0).toList = a1.toList
     ·rw [if_pos c5] at H
      have c5b0 : (((rd_T98 l0 x5_1).f0).toList == a1.toList) = true := beq_iff_eq.mpr c5
      have c5b1 : (((rd_T98 l0 x5_1).f0).toList != a1.toList) = false := bne_eq_false_iff_eq.mpr c5
      clear c5
      obtain rfl := Option.some.inj H
      have p153 : 0 ≤ (x5_1 : Int) := of_decide_eq_true (uq)
      have q153 : x5_1 < (l0.length : Int) := of_decide_eq_true (uq)
      obtain ⟨ad153, e153, hx153_0, hx153_1⟩ := at_T98 HR0.out x5_1 p153 q153
      cases e153
      replace p153 := eq_true p153
      replace q153 := eq_true q153
      go_wp2
      go_ret
      exact ⟨sq, Y2⟩
     ·rw [if_neg c5] at H
      have c5b0 : (((rd_T98 l0 x5_1).f0).toList == a1.toList) = false := beq_eq_false_iff_ne.mpr c5
      have c5b1 : (((rd_T98 l0 x5_1).f0).toList != a1.toList) = true := bne_iff_ne.mpr c5
      have H' := am H
      clear H
      have p153 : 0 ≤ (x5_1 : Int) := of_decide_eq_true (uq)
      have q153 : x5_1 < (l0.length : Int) := of_decide_eq_true (uq)
      obtain ⟨ad153, e153, hx153_0, hx153_1⟩ := at_T98 HR0.out x5_1 p153 q153
      cases e153
      replace p153 := eq_true p153
      replace q153 := eq_true q153
      go_wp2
      go_roundg k1
      case measure => have := HK1.out; omega
      case rel => exact ⟨(wrap64 (x5_1 + 1)), (sq), H', ⟨by have := HK1.out; omega⟩, Y2⟩
    ·rw [if_neg c4] at H
     exact absurd H (by simp)
   ·rw [if_neg c3] at H
    have c3b0 : decide (x5_1 < (l0.length : Int)) = false := decide_eq_false c3
    clear c3
    obtain rfl := Option.some.inj H
    go_wp2
    go_ret
    exact ⟨sq, Y2⟩
mutual
def spec_validTree.l0 : Nat → Int → List (S98) → Option (Bool)
 | 0, _, _ => none
 | k + 1, x3, x155000 => if x3 < (x155000.length : Int) then (if 0 ≤ x3 then ((spec_validName.f k ((rd_T98 x155000 x3).f0)).bind fun t158 => (if t158 = true then (if x3 ≤ (x155000.length : Int) then ((spec_classNamed.f k (x155000.take (x3 : Int).toNat) ((rd_T98 x155000 x3).f0)).bind fun t163 => (if t163 ≥ 0 then (spec_validTree.j1 k x3 true x155000) else (if x3 = 0 then (if ((rd_T98 x155000 x3).f1) = (-1) then (if x3 > 0 then ((spec_inRange.f ((rd_T98 x155000 x3).f1) 0 (wrap64 (x3 - 1))).bind fun t164 => (spec_validTree.j1 k x3 (!t164) x155000)) else (spec_validTree.j1 k x3 false x155000)) else (spec_validTree.j1 k x3 true x155000)) else (if x3 > 0 then ((spec_inRange.f ((rd_T98 x155000 x3).f1) 0 (wrap64 (x3 - 1))).bind fun t165 => (spec_validTree.j1 k x3 (!t165) x155000)) else (spec_validTree.j1 k x3 false x155000))))) else (none)) else (spec_validTree.j1 k x3 true x155000))) else (none)) else ((spec_inRange.f (x155000.length : Int) 1 8).bind fun t155 => (some t155))
def spec_validTree.j1 : Nat → Int → Bool → List (S98) → Option (Bool)
 | 0, _, _, _ => none
 | k + 1, x3, x51, x155000 => if x51 = true then (some false) else (spec_validTree.l0 k (wrap64 (x3 + 1)) x155000)
end
def spec_validTree.f (k : Nat) (l0_0 : List (S98)) : Option (Bool) := spec_validTree.l0 k 0 l0_0
set_option maxHeartbeats 8000000 in
set_option maxRecDepth 100000 in
theorem spec_validTree.calls (k : Nat) (A0_0 : Option Addr) (c0_0 : Nat) (l0_0 : List (S98)) (r : Bool) (w : World) (hr0_0 : Kd.C k98 w A0_0 l0_0.length l0_0) (hc0_0 : l0_0.length ≤ c0_0) (h : spec_validTree.f k l0_0 = some r) :
  Calls Try.prog 64 #[.agg #[.slice A0_0 l0_0.length c0_0]] w fun e w' => e = .returned (.bool r) ∧ Below w.heap.size w w' := by
 have hu32 := Try.underlying32
 have hu98 := Try.underlying98
 have HR0_0 := am hr0_0
 have HC0_0 := am hc0_0
 clear hr0_0 hc0_0
 have HB := am (Below.refl w.heap.size w)
 have H : (spec_validTree.l0 k 0 l0_0) = some r := h
 clear h
 have H' := am H
 clear H
 go_enter Try.func64, Try.ntmps64
 go_wp2_with (first | ((with_reducible refine gate_dst (N := 1) rfl ?_); refine bE (N := 1) (cs := #[.slice A0_0 l0_0.length c0_0]) (t := 32) ?_; intro gb154 hg w2 hbox hb; have BK154 := am (hbox); have GW154 := am ((Y1 : w.heap.size ≤ gb154)); have GE154 := am ((Y1 : w.heap.size ≤ gb154)); replace HB := am (below_step (bq) hb); clear hb hbox hg))
 go_loopg [3] k (fun kq v3 w' => ∃ (x3_1 : Int), v3 = .int .i64 x3_1 ∧ Aside0 (spec_validTree.l0 kq x3_1 l0_0 = some r) ∧ Aside0 (kq ≤ k) ∧ Aside0 (w'.heap[gb154]? = some (.cells #[(.slice A0_0 l0_0.length c0_0)] 32 (0, 0))) ∧ Aside0 (Below w.heap.size w w'))
 case atStart => exact ⟨(0), (sq), H', ⟨Nat.le_refl _⟩, ⟨kq BK154.out⟩, ⟨Y10⟩⟩
 case round =>
  clear H'
  try clear c1
  try clear p2
  obtain ⟨x3_1, rfl, HA, HK1, BK154, HB⟩ := hrel
  cases gk with
  | zero => exact absurd HA.out (by simp [spec_validTree.l0])
  | succ k1 =>
   have H := HA.out
   clear HA
   simp only [spec_validTree.l0] at H
   by_cases c3 : x3_1 < (l0_0.length : Int)
   ·rw [if_pos c3] at H
    have c3b0 : decide (x3_1 < (l0_0.length : Int)) = true := decide_eq_true c3
    clear c3
    by_cases c4 : 0 ≤ x3_1
    ·rw [if_pos c4] at H
     have c4b0 : decide (0 ≤ x3_1) = true := decide_eq_true c4
     clear c4
     have HC5 := am H
     clear H
     have hcz6_0 := bc0 BK154.out
     have hfz6_0 := blk_frozen BK154.out 0
     have p156 : 0 ≤ (x3_1 : Int) := of_decide_eq_true (uq)
     have q156 : x3_1 < (l0_0.length : Int) := of_decide_eq_true (uq)
     obtain ⟨ad156, e156, hx156_0, hx156_1⟩ := at_T98 HR0_0.out x3_1 p156 q156
     cases e156
     replace hx156_0 := cb HB.out hx156_0
     replace hx156_1 := cb HB.out hx156_1
     replace p156 := eq_true p156
     replace q156 := eq_true q156
     go_upto_region 5 with (first | ((with_reducible refine gate_dst (N := 4) rfl ?_); refine bE (N := 4) (cs := #[.string (⟨#[]⟩ : ByteArray), .int .i64 0]) (t := 98) ?_; intro gb157 hg w7 hbox hb; have BK157 := am (hbox); have GW157 := am ((Y39 : w.heap.size ≤ gb157)); have GE157 := am ((Y39 : w.heap.size ≤ gb157)); have NB154_157 := am ((by rw [hg]; exact Nat.ne_of_lt (blk_lt (g := gb154) (o := .cells #[.slice (some ad156) l0_0.length c0_0] 32 (0, 0)) (kq BK154.out)) : gb154 ≠ gb157)); have NB157_154 := am ((by rw [hg]; exact Nat.ne_of_gt (blk_lt (g := gb154) (o := .cells #[.slice (some ad156) l0_0.length c0_0] 32 (0, 0)) (kq BK154.out)) : gb157 ≠ gb154)); replace BK154 := am (blk_below (g := gb154) (o := .cells #[.slice (some ad156) l0_0.length c0_0] 32 (0, 0)) (kq BK154.out) hb); replace HB := am (below_step (Y10) hb); clear hb hbox hg; have hnb8 := NB157_154.out; have hnc8 := NB154_157.out; have hcz9_0 := bc0 BK157.out; have hcz9_1 := bc1 BK157.out; have hfz9_0 := blk_frozen BK157.out 0; have hfz9_1 := blk_frozen BK157.out 1))
     (try simp only [Act.put, List.setIfInBounds_toArray, List.set_cons_zero, List.set_cons_succ])
     go_cut [51] (fun v51 wc => ∃ (kq : Nat) (x51_4 : Bool), v51 = .bool x51_4 ∧ Aside0 (spec_validTree.j1 kq x3_1 x51_4 l0_0 = some r) ∧ Aside0 (kq ≤ k1) ∧ Aside0 (wc.heap[gb154]? = some (.cells #[(.slice (some ad156) l0_0.length c0_0)] 32 (0, 0))) ∧ Aside0 (wc.heap[gb157]? = some (.cells #[.string ((rd_T98 l0_0 x3_1).f0), .int .i64 ((rd_T98 l0_0 x3_1).f1)] 98 (0, 0))) ∧ Aside0 (Below w.heap.size w wc))
     case first =>
      have n0_ : Aside0 (((w7.setCell ⟨gb157, 0, none⟩ (.string ((rd_T98 l0_0 x3_1).f0))).setCell ⟨gb157, 1, none⟩ (.int .i64 ((rd_T98 l0_0 x3_1).f1))).heap[gb154]? = some (.cells #[.slice (some ad156) l0_0.length c0_0] 32 (0, 0))) := ⟨by (with_reducible repeat (first | refine blk_drewN ?_ _ | refine blk_drew ?_ | refine blk_alloc ?_ _)); refine blk_far ?_ NB154_157.out _; (with_reducible repeat (first | refine blk_drewN ?_ _ | refine blk_drew ?_ | refine blk_alloc ?_ _)); refine blk_far ?_ NB154_157.out _; (with_reducible repeat (first | refine blk_drewN ?_ _ | refine blk_drew ?_ | refine blk_alloc ?_ _)); exact BK154.out⟩
      have n1_ : Aside0 (((w7.setCell ⟨gb157, 0, none⟩ (.string ((rd_T98 l0_0 x3_1).f0))).setCell ⟨gb157, 1, none⟩ (.int .i64 ((rd_T98 l0_0 x3_1).f1))).heap[gb157]? = some (.cells #[.string ((rd_T98 l0_0 x3_1).f0), .int .i64 ((rd_T98 l0_0 x3_1).f1)] 98 (0, 0))) := ⟨by (with_reducible repeat (first | refine blk_drewN ?_ _ | refine blk_drew ?_ | refine blk_alloc ?_ _)); refine blk_put (cs := #[.string ((rd_T98 l0_0 x3_1).f0), .int .i64 0]) ?_ 1 _ rfl; (with_reducible repeat (first | refine blk_drewN ?_ _ | refine blk_drew ?_ | refine blk_alloc ?_ _)); refine blk_put (cs := #[.string (⟨#[]⟩ : ByteArray), .int .i64 0]) ?_ 0 _ rfl; (with_reducible repeat (first | refine blk_drewN ?_ _ | refine blk_drew ?_ | refine blk_alloc ?_ _)); exact BK157.out⟩
      have n2_ : Aside0 (Below w.heap.size w ((w7.setCell ⟨gb157, 0, none⟩ (.string ((rd_T98 l0_0 x3_1).f0))).setCell ⟨gb157, 1, none⟩ (.int .i64 ((rd_T98 l0_0 x3_1).f1)))) := ⟨Y30⟩
      clear BK154 BK157 HB hcz9_0 hcz9_1 hfz9_0 hfz9_1
      generalize ((w7.setCell ⟨gb157, 0, none⟩ (.string ((rd_T98 l0_0 x3_1).f0))).setCell ⟨gb157, 1, none⟩ (.int .i64 ((rd_T98 l0_0 x3_1).f1))) = w16 at n0_ n1_ n2_ ⊢
      have BK154 := n0_
      have BK157 := n1_
      have HB := n2_
      clear n0_ n1_ n2_
      have HRW := am (Kd.C_below HR0_0.out HB.out)
      have e0 : w16.cell? ⟨gb157, 0, none⟩ = some (.string ((rd_T98 l0_0 x3_1).f0)) := (blk_cell BK157.out 0).trans rfl
      have e1 : w16.cell? ⟨gb157, 1, none⟩ = some (.int .i64 ((rd_T98 l0_0 x3_1).f1)) := (blk_cell BK157.out 1).trans rfl
      have e2 : w16.cell? ⟨gb154, 0, none⟩ = some (.slice (some ad156) l0_0.length c0_0) := (blk_cell BK154.out 0).trans rfl
      have H := HC5.out
      clear HC5
      obtain ⟨v, hv, H⟩ := Option.bind_eq_some_iff.mp H
      have HN := am (fun W => (spec_validName.calls k1 _ v W hv).mono fun e w' h => (⟨h.1, h.2.out⟩ : e = .returned (.bool v) ∧ ∃ m, w' = W.drewN m))
      clear hv hx156_0 hx156_1
      generalize hgx : rd_T98 l0_0 x3_1 = x at H e0 e1 HN BK157
      have HGX := am hgx
      clear hgx
      cases v with
      | false =>
       have H' := am (show spec_validTree.j1 k1 x3_1 true l0_0 = some r from H)
       clear H
       go_big_quiet ((go_at_call 92; exact Calls.quiet_of (HN.out _)))
       go_wp2
       go_meet
       case rel => exact ⟨_, _, rfl, H', ⟨by have := HK1.out; omega⟩, ⟨blk_drewN BK154.out _⟩, ⟨by rw [HGX.out]; exact blk_drewN BK157.out _⟩, ⟨pw_below_drewN HB.out _⟩⟩
      | true =>
       replace H : (if x3_1 ≤ (l0_0.length : Int) then ((spec_classNamed.f k1 (l0_0.take (x3_1 : Int).toNat) x.f0).bind fun t163 => (if t163 ≥ 0 then (spec_validTree.j1 k1 x3_1 true l0_0) else (if x3_1 = 0 then (if x.f1 = (-1) then (if x3_1 > 0 then ((spec_inRange.f x.f1 0 (wrap64 (x3_1 - 1))).bind fun t164 => (spec_validTree.j1 k1 x3_1 (!t164) l0_0)) else (spec_validTree.j1 k1 x3_1 false l0_0)) else (spec_validTree.j1 k1 x3_1 true l0_0)) else (if x3_1 > 0 then ((spec_inRange.f x.f1 0 (wrap64 (x3_1 - 1))).bind fun t165 => (spec_validTree.j1 k1 x3_1 (!t165) l0_0)) else (spec_validTree.j1 k1 x3_1 false l0_0))))) else (none)) = some r := H
       have hle : x3_1 ≤ (l0_0.length : Int) := by have := of_decide_eq_true c3b0; omega
       have h0 : 0 ≤ x3_1 := of_decide_eq_true c4b0
       rw [if_pos hle] at H
       obtain ⟨c, hc, H⟩ := Option.bind_eq_some_iff.mp H
       obtain ⟨i0, hi0, _, _, _⟩ := info_parts info98
       have hcut := cut_to (P := Try.prog) 30 98 .i64 Try.underlying30 hi0 (some ad156) l0_0.length c0_0 x3_1 h0 hle HC0_0.out
       have hr18 := Kd.C_take (m := (x3_1 : Int).toNat) HRW.out (by omega)
       obtain ⟨y, hy⟩ : ∃ y : List S98, y = l0_0.take (x3_1 : Int).toNat := ⟨_, rfl⟩
       have hyl : y.length = (x3_1 : Int).toNat := by rw [hy, List.length_take]; omega
       have hyc : y.length ≤ c0_0 := by have := HC0_0.out; omega
       rw [← hy] at hr18
       rw [← hyl] at hcut
       rw [← hy] at hc
       have HCN := am (fun m => (spec_classNamed.calls k1 _ _ y x.f0 c (w16.drewN m) (Kd.C_drewN hr18 m) hyc hc).mono fun e w' h => (⟨h.1, h.2.out⟩ : e = .returned (.int .i64 c) ∧ ∃ m', w' = (w16.drewN m).drewN m'))
       clear hr18 hc hy hyl hyc
       have b0 := eq_true h0
       have b1 := eq_true hle
       by_cases hc0 : c ≥ 0
       ·rw [if_pos hc0] at H
        have b2 : decide (0 ≤ c) = true := decide_eq_true hc0
        have H' := am H
        clear H hc0 h0 hle
        go_big_quiet (first | (go_at_call 92; exact Calls.quiet_of (HN.out _)) | (go_at_call 93; exact Calls.quiet_of (HCN.out _)))
        go_wp2
        go_meet
        case rel => exact ⟨_, _, rfl, H', ⟨by have := HK1.out; omega⟩, ⟨blk_drewN BK154.out _⟩, ⟨by rw [HGX.out]; exact blk_drewN BK157.out _⟩, ⟨pw_below_drewN HB.out _⟩⟩
       ·rw [if_neg hc0] at H
        have b2 : decide (0 ≤ c) = false := decide_eq_false hc0
        clear hc0
        by_cases hz : x3_1 = 0
        ·rw [if_pos hz] at H
         have b3 : (x3_1 == 0) = true := beq_iff_eq.2 hz
         have b4 : decide (0 < x3_1) = false := decide_eq_false (by omega)
         by_cases hf : x.f1 = -1
         ·rw [if_pos hf, if_neg (by omega)] at H
          have b5 : (x.f1 != -1) = false := by simpa using hf
          have H' := am H
          clear H hf h0 hle hz
          go_big_quiet (first | (go_at_call 92; exact Calls.quiet_of (HN.out _)) | (go_at_call 93; exact Calls.quiet_of (HCN.out _)))
          go_wp2
          go_meet
          case rel => exact ⟨_, _, rfl, H', ⟨by have := HK1.out; omega⟩, ⟨blk_drewN BK154.out _⟩, ⟨by rw [HGX.out]; exact blk_drewN BK157.out _⟩, ⟨pw_below_drewN HB.out _⟩⟩
         ·rw [if_neg hf] at H
          have b5 : (x.f1 != -1) = true := by simpa using hf
          have H' := am H
          clear H hf h0 hle hz
          go_big_quiet (first | (go_at_call 92; exact Calls.quiet_of (HN.out _)) | (go_at_call 93; exact Calls.quiet_of (HCN.out _)))
          go_wp2
          go_meet
          case rel => exact ⟨_, _, rfl, H', ⟨by have := HK1.out; omega⟩, ⟨blk_drewN BK154.out _⟩, ⟨by rw [HGX.out]; exact blk_drewN BK157.out _⟩, ⟨pw_below_drewN HB.out _⟩⟩
        ·rw [if_neg hz, if_pos (by omega)] at H
         have b3 : (x3_1 == 0) = false := beq_eq_false_iff_ne.2 hz
         have b4 : decide (0 < x3_1) = true := decide_eq_true (by omega)
         obtain ⟨t, ht, H⟩ := Option.bind_eq_some_iff.mp H
         have H' := am H
         have HI := am (fun W => (spec_inRange.calls _ _ _ t W ht).mono fun e w' h => (⟨h.1, h.2.out⟩ : e = .returned (.bool t) ∧ ∃ m, w' = W.drewN m))
         clear H ht h0 hle hz
         go_big_quiet (first | (go_at_call 92; exact Calls.quiet_of (HN.out _)) | (go_at_call 93; exact Calls.quiet_of (HCN.out _)) | (go_at_call 60; exact Calls.quiet_of (HI.out _)))
         go_wp2
         go_meet
         case rel => exact ⟨_, _, rfl, H', ⟨by have := HK1.out; omega⟩, ⟨blk_drewN BK154.out _⟩, ⟨by rw [HGX.out]; exact blk_drewN BK157.out _⟩, ⟨pw_below_drewN HB.out _⟩⟩
     case rest =>
      clear HC5
      try clear c1
      try clear c2
      try clear p2
      try clear c3
      try clear q3
      try clear p6
      try clear c11
      try clear c12
      try clear c13
      try clear c21
      try clear c32
      try clear c32b0
      try clear q39
      try clear q39
      obtain ⟨kq, x51_4, rfl, HA, HJ4, BK154, BK157, HB⟩ := hcut
      cases kq with
      | zero => exact absurd HA.out (by simp [spec_validTree.j1])
      | succ kj4 =>
       have H := HA.out
       clear HA
       simp only [spec_validTree.j1] at H
       by_cases c42 : x51_4 = true
       ·subst c42
        have H1 : (some false) = some r := by rw [if_pos rfl] at H; exact H
        clear H
        have H := H1
        clear H1
        obtain rfl := Option.some.inj H
        go_wp2
        go_ret
        exact ⟨Y0, Y30⟩
       ·replace c42 := Bool.eq_false_iff.mpr c42
        subst c42
        have H1 : (spec_validTree.l0 kj4 (wrap64 (x3_1 + 1)) l0_0) = some r := by rw [if_neg (show ¬ (false = true) by decide)] at H; exact H
        clear H
        have H := H1
        clear H1
        have H' := am H
        clear H
        go_wp2
        go_roundg kj4
        case measure => have := HK1.out; have := HJ4.out; omega
        case rel => exact ⟨(wrap64 (x3_1 + 1)), (sq), H', ⟨by have := HK1.out; have := HJ4.out; omega⟩, ⟨kq BK154.out⟩, ⟨Y30⟩⟩
    ·rw [if_neg c4] at H
     exact absurd H (by simp)
   ·rw [if_neg c3] at H
    have c3b0 : decide (x3_1 < (l0_0.length : Int)) = false := decide_eq_false c3
    clear c3
    replace H := Option.bind_eq_some_iff.mp H
    obtain ⟨t155, A430, H⟩ := H
    replace H : (some t155) = some r := H
    have A43 := am A430
    clear A430
    obtain rfl := Option.some.inj H
    have hcz44_0 := bc0 BK154.out
    have hfz44_0 := blk_frozen BK154.out 0
    go_wp2_with (first | ((with_reducible refine gate_callee (f := 60) rfl ?_); refine gL (some 55) Try.func60 #[.int .i64 (l0_0.length : Int), .int .i64 1, .int .i64 8] ?_; (with_reducible refine (spec_inRange.calls (l0_0.length : Int) 1 8 t155 _ A43.out).mono ?_); rintro e w' ⟨rfl, ⟨nd, rfl⟩⟩; refine ⟨_, rfl, ?_⟩))
    go_ret
    exact ⟨Y0, Y10⟩
def spec_validProgram.l0 : Nat → List (S59) → Int → List (S98) → Option (Bool)
 | 0, _, _, _ => none
 | k + 1, x1, x5, x155000 => if x5 < (x1.length : Int) then ((spec_validLine.f k x155000 x1 x5).bind fun t156 => (if t156 = true then (spec_validProgram.l0 k x1 (wrap64 (x5 + 1)) x155000) else (some false))) else ((spec_validTree.f k x155000).bind fun t155 => (if t155 = true then (some (decide ((x1.length : Int) ≤ 24))) else (some false)))
def spec_validProgram.f (k : Nat) (l0_0 : List (S98)) (l1 : List (S59)) : Option (Bool) := spec_validProgram.l0 k l1 0 l0_0
set_option maxHeartbeats 8000000 in
set_option maxRecDepth 100000 in
theorem spec_validProgram.calls (k : Nat) (A0_0 : Option Addr) (c0_0 : Nat) (l0_0 : List (S98)) (A1 : Option Addr) (c1 : Nat) (l1 : List (S59)) (r : Bool) (w : World) (hr0_0 : Kd.C k98 w A0_0 l0_0.length l0_0) (hc0_0 : l0_0.length ≤ c0_0) (hr1 : Kd.C k59 w A1 l1.length l1) (hc1 : l1.length ≤ c1) (h : spec_validProgram.f k l0_0 l1 = some r) :
  Calls Try.prog 29 #[.agg #[.slice A0_0 l0_0.length c0_0], .slice A1 l1.length c1] w fun e w' => e = .returned (.bool r) ∧ Below w.heap.size w w' := by
 have hu32 := Try.underlying32
 have HR0_0 := am hr0_0
 have HC0_0 := am hc0_0
 clear hr0_0 hc0_0
 have HR1 := am hr1
 have HC1 := am hc1
 clear hr1 hc1
 have HB := am (Below.refl w.heap.size w)
 have H : (spec_validProgram.l0 k l1 0 l0_0) = some r := h
 clear h
 have H' := am H
 clear H
 go_enter Try.func29, Try.ntmps29
 go_wp2_with (first | ((with_reducible refine gate_dst (N := 2) rfl ?_); (try (refine gate_guard (by rfl) ?_; dsimp only)); refine box_event ?hg (N := 2) ?hd (cs := #[.slice A0_0 l0_0.length c0_0]) (t := 32) ?hr ?_; (case hd => rfl); (case hg => rfl); (case hr => exact Y6); intro gb154 hg w3 hbox hb; have BK154 := am (hbox); have GW154 := am ((Y1 : w.heap.size ≤ gb154)); have GE154 := am ((Y1 : w.heap.size ≤ gb154)); replace HB := am (below_step (bq) hb); clear hb hbox hg))
 go_loopg [5] k (fun kq v5 w' => ∃ (x5_1 : Int), v5 = .int .i64 x5_1 ∧ Aside0 (spec_validProgram.l0 kq l1 x5_1 l0_0 = some r) ∧ Aside0 (kq ≤ k) ∧ Aside0 (w'.heap[gb154]? = some (.cells #[(.slice A0_0 l0_0.length c0_0)] 32 (0, 0))) ∧ Aside0 (Below w.heap.size w w'))
 case atStart => exact ⟨(0), (sq), H', ⟨Nat.le_refl _⟩, ⟨kq BK154.out⟩, ⟨Y10⟩⟩
 case round =>
  clear H'
  try clear c1
  try clear c2
  try clear p2
  obtain ⟨x5_1, rfl, HA, HK1, BK154, HB⟩ := hrel
  cases gk with
  | zero => exact absurd HA.out (by simp [spec_validProgram.l0])
  | succ k1 =>
   have H := HA.out
   clear HA
   simp only [spec_validProgram.l0] at H
   by_cases c4 : x5_1 < (l1.length : Int)
   ·rw [if_pos c4] at H
    have c4b0 : decide (x5_1 < (l1.length : Int)) = true := decide_eq_true c4
    clear c4
    replace H := Option.bind_eq_some_iff.mp H
    obtain ⟨t156, A50, H⟩ := H
    replace H : (if t156 = true then (spec_validProgram.l0 k1 l1 (wrap64 (x5_1 + 1)) l0_0) else (some false)) = some r := H
    have A5 := am A50
    clear A50
    by_cases c6 : t156 = true
    ·subst c6
     have H1 : (spec_validProgram.l0 k1 l1 (wrap64 (x5_1 + 1)) l0_0) = some r := by rw [if_pos rfl] at H; exact H
     clear H
     have H := H1
     clear H1
     have H' := am H
     clear H
     have hcz7_0 := bc0 BK154.out
     have hfz7_0 := blk_frozen BK154.out 0
     go_wp2_with (first | ((with_reducible refine gate_callee (f := 63) rfl ?_); refine gL (some 15) Try.func63 #[.agg #[.slice A0_0 l0_0.length c0_0], .slice A1 l1.length c1, .int .i64 x5_1] ?_; (with_reducible refine (spec_validLine.calls k1 _ _ l0_0 _ _ l1 x5_1 true _ ?side1 ?side2 ?side3 ?side4 A5.out).mono ?_); (case side1 => exact cq (Kd.C_below HR0_0.out HB.out)); (case side2 => exact HC0_0.out); (case side3 => exact cq (Kd.C_below HR1.out HB.out)); (case side4 => exact HC1.out); rintro e w8 ⟨rfl, hb⟩; refine ⟨_, rfl, ?_⟩; replace BK154 := am (blk_below (g := gb154) (o := .cells #[.slice A0_0 l0_0.length c0_0] 32 (0, 0)) (kq BK154.out) hb); replace HB := am (below_step (Y10) hb); (try clear hb); (try clear hb2); (try clear hk); (try clear hi)))
     go_roundg k1
     case measure => have := HK1.out; omega
     case rel => exact ⟨(wrap64 (x5_1 + 1)), (sq), H', ⟨by have := HK1.out; omega⟩, ⟨kq BK154.out⟩, ⟨Y10⟩⟩
    ·replace c6 := Bool.eq_false_iff.mpr c6
     subst c6
     have H1 : (some false) = some r := by rw [if_neg (show ¬ (false = true) by decide)] at H; exact H
     clear H
     have H := H1
     clear H1
     obtain rfl := Option.some.inj H
     have hcz9_0 := bc0 BK154.out
     have hfz9_0 := blk_frozen BK154.out 0
     go_wp2_with (first | ((with_reducible refine gate_callee (f := 63) rfl ?_); refine gL (some 15) Try.func63 #[.agg #[.slice A0_0 l0_0.length c0_0], .slice A1 l1.length c1, .int .i64 x5_1] ?_; (with_reducible refine (spec_validLine.calls k1 _ _ l0_0 _ _ l1 x5_1 false _ ?side1 ?side2 ?side3 ?side4 A5.out).mono ?_); (case side1 => exact cq (Kd.C_below HR0_0.out HB.out)); (case side2 => exact HC0_0.out); (case side3 => exact cq (Kd.C_below HR1.out HB.out)); (case side4 => exact HC1.out); rintro e w10 ⟨rfl, hb⟩; refine ⟨_, rfl, ?_⟩; replace BK154 := am (blk_below (g := gb154) (o := .cells #[.slice A0_0 l0_0.length c0_0] 32 (0, 0)) (kq BK154.out) hb); replace HB := am (below_step (Y10) hb); (try clear hb); (try clear hb2); (try clear hk); (try clear hi)))
     go_ret
     exact ⟨Y0, Y10⟩
   ·rw [if_neg c4] at H
    have c4b0 : decide (x5_1 < (l1.length : Int)) = false := decide_eq_false c4
    clear c4
    replace H := Option.bind_eq_some_iff.mp H
    obtain ⟨t155, A110, H⟩ := H
    replace H : (if t155 = true then (some (decide ((l1.length : Int) ≤ 24))) else (some false)) = some r := H
    have A11 := am A110
    clear A110
    by_cases c12 : t155 = true
    ·subst c12
     have H1 : (some (decide ((l1.length : Int) ≤ 24))) = some r := by rw [if_pos rfl] at H; exact H
     clear H
     have H := H1
     clear H1
     obtain rfl := Option.some.inj H
     have hcz13_0 := bc0 BK154.out
     have hfz13_0 := blk_frozen BK154.out 0
     go_wp2_with (first | ((with_reducible refine gate_callee (f := 64) rfl ?_); refine gL (some 18) Try.func64 #[.agg #[.slice A0_0 l0_0.length c0_0]] ?_; (with_reducible refine (spec_validTree.calls k1 _ _ l0_0 true _ ?side1 ?side2 A11.out).mono ?_); (case side1 => exact cq (Kd.C_below HR0_0.out HB.out)); (case side2 => exact HC0_0.out); rintro e w14 ⟨rfl, hb⟩; refine ⟨_, rfl, ?_⟩; replace BK154 := am (blk_below (g := gb154) (o := .cells #[.slice A0_0 l0_0.length c0_0] 32 (0, 0)) (kq BK154.out) hb); replace HB := am (below_step (Y10) hb); (try clear hb); (try clear hb2); (try clear hk); (try clear hi)))
     go_ret
     exact ⟨Y0, Y10⟩
    ·replace c12 := Bool.eq_false_iff.mpr c12
     subst c12
     have H1 : (some false) = some r := by rw [if_neg (show ¬ (false = true) by decide)] at H; exact H
     clear H
     have H := H1
     clear H1
     obtain rfl := Option.some.inj H
     have hcz15_0 := bc0 BK154.out
     have hfz15_0 := blk_frozen BK154.out 0
     go_wp2_with (first | ((with_reducible refine gate_callee (f := 64) rfl ?_); refine gL (some 18) Try.func64 #[.agg #[.slice A0_0 l0_0.length c0_0]] ?_; (with_reducible refine (spec_validTree.calls k1 _ _ l0_0 false _ ?side1 ?side2 A11.out).mono ?_); (case side1 => exact cq (Kd.C_below HR0_0.out HB.out)); (case side2 => exact HC0_0.out); rintro e w16 ⟨rfl, hb⟩; refine ⟨_, rfl, ?_⟩; replace BK154 := am (blk_below (g := gb154) (o := .cells #[.slice A0_0 l0_0.length c0_0] 32 (0, 0)) (kq BK154.out) hb); replace HB := am (below_step (Y10) hb); (try clear hb); (try clear hb2); (try clear hk); (try clear hi)))
     go_ret
     exact ⟨Y0, Y10⟩
mutual
def spec_tableOf.l0 : Nat → List (S59) → List (S48) → Int → Option ((List (S48)))
 | 0, _, _, _ => none
 | k + 1, x0, x3, x4 => if x4 ≥ 0 then (if 0 ≤ x4 then (if x4 < (x0.length : Int) then (if ((rd_T59 x0 x4).f1) = 11 then (spec_tableOf.j1 k x0 x3 x4 (((rd_T59 x0 x4).f3) == 1)) else (spec_tableOf.j1 k x0 x3 x4 false)) else (none)) else (none)) else (some x3)
def spec_tableOf.j1 : Nat → List (S59) → List (S48) → Int → Bool → Option ((List (S48)))
 | 0, _, _, _, _ => none
 | k + 1, x0, x3, x4, x28 => if x28 = true then ((spec_blockEnd.f k x0 x4).bind fun t162 => (if x3.length < 4398046511104 then (spec_tableOf.j2 k x0 (x3 ++ [(⟨wrap64 (x4 + 1), t162, x4, 0⟩ : S48)]) x4) else (none))) else (spec_tableOf.j2 k x0 x3 x4)
def spec_tableOf.j2 : Nat → List (S59) → List (S48) → Int → Option ((List (S48)))
 | 0, _, _, _ => none
 | k + 1, x0, x3, x4 => if 0 ≤ x4 then (if x4 < (x0.length : Int) then (if ((rd_T59 x0 x4).f1) = 7 then ((spec_chainOf.f k x0 x4).bind fun t167 => (spec_tableOf.l1 k x0 x3 x4 t167 1)) else (spec_tableOf.l0 k x0 x3 (wrap64 (x4 - 1)))) else (none)) else (none)
def spec_tableOf.l1 : Nat → List (S59) → List (S48) → Int → List Int → Int → Option ((List (S48)))
 | 0, _, _, _, _, _ => none
 | k + 1, x0, x3, x4, x5, x6 => if x6 < (x5.length : Int) then (if 0 ≤ x6 then (if 0 ≤ (rd x5 x6) then (if (rd x5 x6) < (x0.length : Int) then (if ((rd_T59 x0 (rd x5 x6)).f1) = 8 then ((spec_blockEnd.f k x0 x4).bind fun t172 => (if x3.length < 4398046511104 then (spec_tableOf.l1 k x0 (x3 ++ [(⟨wrap64 (x4 + 1), t172, rd x5 x6, (rd_T59 x0 (rd x5 x6)).f2⟩ : S48)]) x4 x5 (wrap64 (x6 + 1))) else (none))) else (spec_tableOf.l1 k x0 x3 x4 x5 (wrap64 (x6 + 1)))) else (none)) else (none)) else (none)) else (spec_tableOf.l0 k x0 x3 (wrap64 (x4 - 1)))
end
def spec_tableOf.f (k : Nat) (l0 : List (S59)) : Option ((List (S48))) := spec_tableOf.l0 k l0 (([] : List (S48))) (wrap64 ((l0.length : Int) - 1))
def spec_tableOf.T13 : Bool × List (List Nat × List Nat) := (true, [([], []), ([], []), ([1], [1]), ([], []), ([], []), ([3, 4], [3, 4]), ([], []), ([], []), ([6, 7], [6, 7]), ([8], [8]), ([], []), ([], []), ([], []), ([11, 12], [11, 12]), ([13], [13]), ([10, 14], [10, 14]), ([15], [15]), ([16], [16]), ([2, 5, 9, 17], [2, 5, 9, 17]), ([18], [18]), ([0, 19, 5], [0, 19]), ([20, 20, 0, 1, 2, 3, 4, 5, 6, 7, 8, 9, 10, 11, 12, 13, 14, 15, 16, 17, 18, 19, 20], [0, 20])])
def spec_tableOf.B13 : List Nat := [0, 0, 2, 0, 0, 24, 0, 0, 192, 448, 0, 0, 0, 6144, 14336, 31744, 64512, 130048, 262142, 524286, 1048575, 2097151]
theorem spec_tableOf.tab13 : rtab .any (opsOf Try.f30 13) = spec_tableOf.T13 := by kernel_rfl
theorem spec_tableOf.bits13 : waitsOk spec_tableOf.T13.2 spec_tableOf.B13 = true := by kernel_rfl
set_option maxHeartbeats 8000000 in
set_option maxRecDepth 100000 in
theorem spec_tableOf.calls (k : Nat) (A0 : Option Addr) (c0 : Nat) (l0 : List (S59)) (r : List (S48)) (w : World) (hr0 : Kd.C k59 w A0 l0.length l0) (hc0 : l0.length ≤ c0) (h : spec_tableOf.f k l0 = some r) :
  Calls Try.prog 30 #[.slice A0 l0.length c0] w fun e w' => ∃ v0_ : Value, e = .returned (v0_) ∧ Kd.R k48 48 w' w.heap.size (fun _ => True) v0_ r ∧ Below w.heap.size w w' := by
 have hu48 := Try.underlying48
 have HR0 := am hr0
 have HC0 := am hc0
 clear hr0 hc0
 have HB := am (Below.refl w.heap.size w)
 have H : (spec_tableOf.l0 k l0 (([] : List (S48))) (wrap64 ((l0.length : Int) - 1))) = some r := h
 clear h
 obtain ⟨y157, hy157⟩ : ∃ y_ : List (S48), y_ = (([] : List (S48))) := ⟨_, rfl⟩
 replace H : (spec_tableOf.l0 k l0 y157 (wrap64 ((l0.length : Int) - 1))) = some r := by first | (rw [hy157]; with_reducible exact H) | (have H2_ := (Option.bind_some _ _).symm.trans H; rw [hy157]; with_reducible exact H2_) | (have H2_ := (Option.bind_some _ _).symm.trans H; with_reducible exact H2_) | with_reducible exact H | (rw [hy157]; exact H) | exact H
 have Ny157 := am hy157
 clear hy157
 have H' := am H
 clear H
 go_enter Try.func30, Try.ntmps30
 go_wp2_with (first | ((with_reducible refine gate_dst (N := 7) rfl ?_); refine Kd.R_lit k48 _ 48 ?hg (N := 7) ?hd (xs := ([] : List (S48))) (inner := []) (ok := fun _ => True) (okp := fun _ => True) ?hr ?hp (fun _ hk => hk) trivial (Below.refl _ _) (Nat.le_refl _) (by simp) ?_; (case hd => rfl); (case hg => rfl); (case hr => exact Y6); (case hp => exact (Reps.none _ _)); intro v158 w2 ho3 hb hg_ hnew_; clear hg_ hnew_; (first | rw [← Ny157.out] at ho3 | (simp only [Int.reduceToNat] at ho3; rw [← Ny157.out] at ho3)); have HO159 := am (Kd.R_lower ho3 (below_size (bq))); replace HB := am (below_step (bq) hb); clear hb ho3))
 go_loopg [3, 4] k (fun kq v3 v4 w' => ∃ (x3_1 : List (S48)) (x4_1 : Int), v4 = .int .i64 x4_1 ∧ Aside0 (spec_tableOf.l0 kq l0 x3_1 x4_1 = some r) ∧ Aside0 (kq ≤ k) ∧ Aside0 (Kd.R k48 48 w' w.heap.size (fun _ => True) v3 x3_1) ∧ Aside0 (Below w.heap.size w w'))
 case atStart => exact ⟨(y157), (wrap64 ((l0.length : Int) - 1)), (sq), H', ⟨Nat.le_refl _⟩, ⟨rq HO159.out⟩, ⟨bq⟩⟩
 case round =>
  clear H'
  try clear p2
  try clear c3
  obtain ⟨x3_1, x4_1, rfl, HA, HK1, HO_3, HB⟩ := hrel
  cases gk with
  | zero => exact absurd HA.out (by simp [spec_tableOf.l0])
  | succ k1 =>
   have H := HA.out
   clear HA
   simp only [spec_tableOf.l0] at H
   by_cases c4 : x4_1 ≥ 0
   ·rw [if_pos c4] at H
    have c4b0 : decide (0 ≤ x4_1) = true := decide_eq_true c4
    clear c4
    have HC5 := am H
    clear H
    go_upto_region 5 with (fail)
    go_cut [28] (fun v28 wc => ∃ (kq : Nat) (x28_4 : Bool), v28 = .bool x28_4 ∧ Aside0 (spec_tableOf.j1 kq l0 x3_1 x4_1 x28_4 = some r) ∧ Aside0 (kq ≤ k1) ∧ Aside0 (Kd.R k48 48 wc w.heap.size (fun _ => True) u3 x3_1) ∧ Aside0 (Below w.heap.size w wc))
    case first =>
     have H := HC5.out
     clear HC5
     by_cases c6 : 0 ≤ x4_1
     ·rw [if_pos c6] at H
      have c6b0 : decide (0 ≤ x4_1) = true := decide_eq_true c6
      clear c6
      (first | rw [c6b0] | (simp only [i64_w, i32_w]; rw [c6b0]) | skip)
      by_cases c7 : x4_1 < (l0.length : Int)
      ·rw [if_pos c7] at H
       have c7b0 : decide (x4_1 < (l0.length : Int)) = true := decide_eq_true c7
       clear c7
       by_cases c8 : ((rd_T59 l0 x4_1).f1) = 11
       ·rw [if_pos c8] at H
        have c8b0 : (((rd_T59 l0 x4_1).f1) == 11) = true := beq_iff_eq.mpr c8
        have c8b1 : (((rd_T59 l0 x4_1).f1) != 11) = false := bne_eq_false_iff_eq.mpr c8
        clear c8
        have H' := am H
        clear H
        have p160 : 0 ≤ (x4_1 : Int) := of_decide_eq_true (uq)
        have q160 : x4_1 < (l0.length : Int) := of_decide_eq_true (uq)
        obtain ⟨ad160, e160, hx160_0, hx160_1, hx160_2, hx160_3⟩ := at_T59 HR0.out x4_1 p160 q160
        cases e160
        replace hx160_0 := cb HB.out hx160_0
        replace hx160_1 := cb HB.out hx160_1
        replace hx160_2 := cb HB.out hx160_2
        replace hx160_3 := cb HB.out hx160_3
        replace p160 := eq_true p160
        replace q160 := eq_true q160
        have p161 : 0 ≤ (x4_1 : Int) := of_decide_eq_true (uq)
        have q161 : x4_1 < (l0.length : Int) := of_decide_eq_true (uq)
        obtain ⟨ad161, e161, hx161_0, hx161_1, hx161_2, hx161_3⟩ := at_T59 HR0.out x4_1 p161 q161
        obtain rfl : ad160 = ad161 := (by injection e161)
        replace hx161_0 := cb HB.out hx161_0
        replace hx161_1 := cb HB.out hx161_1
        replace hx161_2 := cb HB.out hx161_2
        replace hx161_3 := cb HB.out hx161_3
        replace p161 := eq_true p161
        replace q161 := eq_true q161
        go_wp2
        go_meet
        case rel => exact ⟨_, ((((rd_T59 l0 x4_1).f3) == 1)), (sq), H', ⟨by have := HK1.out; first | omega | exact Nat.le_refl _⟩, ⟨rq HO_3.out⟩, ⟨bq⟩⟩
       ·rw [if_neg c8] at H
        have c8b0 : (((rd_T59 l0 x4_1).f1) == 11) = false := beq_eq_false_iff_ne.mpr c8
        have c8b1 : (((rd_T59 l0 x4_1).f1) != 11) = true := bne_iff_ne.mpr c8
        have H' := am H
        clear H
        have p160 : 0 ≤ (x4_1 : Int) := of_decide_eq_true (uq)
        have q160 : x4_1 < (l0.length : Int) := of_decide_eq_true (uq)
        obtain ⟨ad160, e160, hx160_0, hx160_1, hx160_2, hx160_3⟩ := at_T59 HR0.out x4_1 p160 q160
        cases e160
        replace hx160_0 := cb HB.out hx160_0
        replace hx160_1 := cb HB.out hx160_1
        replace hx160_2 := cb HB.out hx160_2
        replace hx160_3 := cb HB.out hx160_3
        replace p160 := eq_true p160
        replace q160 := eq_true q160
        go_wp2
        go_meet
        case rel => exact ⟨_, (false), (sq), H', ⟨by have := HK1.out; first | omega | exact Nat.le_refl _⟩, ⟨rq HO_3.out⟩, ⟨bq⟩⟩
      ·rw [if_neg c7] at H
       exact absurd H (by simp)
     ·rw [if_neg c6] at H
      exact absurd H (by simp)
    case rest =>
     clear HC5
     try clear p1
     try clear q1
     try clear hx1
     try clear p2
     try clear c3
     try clear c4
     try clear c4b0
     try clear c6
     try clear c6b0
     try clear p6
     try clear c7
     try clear c7b0
     try clear c8
     try clear c8b0
     try clear c8b1
     try clear hx160_0
     try clear hx160_1
     try clear hx160_2
     try clear hx160_3
     try clear hx161_0
     try clear hx161_1
     try clear hx161_2
     try clear hx161_3
     try clear p160
     try clear p161
     try clear p2
     try clear q160
     try clear q161
     obtain ⟨kq, x28_4, rfl, HA, HJ4, HO_3, HB⟩ := hcut
     cases kq with
     | zero => exact absurd HA.out (by simp [spec_tableOf.j1])
     | succ kj4 =>
      have H := HA.out
      clear HA
      simp only [spec_tableOf.j1] at H
      have HC9 := am H
      clear H
      go_upto_if 28 with (fail)
      go_cut [3] (fun v3 wc => ∃ (kq : Nat) (x3_8 : List (S48)), Aside0 (spec_tableOf.j2 kq l0 x3_8 x4_1 = some r) ∧ Aside0 (kq ≤ kj4) ∧ Aside0 (Kd.R k48 48 wc w.heap.size (fun _ => True) v3 x3_8) ∧ Aside0 (Below w.heap.size w wc))
      case first =>
       have H := HC9.out
       clear HC9
       by_cases c10 : x28_4 = true
       ·subst c10
        have H1 : ((spec_blockEnd.f kj4 l0 x4_1).bind fun t162 => (if x3_1.length < 4398046511104 then (spec_tableOf.j2 kj4 l0 (x3_1 ++ [(⟨wrap64 (x4_1 + 1), t162, x4_1, 0⟩ : S48)]) x4_1) else (none))) = some r := by rw [if_pos rfl] at H; exact H
        clear H
        have H := H1
        clear H1
        replace H := Option.bind_eq_some_iff.mp H
        obtain ⟨t162, A110, H⟩ := H
        replace H : (if x3_1.length < 4398046511104 then (spec_tableOf.j2 kj4 l0 (x3_1 ++ [(⟨wrap64 (x4_1 + 1), t162, x4_1, 0⟩ : S48)]) x4_1) else (none)) = some r := H
        have A11 := am A110
        clear A110
        by_cases c12 : x3_1.length < 4398046511104
        ·rw [if_pos c12] at H
         have LMc12 := am c12
         clear c12
         obtain ⟨y163, hy163⟩ : ∃ y_ : List (S48), y_ = (x3_1 ++ [(⟨wrap64 (x4_1 + 1), t162, x4_1, 0⟩ : S48)]) := ⟨_, rfl⟩
         replace H : (spec_tableOf.j2 kj4 l0 y163 x4_1) = some r := by first | (rw [hy163]; with_reducible exact H) | (have H2_ := (Option.bind_some _ _).symm.trans H; rw [hy163]; with_reducible exact H2_) | (have H2_ := (Option.bind_some _ _).symm.trans H; with_reducible exact H2_) | with_reducible exact H | (rw [hy163]; exact H) | exact H
         have Ny163 := am hy163
         clear hy163
         have H' := am H
         clear H
         go_wp2_with (first | ((with_reducible refine gate_callee (f := 65) rfl ?_); refine gL (some 34) Try.func65 #[.slice A0 l0.length c0, .int .i64 x4_1] ?_; (with_reducible refine (spec_blockEnd.calls kj4 _ _ l0 x4_1 t162 _ ?side1 ?side2 A11.out).mono ?_); (case side1 => exact cq (Kd.C_below HR0.out HB.out)); (case side2 => exact HC0.out); rintro e w' ⟨rfl, ⟨nd, rfl⟩⟩; refine ⟨_, rfl, ?_⟩) | ((with_reducible refine gate_builtin (b := .append) (xs := #[.tmp 29, .tmp 37]) rfl ?_); at_builtin; refine Kd.R_append k48 (w0 := w) w.heap.size rfl (.tmp 29) (.tmp 37) 28 48 (.agg #[(.int .i64 0), (.int .i64 0), (.int .i64 0), (.int .i64 0)]) 32 rfl Try.underlying28 info48 rfl (by decide) (by omega) u3 x3_1 (⟨wrap64 (x4_1 + 1), t162, x4_1, 0⟩ : S48) [.int .i64 (wrap64 (x4_1 + 1)), .int .i64 t162, .int .i64 x4_1, .int .i64 0] (fun _ => True) (fun _ => False) rfl rfl ?aP (fun _ hk => hk.elim) ?aF ?aO ?aB ?aS ?aL ?_; (case aP => exact k48_mkM _ _ _ (⟨wrap64 (x4_1 + 1), t162, x4_1, 0⟩ : S48)); (case aB => exact (bq)); (case aF => exact (fun _ _ => trivial)); (case aO => exact (rq HO_3.out)); (case aS => exact (below_size (bq))); (case aL => have := LMc12.out; omega); intro v164 w13 ho hb hg hat; rw [← Ny163.out] at ho; have n0_ := am (hb); have n1_ := am (ho); clear HB HO_3; have HB := n0_; have HO165 := n1_; clear n0_ n1_ ho hb hg hat))
         go_meet
         case rel => exact ⟨_, (y163), H', ⟨by have := HK1.out; have := HJ4.out; first | omega | exact Nat.le_refl _⟩, ⟨rq HO165.out⟩, ⟨bq⟩⟩
        ·rw [if_neg c12] at H
         exact absurd H (by simp)
       ·replace c10 := Bool.eq_false_iff.mpr c10
        subst c10
        have H1 : (spec_tableOf.j2 kj4 l0 x3_1 x4_1) = some r := by rw [if_neg (show ¬ (false = true) by decide)] at H; exact H
        clear H
        have H := H1
        clear H1
        have H' := am H
        clear H
        go_wp2
        go_meet
        case rel => exact ⟨_, (x3_1), H', ⟨by have := HK1.out; have := HJ4.out; first | omega | exact Nat.le_refl _⟩, ⟨rq HO_3.out⟩, ⟨bq⟩⟩
      case rest =>
       clear HC9
       try clear c1
       try clear p1
       try clear q1
       try clear hx1
       try clear p2
       try clear c3
       try clear c4
       try clear c4b0
       try clear c6
       try clear c6b0
       try clear p6
       try clear c7
       try clear c7b0
       try clear c8
       try clear c8b0
       try clear c8b1
       try clear c10
       try clear c12
       try clear hx160_0
       try clear hx160_1
       try clear hx160_2
       try clear hx160_3
       try clear hx161_0
       try clear hx161_1
       try clear hx161_2
       try clear hx161_3
       try clear p1
       try clear p160
       try clear p161
       try clear p2
       try clear p6
       try clear q1
       try clear q160
       try clear q161
       obtain ⟨kq, x3_8, HA, HJ8, HO_3, HB⟩ := hcut
       cases kq with
       | zero => exact absurd HA.out (by simp [spec_tableOf.j2])
       | succ kj8 =>
        have H := HA.out
        clear HA
        simp only [spec_tableOf.j2] at H
        by_cases c14 : 0 ≤ x4_1
        ·rw [if_pos c14] at H
         have c14b0 : decide (0 ≤ x4_1) = true := decide_eq_true c14
         clear c14
         by_cases c15 : x4_1 < (l0.length : Int)
         ·rw [if_pos c15] at H
          have c15b0 : decide (x4_1 < (l0.length : Int)) = true := decide_eq_true c15
          clear c15
          by_cases c16 : ((rd_T59 l0 x4_1).f1) = 7
          ·rw [if_pos c16] at H
           have c16b0 : (((rd_T59 l0 x4_1).f1) == 7) = true := beq_iff_eq.mpr c16
           have c16b1 : (((rd_T59 l0 x4_1).f1) != 7) = false := bne_eq_false_iff_eq.mpr c16
           clear c16
           replace H := Option.bind_eq_some_iff.mp H
           obtain ⟨t167, A170, H⟩ := H
           replace H : (spec_tableOf.l1 kj8 l0 x3_8 x4_1 t167 1) = some r := H
           have A17 := am A170
           clear A170
           have H' := am H
           clear H
           have p166 : 0 ≤ (x4_1 : Int) := of_decide_eq_true (uq)
           have q166 : x4_1 < (l0.length : Int) := of_decide_eq_true (uq)
           obtain ⟨ad166, e166, hx166_0, hx166_1, hx166_2, hx166_3⟩ := at_T59 HR0.out x4_1 p166 q166
           cases e166
           replace hx166_0 := cb HB.out hx166_0
           replace hx166_1 := cb HB.out hx166_1
           replace hx166_2 := cb HB.out hx166_2
           replace hx166_3 := cb HB.out hx166_3
           replace p166 := eq_true p166
           replace q166 := eq_true q166
           go_wp2_with (first | ((with_reducible refine gate_callee (f := 66) rfl ?_); refine gL (some 47) Try.func66 #[.slice (some ad166) l0.length c0, .int .i64 x4_1] ?_; (with_reducible refine (spec_chainOf.calls kj8 _ _ l0 x4_1 t167 _ ?side1 ?side2 A17.out).mono ?_); (case side1 => exact cq (Kd.C_below HR0.out HB.out)); (case side2 => exact HC0.out); rintro e w18 ⟨v168, rfl, ho0, hb⟩; refine ⟨_, rfl, ?_⟩; have HO169 := am (Kd.R_lower ho0 (below_size (bq))); replace HO_3 := am (Kd.R_below (rq HO_3.out) hb); replace HB := am (below_step (bq) hb); (try clear hb); (try clear hb2); (try clear hk); (try clear hi); (try clear ho0)))
           go_loopg [3, 6] kj8 (fun kq v3 v6 w' => ∃ (x3_4 : List (S48)) (x6_4 : Int), v6 = .int .i64 x6_4 ∧ Aside0 (spec_tableOf.l1 kq l0 x3_4 x4_1 t167 x6_4 = some r) ∧ Aside0 (kq ≤ kj8) ∧ Aside0 (Kd.R k48 48 w' w.heap.size (fun _ => True) v3 x3_4) ∧ Aside0 (Kd.R (Kd.int .i64) 3 w' w.heap.size (fun _ => True) v168 t167) ∧ Aside0 (Below w.heap.size w w'))
           case atStart => exact ⟨(x3_8), (1), (sq), H', ⟨Nat.le_refl _⟩, ⟨rq HO_3.out⟩, ⟨rq HO169.out⟩, ⟨bq⟩⟩
           case round =>
            clear H'
            try clear c1
            try clear p1
            try clear q1
            try clear hx1
            try clear p2
            try clear c3
            try clear c4
            try clear c4b0
            try clear c6
            try clear c6b0
            try clear p6
            try clear c7
            try clear c7b0
            try clear c8
            try clear c8b0
            try clear c8b1
            try clear c10
            try clear c12
            try clear c14
            try clear c14b0
            try clear c15
            try clear c15b0
            try clear c16
            try clear c16b0
            try clear c16b1
            try clear p16
            try clear q16
            try clear hx16
            try clear hx160_0
            try clear hx160_1
            try clear hx160_2
            try clear hx160_3
            try clear hx161_0
            try clear hx161_1
            try clear hx161_2
            try clear hx161_3
            try clear hx166_0
            try clear hx166_1
            try clear hx166_2
            try clear hx166_3
            try clear p1
            try clear p160
            try clear p161
            try clear p166
            try clear p2
            try clear p6
            try clear q1
            try clear q160
            try clear q161
            try clear q166
            obtain ⟨x3_4, x6_4, rfl, HA, HK4, HO_3, HO_5, HB⟩ := hrel
            cases gk with
            | zero => exact absurd HA.out (by simp [spec_tableOf.l1])
            | succ k4 =>
             have H := HA.out
             clear HA
             simp only [spec_tableOf.l1] at H
             by_cases c19 : x6_4 < (t167.length : Int)
             ·rw [if_pos c19] at H
              have c19b0 : decide (x6_4 < (t167.length : Int)) = true := decide_eq_true c19
              clear c19
              by_cases c20 : 0 ≤ x6_4
              ·rw [if_pos c20] at H
               have c20b0 : decide (0 ≤ x6_4) = true := decide_eq_true c20
               clear c20
               by_cases c21 : 0 ≤ (rd t167 x6_4)
               ·rw [if_pos c21] at H
                have c21b0 : decide (0 ≤ (rd t167 x6_4)) = true := decide_eq_true c21
                clear c21
                by_cases c22 : (rd t167 x6_4) < (l0.length : Int)
                ·rw [if_pos c22] at H
                 have c22b0 : decide ((rd t167 x6_4) < (l0.length : Int)) = true := decide_eq_true c22
                 clear c22
                 by_cases c23 : ((rd_T59 l0 (rd t167 x6_4)).f1) = 8
                 ·rw [if_pos c23] at H
                  have c23b0 : (((rd_T59 l0 (rd t167 x6_4)).f1) == 8) = true := beq_iff_eq.mpr c23
                  have c23b1 : (((rd_T59 l0 (rd t167 x6_4)).f1) != 8) = false := bne_eq_false_iff_eq.mpr c23
                  clear c23
                  replace H := Option.bind_eq_some_iff.mp H
                  obtain ⟨t172, A240, H⟩ := H
                  replace H : (if x3_4.length < 4398046511104 then (spec_tableOf.l1 k4 l0 (x3_4 ++ [(⟨wrap64 (x4_1 + 1), t172, rd t167 x6_4, (rd_T59 l0 (rd t167 x6_4)).f2⟩ : S48)]) x4_1 t167 (wrap64 (x6_4 + 1))) else (none)) = some r := H
                  have A24 := am A240
                  clear A240
                  by_cases c25 : x3_4.length < 4398046511104
                  ·rw [if_pos c25] at H
                   have LMc25 := am c25
                   clear c25
                   obtain ⟨y176, hy176⟩ : ∃ y_ : List (S48), y_ = (x3_4 ++ [(⟨wrap64 (x4_1 + 1), t172, rd t167 x6_4, (rd_T59 l0 (rd t167 x6_4)).f2⟩ : S48)]) := ⟨_, rfl⟩
                   replace H : (spec_tableOf.l1 k4 l0 y176 x4_1 t167 (wrap64 (x6_4 + 1))) = some r := by first | (rw [hy176]; with_reducible exact H) | (have H2_ := (Option.bind_some _ _).symm.trans H; rw [hy176]; with_reducible exact H2_) | (have H2_ := (Option.bind_some _ _).symm.trans H; with_reducible exact H2_) | with_reducible exact H | (rw [hy176]; exact H) | exact H
                   have Ny176 := am hy176
                   clear hy176
                   have H' := am H
                   clear H
                   obtain ⟨Ao26, co26, eo26⟩ := Kd.R_slice HO_5.out
                   subst eo26
                   have p170 : 0 ≤ (x6_4 : Int) := of_decide_eq_true (uq)
                   have q170 : x6_4 < (t167.length : Int) := of_decide_eq_true (uq)
                   obtain ⟨ad170, e170, hx170_0⟩ := Kd.at_int (Kd.R_reads' HO_5.out).2.2 x6_4 p170 q170
                   cases e170
                   replace p170 := eq_true p170
                   replace q170 := eq_true q170
                   have p171 : 0 ≤ ((rd t167 x6_4) : Int) := of_decide_eq_true (uq)
                   have q171 : (rd t167 x6_4) < (l0.length : Int) := of_decide_eq_true (uq)
                   obtain ⟨ad171, e171, hx171_0, hx171_1, hx171_2, hx171_3⟩ := at_T59 HR0.out (rd t167 x6_4) p171 q171
                   obtain rfl : ad166 = ad171 := (by injection e171)
                   replace hx171_0 := cb HB.out hx171_0
                   replace hx171_1 := cb HB.out hx171_1
                   replace hx171_2 := cb HB.out hx171_2
                   replace hx171_3 := cb HB.out hx171_3
                   replace p171 := eq_true p171
                   replace q171 := eq_true q171
                   try go_wp2
                   replace HO_3 := am (Kd.R_drew HO_3.out)
                   replace HO_5 := am (Kd.R_drew HO_5.out)
                   replace HB := am (below_drew1 HB.out)
                   have p173 : 0 ≤ (x6_4 : Int) := of_decide_eq_true (uq)
                   have q173 : x6_4 < (t167.length : Int) := of_decide_eq_true (uq)
                   obtain ⟨ad173, e173, hx173_0⟩ := Kd.at_int (Kd.R_reads' HO_5.out).2.2 x6_4 p173 q173
                   obtain rfl : ad170 = ad173 := (by injection e173)
                   replace p173 := eq_true p173
                   replace q173 := eq_true q173
                   have p174 : 0 ≤ (x6_4 : Int) := of_decide_eq_true (uq)
                   have q174 : x6_4 < (t167.length : Int) := of_decide_eq_true (uq)
                   obtain ⟨ad174, e174, hx174_0⟩ := Kd.at_int (Kd.R_reads' HO_5.out).2.2 x6_4 p174 q174
                   obtain rfl : ad170 = ad174 := (by injection e174)
                   replace p174 := eq_true p174
                   replace q174 := eq_true q174
                   have p175 : 0 ≤ ((rd t167 x6_4) : Int) := of_decide_eq_true (uq)
                   have q175 : (rd t167 x6_4) < (l0.length : Int) := of_decide_eq_true (uq)
                   obtain ⟨ad175, e175, hx175_0, hx175_1, hx175_2, hx175_3⟩ := at_T59 HR0.out (rd t167 x6_4) p175 q175
                   have hw175_3 := hx175_3
                   have hw175_2 := hx175_2
                   have hw175_1 := hx175_1
                   have hw175_0 := hx175_0
                   obtain rfl : ad166 = ad175 := (by injection e175)
                   replace hx175_0 := cb HB.out hx175_0
                   replace hx175_1 := cb HB.out hx175_1
                   replace hx175_2 := cb HB.out hx175_2
                   replace hx175_3 := cb HB.out hx175_3
                   replace p175 := eq_true p175
                   replace q175 := eq_true q175
                   refine start_ (n := 22) (S := fun w' => w'.cell? (ad170.add (x6_4).toNat) = some (.int .i64 (rd t167 x6_4)) ∧ w'.cell? (ad170.add (x6_4).toNat) = some (.int .i64 (rd t167 x6_4)) ∧ w'.cell? (ad166.add (((rd t167 x6_4)).toNat * 4)) = some (.int .i64 ((rd_T59 l0 (rd t167 x6_4)).f0)) ∧ w'.cell? ⟨(ad166.add (((rd t167 x6_4)).toNat * 4)).block, (ad166.add (((rd t167 x6_4)).toNat * 4)).off + 1, none⟩ = some (.int .i64 ((rd_T59 l0 (rd t167 x6_4)).f1)) ∧ w'.cell? ⟨(ad166.add (((rd t167 x6_4)).toNat * 4)).block, (ad166.add (((rd t167 x6_4)).toNat * 4)).off + 2, none⟩ = some (.int .i64 ((rd_T59 l0 (rd t167 x6_4)).f2)) ∧ w'.cell? ⟨(ad166.add (((rd t167 x6_4)).toNat * 4)).block, (ad166.add (((rd t167 x6_4)).toNat * 4)).off + 3, none⟩ = some (.int .i64 ((rd_T59 l0 (rd t167 x6_4)).f3))) (ds := [19, 20]) #[false, false, false, false, false, false, false, false, false, false, false, false, false, false, false, false, false, false, false, false, false, false] (by kernel_rfl) rfl rfl ⟨hx173_0, hx174_0, ((HB.out.cell (World.block_lt_of_cell? w _ hw175_0)).trans hw175_0), ((HB.out.cell (World.block_lt_of_cell? w _ hw175_1)).trans hw175_1), ((HB.out.cell (World.block_lt_of_cell? w _ hw175_2)).trans hw175_2), ((HB.out.cell (World.block_lt_of_cell? w _ hw175_3)).trans hw175_3)⟩ (fun hHeld => ?_); refine with_tabW spec_tableOf.tab13 spec_tableOf.bits13 (fun HT_ HW_ => ?_)
                   generalize wr.drew = w27 at HO_3 HO_5 HB hx173_0 hx174_0 hx175_0 hx175_1 hx175_2 hx175_3 hHeld ⊢
                   refine pq (i := 0) (N := some 63) #[true, false, false, false, false, false, false, false, false, false, false, false, false, false, false, false, false, false, false, false, false, false] ?_
                   refine pq (i := 1) (N := some 64) #[true, true, false, false, false, false, false, false, false, false, false, false, false, false, false, false, false, false, false, false, false, false] ?_
                   refine pq (i := 2) (N := some 65) #[true, true, true, false, false, false, false, false, false, false, false, false, false, false, false, false, false, false, false, false, false, false] ?_
                   refine pq (i := 3) (N := some 66) #[true, true, true, true, false, false, false, false, false, false, false, false, false, false, false, false, false, false, false, false, false, false] ?_
                   refine pq (i := 4) (N := some 67) #[true, true, true, true, true, false, false, false, false, false, false, false, false, false, false, false, false, false, false, false, false, false] ?_
                   refine pq (i := 6) (N := some 69) #[true, true, true, true, true, false, true, false, false, false, false, false, false, false, false, false, false, false, false, false, false, false] ?_
                   refine pq (i := 7) (N := some 70) #[true, true, true, true, true, false, true, true, false, false, false, false, false, false, false, false, false, false, false, false, false, false] ?_
                   refine pq (i := 8) (N := some 71) #[true, true, true, true, true, false, true, true, true, false, false, false, false, false, false, false, false, false, false, false, false, false] ?_
                   refine pq (i := 10) (N := some 73) #[true, true, true, true, true, false, true, true, true, false, true, false, false, false, false, false, false, false, false, false, false, false] ?_
                   refine pq (i := 11) (N := some 74) #[true, true, true, true, true, false, true, true, true, false, true, true, false, false, false, false, false, false, false, false, false, false] ?_
                   refine pq (i := 12) (N := some 75) #[true, true, true, true, true, false, true, true, true, false, true, true, true, false, false, false, false, false, false, false, false, false] ?_
                   refine pq (i := 13) (N := some 76) #[true, true, true, true, true, false, true, true, true, false, true, true, true, true, false, false, false, false, false, false, false, false] ?_
                   refine take_ (i := 9) (N := some 72) (v := ?_) (a' := ?_) #[true, true, true, true, true, false, true, true, true, true, true, true, true, true, false, false, false, false, false, false, false, false] rfl rfl (take_ofW HT_.out HW_.out (by kernel_rfl)) (fun _ _ _ h => h) (Or.inl ⟨by rfl, ?_⟩) hHeld ?_ ?_
                   rotate_left
                   ·rintro w' ⟨s0, s1, s2, s3, s4, s5⟩
                    go_simp
                    with_reducible rfl
                   rotate_left
                   ·exact sa
                   refine take_ (i := 14) (N := some 77) (v := ?_) (a' := ?_) #[true, true, true, true, true, false, true, true, true, true, true, true, true, true, true, false, false, false, false, false, false, false] rfl rfl (take_ofW HT_.out HW_.out (by kernel_rfl)) (fun _ _ _ h => h) (Or.inl ⟨by rfl, ?_⟩) hHeld ?_ ?_
                   rotate_left
                   ·rintro w' ⟨s0, s1, s2, s3, s4, s5⟩
                    go_simp
                    with_reducible rfl
                   rotate_left
                   ·exact sa
                   refine pq (i := 15) (N := some 78) #[true, true, true, true, true, false, true, true, true, true, true, true, true, true, true, true, false, false, false, false, false, false] ?_
                   refine pq (i := 16) (N := some 79) #[true, true, true, true, true, false, true, true, true, true, true, true, true, true, true, true, true, false, false, false, false, false] ?_
                   refine take_ (i := 17) (N := some 80) (v := ?_) (a' := ?_) #[true, true, true, true, true, false, true, true, true, true, true, true, true, true, true, true, true, true, false, false, false, false] rfl rfl (take_ofW HT_.out HW_.out (by kernel_rfl)) (fun _ _ _ h => h) (Or.inl ⟨by rfl, ?_⟩) hHeld ?_ ?_
                   rotate_left
                   ·rintro w' ⟨s0, s1, s2, s3, s4, s5⟩
                    go_simp
                    with_reducible rfl
                   rotate_left
                   ·exact sa
                   refine one_ (i := 5) (N := some 68) #[true, true, true, true, true, true, true, true, true, true, true, true, true, true, true, true, true, true, false, false, false, false] rfl rfl (one_of HT_.out (by kernel_rfl)) (by decide) (fun K hK => ?_)
                   refine goes_ Try.func65 (by kernel_rfl) rfl #[.slice (some ad166) l0.length c0, .int .i64 x4_1] (by rfl) rfl rfl (aq) ?_
                   with_reducible refine (spec_blockEnd.calls k4 _ _ l0 x4_1 t172 _ ?side1 ?side2 A24.out).mono ?_
                   (case side1 => exact cq (Kd.C_below HR0.out HB.out))
                   (case side2 => exact HC0.out)
                   rintro e w' ⟨rfl, ⟨nd, rfl⟩⟩
                   refine ⟨_, rfl, ?_⟩
                   refine hK.out _ _ ⟨hHeld.1, hHeld.2.1, ((HB.out.cell (World.block_lt_of_cell? w _ hw175_0)).trans hw175_0), ((HB.out.cell (World.block_lt_of_cell? w _ hw175_1)).trans hw175_1), ((HB.out.cell (World.block_lt_of_cell? w _ hw175_2)).trans hw175_2), ((HB.out.cell (World.block_lt_of_cell? w _ hw175_3)).trans hw175_3)⟩ (fun hHeld => ?_)
                   clear hK K
                   refine norm_ (a' := ?_) ?_ ?_
                   rotate_left
                   ·show Act.put _ (some 68) _ = _
                    simp only [Act.put, List.setIfInBounds_toArray, List.set_cons_zero, List.set_cons_succ, i64_w, i32_w]
                    rfl
                   refine pq (i := 18) (N := some 81) #[true, true, true, true, true, true, true, true, true, true, true, true, true, true, true, true, true, true, true, false, false, false] ?_
                   refine last_ (i := 19) (N := some 82) #[true, true, true, true, true, true, true, true, true, true, true, true, true, true, true, true, true, true, true, true, false, false] rfl rfl (one_of HT_.out (by kernel_rfl)) (by decide) (fun K hK => ?_)
                   refine value_ (w1 := ?_) (v := ?_) (by rfl) rfl ?_ ?_
                   rotate_left 2
                   ·go_simp
                    constructor
                    ·rfl
                    ·rfl
                   refine hK.out _ _ ?_
                   clear hK K
                   refine norm_ (a' := ?_) ?_ ?_
                   rotate_left
                   ·show Act.put _ (some 82) _ = _
                    simp only [Act.put, List.setIfInBounds_toArray, List.set_cons_zero, List.set_cons_succ, i64_w, i32_w]
                    rfl
                   refine last_ (i := 20) (N := some 83) #[true, true, true, true, true, true, true, true, true, true, true, true, true, true, true, true, true, true, true, true, true, false] rfl rfl (one_of HT_.out (by kernel_rfl)) (by decide) (fun K hK => ?_)
                   refine Kd.R_append_step k48 (w0 := w) w.heap.size (by rfl) (.tmp 63) (.tmp 82) 28 48 (.agg #[(.int .i64 0), (.int .i64 0), (.int .i64 0), (.int .i64 0)]) 32 rfl Try.underlying28 info48 rfl (by decide) (by omega) u3 x3_4 (⟨wrap64 (x4_1 + 1), t172, rd t167 x6_4, (rd_T59 l0 (rd t167 x6_4)).f2⟩ : S48) [.int .i64 (wrap64 (x4_1 + 1)), .int .i64 t172, .int .i64 (rd t167 x6_4), .int .i64 ((rd_T59 l0 (rd t167 x6_4)).f2)] (fun _ => True) (fun _ => False) rfl rfl ?aP (fun _ hk => hk.elim) ?aF ?aO ?aB ?aS ?aL ?_
                   (case aP => exact k48_mkM _ _ _ (⟨wrap64 (x4_1 + 1), t172, rd t167 x6_4, (rd_T59 l0 (rd t167 x6_4)).f2⟩ : S48))
                   (case aB => exact (bq))
                   (case aF => exact (fun _ _ => trivial))
                   (case aO => exact (rq HO_3.out))
                   (case aS => exact (below_size (bq)))
                   (case aL => have := LMc25.out; omega)
                   intro v177 w28 ho hb hg hat
                   rw [← Ny176.out] at ho
                   have n0_ := am (Kd.R_over' (rq HO_5.out) (Kd.R_typed (rq HO_3.out)) (by decide) hg)
                   have n1_ := am (hb)
                   have n2_ := am (ho)
                   clear HO_5
                   clear HB
                   clear HO_3
                   have HO_5 := n0_
                   have HB := n1_
                   have HO178 := n2_
                   clear n0_ n1_ n2_
                   clear ho hb hg hat
                   refine hK.out _ _ ?_
                   clear hK K
                   refine norm_ (a' := ?_) ?_ ?_
                   rotate_left
                   ·show Act.put _ (some 83) _ = _
                    simp only [Act.put, List.setIfInBounds_toArray, List.set_cons_zero, List.set_cons_succ, i64_w, i32_w]
                    rfl
                   refine pq (i := 21) (N := some 3) #[true, true, true, true, true, true, true, true, true, true, true, true, true, true, true, true, true, true, true, true, true, true] ?_
                   refine done_ (done_of HT_.out (by kernel_rfl)) ?_
                   try go_wp2
                   go_roundg k4
                   case measure => have := HK1.out; have := HJ4.out; have := HJ8.out; have := HK4.out; omega
                   case rel => exact ⟨(y176), (wrap64 (x6_4 + 1)), (sq), H', ⟨by have := HK1.out; have := HJ4.out; have := HJ8.out; have := HK4.out; omega⟩, ⟨rq HO178.out⟩, ⟨rq HO_5.out⟩, ⟨bq⟩⟩
                  ·rw [if_neg c25] at H
                   exact absurd H (by simp)
                 ·rw [if_neg c23] at H
                  have c23b0 : (((rd_T59 l0 (rd t167 x6_4)).f1) == 8) = false := beq_eq_false_iff_ne.mpr c23
                  have c23b1 : (((rd_T59 l0 (rd t167 x6_4)).f1) != 8) = true := bne_iff_ne.mpr c23
                  have H' := am H
                  clear H
                  obtain ⟨Ao29, co29, eo29⟩ := Kd.R_slice HO_5.out
                  subst eo29
                  have p170 : 0 ≤ (x6_4 : Int) := of_decide_eq_true (uq)
                  have q170 : x6_4 < (t167.length : Int) := of_decide_eq_true (uq)
                  obtain ⟨ad170, e170, hx170_0⟩ := Kd.at_int (Kd.R_reads' HO_5.out).2.2 x6_4 p170 q170
                  cases e170
                  replace p170 := eq_true p170
                  replace q170 := eq_true q170
                  have p171 : 0 ≤ ((rd t167 x6_4) : Int) := of_decide_eq_true (uq)
                  have q171 : (rd t167 x6_4) < (l0.length : Int) := of_decide_eq_true (uq)
                  obtain ⟨ad171, e171, hx171_0, hx171_1, hx171_2, hx171_3⟩ := at_T59 HR0.out (rd t167 x6_4) p171 q171
                  obtain rfl : ad166 = ad171 := (by injection e171)
                  replace hx171_0 := cb HB.out hx171_0
                  replace hx171_1 := cb HB.out hx171_1
                  replace hx171_2 := cb HB.out hx171_2
                  replace hx171_3 := cb HB.out hx171_3
                  replace p171 := eq_true p171
                  replace q171 := eq_true q171
                  go_wp2
                  go_roundg k4
                  case measure => have := HK1.out; have := HJ4.out; have := HJ8.out; have := HK4.out; omega
                  case rel => exact ⟨(x3_4), (wrap64 (x6_4 + 1)), (sq), H', ⟨by have := HK1.out; have := HJ4.out; have := HJ8.out; have := HK4.out; omega⟩, ⟨rq HO_3.out⟩, ⟨rq HO_5.out⟩, ⟨bq⟩⟩
                ·rw [if_neg c22] at H
                 exact absurd H (by simp)
               ·rw [if_neg c21] at H
                exact absurd H (by simp)
              ·rw [if_neg c20] at H
               exact absurd H (by simp)
             ·rw [if_neg c19] at H
              have c19b0 : decide (x6_4 < (t167.length : Int)) = false := decide_eq_false c19
              clear c19
              have H' := am H
              clear H
              obtain ⟨Ao30, co30, eo30⟩ := Kd.R_slice HO_5.out
              subst eo30
              go_wp2
              go_roundg k4
              case measure => have := HK1.out; have := HJ4.out; have := HJ8.out; have := HK4.out; omega
              case rel => exact ⟨(x3_4), (wrap64 (x4_1 - 1)), (sq), H', ⟨by have := HK1.out; have := HJ4.out; have := HJ8.out; have := HK4.out; omega⟩, ⟨rq HO_3.out⟩, ⟨bq⟩⟩
          ·rw [if_neg c16] at H
           have c16b0 : (((rd_T59 l0 x4_1).f1) == 7) = false := beq_eq_false_iff_ne.mpr c16
           have c16b1 : (((rd_T59 l0 x4_1).f1) != 7) = true := bne_iff_ne.mpr c16
           have H' := am H
           clear H
           have p166 : 0 ≤ (x4_1 : Int) := of_decide_eq_true (uq)
           have q166 : x4_1 < (l0.length : Int) := of_decide_eq_true (uq)
           obtain ⟨ad166, e166, hx166_0, hx166_1, hx166_2, hx166_3⟩ := at_T59 HR0.out x4_1 p166 q166
           cases e166
           replace hx166_0 := cb HB.out hx166_0
           replace hx166_1 := cb HB.out hx166_1
           replace hx166_2 := cb HB.out hx166_2
           replace hx166_3 := cb HB.out hx166_3
           replace p166 := eq_true p166
           replace q166 := eq_true q166
           go_wp2
           go_roundg kj8
           case measure => have := HK1.out; have := HJ4.out; have := HJ8.out; omega
           case rel => exact ⟨(x3_8), (wrap64 (x4_1 - 1)), (sq), H', ⟨by have := HK1.out; have := HJ4.out; have := HJ8.out; omega⟩, ⟨rq HO_3.out⟩, ⟨bq⟩⟩
         ·rw [if_neg c15] at H
          exact absurd H (by simp)
        ·rw [if_neg c14] at H
         exact absurd H (by simp)
   ·rw [if_neg c4] at H
    have c4b0 : decide (0 ≤ x4_1) = false := decide_eq_false c4
    clear c4
    obtain rfl := Option.some.inj H
    go_wp2
    go_ret
    exact ⟨_, Y0, rq HO_3.out, bq⟩
def spec_TableOf.f (k : Nat) (l0_0 : List (S98)) (l1 : List (S59)) : Option ((List (S48))) := (spec_validProgram.f k l0_0 l1).bind fun t180 => (if t180 = true then ((spec_tableOf.f k l1).bind fun t181 => (some t181)) else (some ([] : List (S48))))
set_option maxHeartbeats 8000000 in
set_option maxRecDepth 100000 in
theorem spec_TableOf.calls (k : Nat) (A0_0 : Option Addr) (c0_0 : Nat) (l0_0 : List (S98)) (A1 : Option Addr) (c1 : Nat) (l1 : List (S59)) (r : List (S48)) (w : World) (hr0_0 : Kd.C k98 w A0_0 l0_0.length l0_0) (hc0_0 : l0_0.length ≤ c0_0) (hr1 : Kd.C k59 w A1 l1.length l1) (hc1 : l1.length ≤ c1) (h : spec_TableOf.f k l0_0 l1 = some r) :
  Calls Try.prog 9 #[.agg #[.slice A0_0 l0_0.length c0_0], .slice A1 l1.length c1] w fun e w' => ∃ v0_ : Value, e = .returned (v0_) ∧ Kd.R k48 48 w' w.heap.size (fun _ => True) v0_ r ∧ Below w.heap.size w w' := by
 have hu32 := Try.underlying32
 have HR0_0 := am hr0_0
 have HC0_0 := am hc0_0
 clear hr0_0 hc0_0
 have HR1 := am hr1
 have HC1 := am hc1
 clear hr1 hc1
 have HB := am (Below.refl w.heap.size w)
 have H : ((spec_validProgram.f k l0_0 l1).bind fun t180 => (if t180 = true then ((spec_tableOf.f k l1).bind fun t181 => (some t181)) else (some ([] : List (S48))))) = some r := h
 clear h
 replace H := Option.bind_eq_some_iff.mp H
 obtain ⟨t180, A30, H⟩ := H
 replace H : (if t180 = true then ((spec_tableOf.f k l1).bind fun t181 => (some t181)) else (some ([] : List (S48)))) = some r := H
 have A3 := am A30
 clear A30
 by_cases c4 : t180 = true
 ·subst c4
  have H1 : ((spec_tableOf.f k l1).bind fun t181 => (some t181)) = some r := by rw [if_pos rfl] at H; exact H
  clear H
  have H := H1
  clear H1
  replace H := Option.bind_eq_some_iff.mp H
  obtain ⟨t181, A50, H⟩ := H
  replace H : (some t181) = some r := H
  have A5 := am A50
  clear A50
  obtain rfl := Option.some.inj H
  go_enter Try.func9, Try.ntmps9
  go_wp2_with (first | ((with_reducible refine gate_dst (N := 2) rfl ?_); refine bE (N := 2) (cs := #[.slice A0_0 l0_0.length c0_0]) (t := 32) ?_; intro gb179 hg w6 hbox hb; have BK179 := am (hbox); have GW179 := am ((Y1 : w.heap.size ≤ gb179)); have GE179 := am ((Y1 : w.heap.size ≤ gb179)); replace HB := am (below_step (bq) hb); clear hb hbox hg; have hcz7_0 := bc0 BK179.out; have hfz7_0 := blk_frozen BK179.out 0) | ((with_reducible refine gate_callee (f := 29) rfl ?_); refine gL (some 7) Try.func29 #[.agg #[.slice A0_0 l0_0.length c0_0], .slice A1 l1.length c1] ?_; (with_reducible refine (spec_validProgram.calls k _ _ l0_0 _ _ l1 true _ ?side1 ?side2 ?side3 ?side4 A3.out).mono ?_); (case side1 => exact cq (Kd.C_below HR0_0.out HB.out)); (case side2 => exact HC0_0.out); (case side3 => exact cq (Kd.C_below HR1.out HB.out)); (case side4 => exact HC1.out); rintro e w8 ⟨rfl, hb⟩; refine ⟨_, rfl, ?_⟩; replace BK179 := am (blk_below (g := gb179) (o := .cells #[.slice A0_0 l0_0.length c0_0] 32 (0, 0)) (kq BK179.out) hb); replace HB := am (below_step (Y15) hb); (try clear hb); (try clear hb2); (try clear hk); (try clear hi)) | ((with_reducible refine gate_callee (f := 30) rfl ?_); refine gL (some 10) Try.func30 #[.slice A1 l1.length c1] ?_; (with_reducible refine (spec_tableOf.calls k _ _ l1 t181 _ ?side1 ?side2 A5.out).mono ?_); (case side1 => exact cq (Kd.C_below HR1.out HB.out)); (case side2 => exact HC1.out); rintro e w9 ⟨v182, rfl, ho0, hb⟩; refine ⟨_, rfl, ?_⟩; have HO183 := am (Kd.R_lower ho0 (below_size (Y15))); replace BK179 := am (blk_below (g := gb179) (o := .cells #[.slice A0_0 l0_0.length c0_0] 32 (0, 0)) (kq BK179.out) hb); replace HB := am (below_step (Y15) hb); (try clear hb); (try clear hb2); (try clear hk); (try clear hi); (try clear ho0)))
  go_ret
  exact ⟨_, Y0, rq HO183.out, Y15⟩
 ·replace c4 := Bool.eq_false_iff.mpr c4
  subst c4
  have H1 : (some ([] : List (S48))) = some r := by rw [if_neg (show ¬ (false = true) by decide)] at H; exact H
  clear H
  have H := H1
  clear H1
  obtain rfl := Option.some.inj H
  go_enter Try.func9, Try.ntmps9
  go_wp2_with (first | ((with_reducible refine gate_dst (N := 2) rfl ?_); refine bE (N := 2) (cs := #[.slice A0_0 l0_0.length c0_0]) (t := 32) ?_; intro gb179 hg w10 hbox hb; have BK179 := am (hbox); have GW179 := am ((Y1 : w.heap.size ≤ gb179)); have GE179 := am ((Y1 : w.heap.size ≤ gb179)); replace HB := am (below_step (bq) hb); clear hb hbox hg; have hcz11_0 := bc0 BK179.out; have hfz11_0 := blk_frozen BK179.out 0) | ((with_reducible refine gate_callee (f := 29) rfl ?_); refine gL (some 7) Try.func29 #[.agg #[.slice A0_0 l0_0.length c0_0], .slice A1 l1.length c1] ?_; (with_reducible refine (spec_validProgram.calls k _ _ l0_0 _ _ l1 false _ ?side1 ?side2 ?side3 ?side4 A3.out).mono ?_); (case side1 => exact cq (Kd.C_below HR0_0.out HB.out)); (case side2 => exact HC0_0.out); (case side3 => exact cq (Kd.C_below HR1.out HB.out)); (case side4 => exact HC1.out); rintro e w12 ⟨rfl, hb⟩; refine ⟨_, rfl, ?_⟩; replace BK179 := am (blk_below (g := gb179) (o := .cells #[.slice A0_0 l0_0.length c0_0] 32 (0, 0)) (kq BK179.out) hb); replace HB := am (below_step (Y15) hb); (try clear hb); (try clear hb2); (try clear hk); (try clear hi)))
  go_ret
  exact ⟨_, Y0, by first | exact Kd.R_nil _ _ _ _ _ | exact Kd.N_nil _ _ _ _ _ | exact Kd.V_nil _ _ _ _ _ | exact Kd.Q_nil _ _ _ _ _ | exact Kd.S_nil _ _ _ _ _, Y15⟩
def laws_toClass.f (a0_0 : ByteArray) (a0_1 : Int) : Option (ByteArray × Int) := some (a0_0, a0_1)
set_option maxHeartbeats 8000000 in
set_option maxRecDepth 100000 in
theorem laws_toClass.calls (a0_0 : ByteArray) (a0_1 : Int) (r1 : ByteArray) (r2 : Int) (w : World) (h : laws_toClass.f a0_0 a0_1 = some (r1, r2)) :
  Calls Try.prog 67 #[.agg #[.string a0_0, .int .i64 a0_1]] w fun e w' => e = .returned (.agg #[.string r1, .int .i64 r2]) ∧ Below w.heap.size w w' := by
 have hu97 := Try.underlying97
 have hu98 := Try.underlying98
 have HB := am (Below.refl w.heap.size w)
 have H : (some (a0_0, a0_1)) = some (r1, r2) := h
 clear h
 simp only [Option.some.injEq, Prod.mk.injEq] at H
 obtain ⟨rfl, rfl⟩ := H
 go_enter Try.func67, Try.ntmps67
 go_wp2_with (first | ((with_reducible refine gate_dst (N := 1) rfl ?_); refine bE (N := 1) (cs := #[.string a0_0, .int .i64 a0_1]) (t := 97) ?_; intro gb184 hg w2 hbox hb; have BK184 := am (hbox); have GW184 := am ((Y1 : w.heap.size ≤ gb184)); have GE184 := am ((Y1 : w.heap.size ≤ gb184)); replace HB := am (below_step (bq) hb); clear hb hbox hg) | ((with_reducible refine gate_dst (N := 2) rfl ?_); refine bE (N := 2) (cs := #[.string (⟨#[]⟩ : ByteArray), .int .i64 0]) (t := 98) ?_; intro gb185 hg w3 hbox hb; have BK185 := am (hbox); have GW185 := am ((Y40 : w.heap.size ≤ gb185)); have GE185 := am ((Y40 : w.heap.size ≤ gb185)); have NB184_185 := am ((by rw [hg]; exact Nat.ne_of_lt (blk_lt (g := gb184) (o := .cells #[.string a0_0, .int .i64 a0_1] 97 (0, 0)) (kq BK184.out)) : gb184 ≠ gb185)); have NB185_184 := am ((by rw [hg]; exact Nat.ne_of_gt (blk_lt (g := gb184) (o := .cells #[.string a0_0, .int .i64 a0_1] 97 (0, 0)) (kq BK184.out)) : gb185 ≠ gb184)); replace BK184 := am (blk_below (g := gb184) (o := .cells #[.string a0_0, .int .i64 a0_1] 97 (0, 0)) (kq BK184.out) hb); replace HB := am (below_step (by repeat (first | (with_reducible first | exact HB.out | apply below_alloc | apply pw_below_drewN | apply below_drew1 | refine below_set ?_ GE184.out) | exact HB.out)) hb); clear hb hbox hg) | ((with_reducible refine gate_dst (N := 3) rfl ?_); refine bE (N := 3) (cs := #[.string (⟨#[]⟩ : ByteArray), .int .i64 0]) (t := 98) ?_; intro gb186 hg w4 hbox hb; have BK186 := am (hbox); have GW186 := am ((Y41 : w.heap.size ≤ gb186)); have GE186 := am ((Y41 : w.heap.size ≤ gb186)); have NB184_186 := am ((by rw [hg]; exact Nat.ne_of_lt (blk_lt (g := gb184) (o := .cells #[.string a0_0, .int .i64 a0_1] 97 (0, 0)) (kq BK184.out)) : gb184 ≠ gb186)); have NB186_184 := am ((by rw [hg]; exact Nat.ne_of_gt (blk_lt (g := gb184) (o := .cells #[.string a0_0, .int .i64 a0_1] 97 (0, 0)) (kq BK184.out)) : gb186 ≠ gb184)); have NB185_186 := am ((by rw [hg]; exact Nat.ne_of_lt (blk_lt (g := gb185) (o := .cells #[.string (⟨#[]⟩ : ByteArray), .int .i64 0] 98 (0, 0)) (kq BK185.out)) : gb185 ≠ gb186)); have NB186_185 := am ((by rw [hg]; exact Nat.ne_of_gt (blk_lt (g := gb185) (o := .cells #[.string (⟨#[]⟩ : ByteArray), .int .i64 0] 98 (0, 0)) (kq BK185.out)) : gb186 ≠ gb185)); replace BK184 := am (blk_below (g := gb184) (o := .cells #[.string a0_0, .int .i64 a0_1] 97 (0, 0)) (kq BK184.out) hb); replace BK185 := am (blk_below (g := gb185) (o := .cells #[.string (⟨#[]⟩ : ByteArray), .int .i64 0] 98 (0, 0)) (kq BK185.out) hb); replace HB := am (below_step (by repeat (first | (with_reducible first | exact HB.out | apply below_alloc | apply pw_below_drewN | apply below_drew1 | refine below_set ?_ GE184.out | refine below_set ?_ GE185.out) | exact HB.out)) hb); clear hb hbox hg; have hnb5 := NB184_185.out; have hnc5 := NB185_184.out; have hnb6 := NB184_186.out; have hnc6 := NB186_184.out; have hcz7_0 := bc0 BK184.out; have hcz7_1 := bc1 BK184.out; have hfz7_0 := blk_frozen BK184.out 0; have hfz7_1 := blk_frozen BK184.out 1; have hnb8 := NB186_185.out; have hnc8 := NB185_186.out; have hcz9_0 := bc0 BK186.out; have hcz9_1 := bc1 BK186.out; have hfz9_0 := blk_frozen BK186.out 0; have hfz9_1 := blk_frozen BK186.out 1; have hcz10_0 := bc0 BK185.out; have hcz10_1 := bc1 BK185.out; have hfz10_0 := blk_frozen BK185.out 0; have hfz10_1 := blk_frozen BK185.out 1))
 refine bodyPost_ret (results_cell_row rfl _ _ gb185 98 #[.string a0_0, .int .i64 a0_1] (0, 0) _ rfl (by (with_reducible repeat (first | refine blk_drewN ?_ _ | refine blk_drew ?_ | refine blk_alloc ?_ _)); refine blk_put (cs := #[.string a0_0, .int .i64 0]) ?_ 1 _ rfl; (with_reducible repeat (first | refine blk_drewN ?_ _ | refine blk_drew ?_ | refine blk_alloc ?_ _)); refine blk_put (cs := #[.string (⟨#[]⟩ : ByteArray), .int .i64 0]) ?_ 0 _ rfl; (with_reducible repeat (first | refine blk_drewN ?_ _ | refine blk_drew ?_ | refine blk_alloc ?_ _)); refine blk_far ?_ NB185_186.out _; (with_reducible repeat (first | refine blk_drewN ?_ _ | refine blk_drew ?_ | refine blk_alloc ?_ _)); refine blk_far ?_ NB185_186.out _; (with_reducible repeat (first | refine blk_drewN ?_ _ | refine blk_drew ?_ | refine blk_alloc ?_ _)); exact BK185.out) Try.underlying98 rfl (by kernel_rfl)) rfl ?_
 exact ⟨Y0, by repeat (first | (with_reducible first | exact HB.out | apply below_alloc | apply pw_below_drewN | apply below_drew1 | refine below_set ?_ GE184.out | refine below_set ?_ GE185.out | refine below_set ?_ GE186.out) | exact HB.out)⟩
def laws_toClassS.l0 : Nat → List (S97) → List (S98) → Int → Option ((List (S98)))
 | 0, _, _, _ => none
 | k + 1, x0, x3, x4 => if x4 < (x0.length : Int) then (if 0 ≤ x4 then ((laws_toClass.f ((rd_T97 x0 x4).f0) ((rd_T97 x0 x4).f1)).bind fun bt191 => (if x4 < (x3.length : Int) then (laws_toClassS.l0 k x0 (x3.set (x4 : Int).toNat (⟨bt191.1, bt191.2⟩ : S98)) (wrap64 (x4 + 1))) else (none))) else (none)) else (some x3)
def laws_toClassS.f (k : Nat) (l0 : List (S97)) : Option ((List (S98))) := if 0 ≤ (l0.length : Int) then (if ((l0.length : Int) : Int).toNat ≤ 11728124029610 then (laws_toClassS.l0 k l0 (List.replicate ((l0.length : Int) : Int).toNat z98) 0) else (none)) else (none)
set_option maxHeartbeats 8000000 in
set_option maxRecDepth 100000 in
theorem laws_toClassS.calls (k : Nat) (A0 : Option Addr) (c0 : Nat) (l0 : List (S97)) (r : List (S98)) (w : World) (hr0 : Kd.C k97 w A0 l0.length l0) (hc0 : l0.length ≤ c0) (h : laws_toClassS.f k l0 = some r) :
  Calls Try.prog 31 #[.slice A0 l0.length c0] w fun e w' => ∃ v0_ : Value, e = .returned (v0_) ∧ Kd.R k98 98 w' w.heap.size (fun _ => True) v0_ r ∧ Below w.heap.size w w' := by
 have hu97 := Try.underlying97
 have hu98 := Try.underlying98
 have HR0 := am hr0
 have HC0 := am hc0
 clear hr0 hc0
 have HB := am (Below.refl w.heap.size w)
 have H : (if 0 ≤ (l0.length : Int) then (if ((l0.length : Int) : Int).toNat ≤ 11728124029610 then (laws_toClassS.l0 k l0 (List.replicate ((l0.length : Int) : Int).toNat z98) 0) else (none)) else (none)) = some r := h
 clear h
 by_cases c2 : 0 ≤ (l0.length : Int)
 ·rw [if_pos c2] at H
  have c2b0 := eq_true c2
  have c2b1 : decide (0 ≤ (l0.length : Int)) = true := decide_eq_true c2
  clear c2
  by_cases c3 : ((l0.length : Int) : Int).toNat ≤ 11728124029610
  ·rw [if_pos c3] at H
   have c3b0 := eq_true c3
   have c3b1 : decide (((l0.length : Int) : Int).toNat ≤ 11728124029610) = true := decide_eq_true c3
   clear c3
   obtain ⟨y187, hy187⟩ : ∃ y_ : List (S98), y_ = (List.replicate ((l0.length : Int) : Int).toNat z98) := ⟨_, rfl⟩
   replace H : (laws_toClassS.l0 k l0 y187 0) = some r := by first | (rw [hy187]; with_reducible exact H) | (have H2_ := (Option.bind_some _ _).symm.trans H; rw [hy187]; with_reducible exact H2_) | (have H2_ := (Option.bind_some _ _).symm.trans H; with_reducible exact H2_) | with_reducible exact H | (rw [hy187]; exact H) | exact H
   have Ny187 := am hy187
   clear hy187
   have H' := am H
   clear H
   go_enter Try.func31, Try.ntmps31
   go_wp2_with (first | ((with_reducible refine gate_dst (N := 7) rfl ?_); refine Kd.R_make k98 _ 98 rfl (N := 7) rfl 30 _ _ rfl (l0.length : Int) rfl rfl Try.underlying30 (.agg #[(.string ⟨#[]⟩), (.int .i64 0)]) 24 info98 rfl (by decide) (by omega) z98 (ok := fun _ => True) (okp := fun _ => True) (k98_mkM _ _ _ z98 ) (fun _ hk => hk) trivial (of_decide_eq_true (uq)) (Nat.le_trans (Nat.mul_le_mul_right _ (of_decide_eq_true (uq) : (l0.length : Int).toNat ≤ 11728124029610)) (by omega)) (Below.refl _ _) (Nat.le_refl _) ?_; intro v188 w4 ho5 hb hg_ hnew_; clear hg_ hnew_; (first | rw [← Ny187.out] at ho5 | (simp only [Int.reduceToNat] at ho5; rw [← Ny187.out] at ho5)); have HO189 := am (Kd.R_lower ho5 (below_size (bq))); replace HB := am (below_step (bq) hb); clear hb ho5))
   go_loopg [4] k (fun kq v4 w' => ∃ (x3_1 : List (S98)) (x4_1 : Int), v4 = .int .i64 x4_1 ∧ Aside0 (laws_toClassS.l0 kq l0 x3_1 x4_1 = some r) ∧ Aside0 (kq ≤ k) ∧ Aside0 (Kd.R k98 98 w' w.heap.size (fun _ => True) v188 x3_1) ∧ Aside0 (Below w.heap.size w w'))
   case atStart => exact ⟨(y187), (0), (sq), H', ⟨Nat.le_refl _⟩, ⟨rq HO189.out⟩, ⟨bq⟩⟩
   case round =>
    clear H'
    try clear c2
    try clear c2b0
    try clear c2b1
    try clear p2
    try clear c3
    try clear c3b0
    try clear c3b1
    obtain ⟨x3_1, x4_1, rfl, HA, HK1, HO_3, HB⟩ := hrel
    cases gk with
    | zero => exact absurd HA.out (by simp [laws_toClassS.l0])
    | succ k1 =>
     have H := HA.out
     clear HA
     simp only [laws_toClassS.l0] at H
     by_cases c6 : x4_1 < (l0.length : Int)
     ·rw [if_pos c6] at H
      have c6b0 : decide (x4_1 < (l0.length : Int)) = true := decide_eq_true c6
      clear c6
      by_cases c7 : 0 ≤ x4_1
      ·rw [if_pos c7] at H
       have c7b0 : decide (0 ≤ x4_1) = true := decide_eq_true c7
       clear c7
       replace H := Option.bind_eq_some_iff.mp H
       obtain ⟨⟨t191, t192⟩, A80, H⟩ := H
       replace H : (if x4_1 < (x3_1.length : Int) then (laws_toClassS.l0 k1 l0 (x3_1.set (x4_1 : Int).toNat (⟨t191, t192⟩ : S98)) (wrap64 (x4_1 + 1))) else (none)) = some r := H
       have A8 := am A80
       clear A80
       by_cases c9 : x4_1 < (x3_1.length : Int)
       ·rw [if_pos c9] at H
        have c9b0 : decide (x4_1 < (x3_1.length : Int)) = true := decide_eq_true c9
        clear c9
        obtain ⟨y193, hy193⟩ : ∃ y_ : List (S98), y_ = (x3_1.set (x4_1 : Int).toNat (⟨t191, t192⟩ : S98)) := ⟨_, rfl⟩
        replace H : (laws_toClassS.l0 k1 l0 y193 (wrap64 (x4_1 + 1))) = some r := by first | (rw [hy193]; with_reducible exact H) | (have H2_ := (Option.bind_some _ _).symm.trans H; rw [hy193]; with_reducible exact H2_) | (have H2_ := (Option.bind_some _ _).symm.trans H; with_reducible exact H2_) | with_reducible exact H | (rw [hy193]; exact H) | exact H
        have Ny193 := am hy193
        clear hy193
        have H' := am H
        clear H
        have p190 : 0 ≤ (x4_1 : Int) := of_decide_eq_true (uq)
        have q190 : x4_1 < (l0.length : Int) := of_decide_eq_true (uq)
        obtain ⟨ad190, e190, hx190_0, hx190_1⟩ := at_T97 HR0.out x4_1 p190 q190
        cases e190
        replace hx190_0 := cb HB.out hx190_0
        replace hx190_1 := cb HB.out hx190_1
        replace p190 := eq_true p190
        replace q190 := eq_true q190
        go_wp2_with (first | ((with_reducible refine gate_callee (f := 67) rfl ?_); refine gL (some 20) Try.func67 #[.agg #[.string ((rd_T97 l0 x4_1).f0), .int .i64 ((rd_T97 l0 x4_1).f1)]] ?_; (with_reducible refine (laws_toClass.calls ((rd_T97 l0 x4_1).f0) ((rd_T97 l0 x4_1).f1) t191 t192 _ A8.out).mono ?_); rintro e w11 ⟨rfl, hb⟩; refine ⟨_, rfl, ?_⟩; replace HO_3 := am (Kd.R_below (rq HO_3.out) hb); replace HB := am (below_step (bq) hb); (try clear hb); (try clear hb2); (try clear hk); (try clear hi); have p10 : 0 ≤ (x4_1 : Int) := of_decide_eq_true (uq); have q10 : (x4_1 : Int) < ((x3_1.length : Int) : Int) := of_decide_eq_true (uq); obtain ⟨go10, co10, eo10, gb10, gl10, cl10, HG10⟩ := Kd.R_form HO_3.out (by omega); (first | cases eo10 | (injection eo10 with ea_ en_ ec_; (first | subst ea_ | (injection ea_ with ea_; subst ea_)); subst ec_; clear en_)); have GB10 := am gb10; have GG10 := am HG10; clear gb10 gl10 HG10; obtain ⟨ce10, hcl10, hM10, hcc10, hfr10⟩ := Kd.R_elem HO_3.out z98 (x4_1 : Int) p10 q10; obtain rfl := k98_openM hM10; have hx10_0 : w11.cell? ⟨go10, (x4_1 : Int).toNat * 2, none⟩ = some (.string ((rd_T98 x3_1 x4_1).f0)) := hcc10 0 _ rfl; have hx10_1 : w11.cell? ⟨go10, (x4_1 : Int).toNat * 2 + 1, none⟩ = some (.int .i64 ((rd_T98 x3_1 x4_1).f1)) := hcc10 1 _ rfl; have hf10_0 : w11.frozen? ⟨go10, (x4_1 : Int).toNat * 2, none⟩ = false := hfr10 0; have hf10_1 : w11.frozen? ⟨go10, (x4_1 : Int).toNat * 2 + 1, none⟩ = false := hfr10 1; clear hcl10 hcc10 hfr10 hM10; replace p10 := eq_true p10; replace q10 := eq_true q10; have HX12 := am (show Kd.R k98 98 w11 w.heap.size (fun _ => True) (.slice (some ⟨go10, 0, none⟩) x3_1.length co10) x3_1 from (rq HO_3.out)); obtain ⟨ce12, hcl12, hM12, hcc12, hfr12⟩ := Kd.R_elem HX12.out z98 (x4_1 : Int) (of_decide_eq_true (uq)) (by have h_ : (x4_1 : Int) < ((x3_1.length : Int) : Int) := of_decide_eq_true (uq); first | exact h_ | (have e_ := (Kd.R_reads' HO_3.out).1; omega) | simpa using h_); obtain rfl := k98_openM hM12; have HP12 := Kd.R_seg HX12.out (x4_1 : Int) (of_decide_eq_true (uq)) (by have h_ : (x4_1 : Int) < ((x3_1.length : Int) : Int) := of_decide_eq_true (uq); first | exact h_ | (have e_ := (Kd.R_reads' HO_3.out).1; omega) | simpa using h_) (seg := [.string t191, .int .i64 t192]) (j := 0) hcl12 hcc12 (show 2 ≤ 2 from by decide) (x' := (⟨t191, t192⟩ : S98)) (k98_mkM _ _ _ (⟨t191, t192⟩ : S98) ) (fun _ hk => hk); have hx12_0 := hcc12 0 _ rfl; (try simp only [show (k98).sz = 2 from rfl, Nat.mul_one, Nat.add_zero] at hx12_0); have hf12_0 := hfr12 0; (try simp only [show (k98).sz = 2 from rfl, Nat.mul_one, Nat.add_zero] at hf12_0); have hx12_1 := hcc12 1 _ rfl; (try simp only [show (k98).sz = 2 from rfl, Nat.mul_one, Nat.add_zero] at hx12_1); have hf12_1 := hfr12 1; (try simp only [show (k98).sz = 2 from rfl, Nat.mul_one, Nat.add_zero] at hf12_1); clear hcl12 hcc12 hfr12 hM12) | ((with_reducible refine gate_store (t := 98) (p := 21) rfl ?_); refine store_event (t := 98) (p := 21) (v := ?vo_w13) (w1 := ((w11.setCell ⟨go10, (x4_1 : Int).toNat * 2, none⟩ (.string t191)).setCell ⟨go10, (x4_1 : Int).toNat * 2 + 1, none⟩ (.int .i64 t192))) ?hg ?ho ?hn ?hr ?_; (case ho => rfl); (case hg => rfl); (case hn => rfl); (case hr => exact Y6); intro w13 hw; have hg : w11.grownBy w13 (some go10) := (by rw [hw]; exact HP12.2); have hp_ : Kd.R k98 98 w13 w.heap.size (fun _ => True) (.slice (some ⟨go10, 0, none⟩) x3_1.length co10) y193 := (by rw [hw, Ny193.out]; exact HP12.1); clear HP12; replace HO_3 := am (hp_); replace HB := am ((by rw [hw]; exact below_set (below_set (HB.out) GB10.out) GB10.out : Below w.heap.size w w13)); clear hg hw hp_))
        go_roundg k1
        case measure => have := HK1.out; omega
        case rel => exact ⟨(y193), (wrap64 (x4_1 + 1)), (sq), H', ⟨by have := HK1.out; omega⟩, ⟨rq HO_3.out⟩, ⟨bq⟩⟩
       ·rw [if_neg c9] at H
        exact absurd H (by simp)
      ·rw [if_neg c7] at H
       exact absurd H (by simp)
     ·rw [if_neg c6] at H
      have c6b0 : decide (x4_1 < (l0.length : Int)) = false := decide_eq_false c6
      clear c6
      obtain rfl := Option.some.inj H
      go_wp2
      go_ret
      exact ⟨_, Y0, rq HO_3.out, bq⟩
  ·rw [if_neg c3] at H
   exact absurd H (by simp)
 ·rw [if_neg c2] at H
  exact absurd H (by simp)
def laws_toTree.f (k : Nat) (l0_0 : List (S97)) : Option ((List (S98))) := (laws_toClassS.f k l0_0).bind fun t197 => (some t197)
set_option maxHeartbeats 8000000 in
set_option maxRecDepth 100000 in
theorem laws_toTree.calls (k : Nat) (A0_0 : Option Addr) (c0_0 : Nat) (l0_0 : List (S97)) (r : List (S98)) (w : World) (hr0_0 : Kd.C k97 w A0_0 l0_0.length l0_0) (hc0_0 : l0_0.length ≤ c0_0) (h : laws_toTree.f k l0_0 = some r) :
  Calls Try.prog 10 #[.agg #[.slice A0_0 l0_0.length c0_0]] w fun e w' => ∃ v0_ : Value, e = .returned (.agg #[v0_]) ∧ Kd.R k98 98 w' w.heap.size (fun _ => True) v0_ r ∧ Below w.heap.size w w' := by
 have hu24 := Try.underlying24
 have hu32 := Try.underlying32
 have HR0_0 := am hr0_0
 have HC0_0 := am hc0_0
 clear hr0_0 hc0_0
 have HB := am (Below.refl w.heap.size w)
 have H : ((laws_toClassS.f k l0_0).bind fun t197 => (some t197)) = some r := h
 clear h
 replace H := Option.bind_eq_some_iff.mp H
 obtain ⟨t197, A20, H⟩ := H
 replace H : (some t197) = some r := H
 have A2 := am A20
 clear A20
 obtain rfl := Option.some.inj H
 go_enter Try.func10, Try.ntmps10
 go_wp2_with (first | ((with_reducible refine gate_dst (N := 1) rfl ?_); refine bE (N := 1) (cs := #[.slice A0_0 l0_0.length c0_0]) (t := 24) ?_; intro gb194 hg w3 hbox hb; have BK194 := am (hbox); have GW194 := am ((Y1 : w.heap.size ≤ gb194)); have GE194 := am ((Y1 : w.heap.size ≤ gb194)); replace HB := am (below_step (bq) hb); clear hb hbox hg) | ((with_reducible refine gate_dst (N := 2) rfl ?_); refine bE (N := 2) (cs := #[.slice none 0 0]) (t := 32) ?_; intro gb195 hg w4 hbox hb; have BK195 := am (hbox); have GW195 := am ((Y42 : w.heap.size ≤ gb195)); have GE195 := am ((Y42 : w.heap.size ≤ gb195)); have NB194_195 := am ((by rw [hg]; exact Nat.ne_of_lt (blk_lt (g := gb194) (o := .cells #[.slice A0_0 l0_0.length c0_0] 24 (0, 0)) (kq BK194.out)) : gb194 ≠ gb195)); have NB195_194 := am ((by rw [hg]; exact Nat.ne_of_gt (blk_lt (g := gb194) (o := .cells #[.slice A0_0 l0_0.length c0_0] 24 (0, 0)) (kq BK194.out)) : gb195 ≠ gb194)); replace BK194 := am (blk_below (g := gb194) (o := .cells #[.slice A0_0 l0_0.length c0_0] 24 (0, 0)) (kq BK194.out) hb); replace HB := am (below_step (by repeat (first | (with_reducible first | exact HB.out | apply below_alloc | apply pw_below_drewN | apply below_drew1 | refine below_set ?_ GE194.out) | exact HB.out)) hb); clear hb hbox hg) | ((with_reducible refine gate_dst (N := 3) rfl ?_); refine bE (N := 3) (cs := #[.slice none 0 0]) (t := 32) ?_; intro gb196 hg w5 hbox hb; have BK196 := am (hbox); have GW196 := am ((Y43 : w.heap.size ≤ gb196)); have GE196 := am ((Y43 : w.heap.size ≤ gb196)); have NB194_196 := am ((by rw [hg]; exact Nat.ne_of_lt (blk_lt (g := gb194) (o := .cells #[.slice A0_0 l0_0.length c0_0] 24 (0, 0)) (kq BK194.out)) : gb194 ≠ gb196)); have NB196_194 := am ((by rw [hg]; exact Nat.ne_of_gt (blk_lt (g := gb194) (o := .cells #[.slice A0_0 l0_0.length c0_0] 24 (0, 0)) (kq BK194.out)) : gb196 ≠ gb194)); have NB195_196 := am ((by rw [hg]; exact Nat.ne_of_lt (blk_lt (g := gb195) (o := .cells #[.slice none 0 0] 32 (0, 0)) (kq BK195.out)) : gb195 ≠ gb196)); have NB196_195 := am ((by rw [hg]; exact Nat.ne_of_gt (blk_lt (g := gb195) (o := .cells #[.slice none 0 0] 32 (0, 0)) (kq BK195.out)) : gb196 ≠ gb195)); replace BK194 := am (blk_below (g := gb194) (o := .cells #[.slice A0_0 l0_0.length c0_0] 24 (0, 0)) (kq BK194.out) hb); replace BK195 := am (blk_below (g := gb195) (o := .cells #[.slice none 0 0] 32 (0, 0)) (kq BK195.out) hb); replace HB := am (below_step (by repeat (first | (with_reducible first | exact HB.out | apply below_alloc | apply pw_below_drewN | apply below_drew1 | refine below_set ?_ GE194.out | refine below_set ?_ GE195.out) | exact HB.out)) hb); clear hb hbox hg; have hnb6 := NB194_195.out; have hnc6 := NB195_194.out; have hnb7 := NB194_196.out; have hnc7 := NB196_194.out; have hcz8_0 := bc0 BK194.out; have hfz8_0 := blk_frozen BK194.out 0) | ((with_reducible refine gate_callee (f := 31) rfl ?_); refine gL (some 6) Try.func31 #[.slice A0_0 l0_0.length c0_0] ?_; (with_reducible refine (laws_toClassS.calls k _ _ l0_0 t197 _ ?side1 ?side2 A2.out).mono ?_); (case side1 => exact cq (Kd.C_below HR0_0.out HB.out)); (case side2 => exact HC0_0.out); rintro e w9 ⟨v198, rfl, ho0, hb⟩; refine ⟨_, rfl, ?_⟩; have HO199 := am (Kd.R_lower ho0 (below_size (Y31))); replace BK194 := am (blk_below (g := gb194) (o := .cells #[.slice A0_0 l0_0.length c0_0] 24 (0, 0)) (kq BK194.out) hb); replace BK195 := am (blk_below (g := gb195) (o := .cells #[.slice none 0 0] 32 (0, 0)) (kq BK195.out) hb); replace BK196 := am (blk_below (g := gb196) (o := .cells #[.slice none 0 0] 32 (0, 0)) (kq BK196.out) hb); replace HB := am (below_step (Y31) hb); (try clear hb); (try clear hb2); (try clear hk); (try clear hi); (try clear ho0); obtain ⟨Ao10, co10, eo10⟩ := Kd.R_slice HO199.out; subst eo10; have hnb11 := NB196_195.out; have hnc11 := NB195_196.out; have hcz12_0 := bc0 BK196.out; have hfz12_0 := blk_frozen BK196.out 0; have hcz13_0 := bc0 BK195.out; have hfz13_0 := blk_frozen BK195.out 0))
 refine bodyPost_ret (results_cell_row rfl _ _ gb195 32 #[.slice Ao10 t197.length co10] (0, 0) _ rfl (by (with_reducible repeat (first | refine blk_drewN ?_ _ | refine blk_drew ?_ | refine blk_alloc ?_ _)); refine blk_put (cs := #[.slice none 0 0]) ?_ 0 _ rfl; (with_reducible repeat (first | refine blk_drewN ?_ _ | refine blk_drew ?_ | refine blk_alloc ?_ _)); refine blk_far ?_ NB195_196.out _; (with_reducible repeat (first | refine blk_drewN ?_ _ | refine blk_drew ?_ | refine blk_alloc ?_ _)); exact BK195.out) Try.underlying32 rfl (by kernel_rfl)) rfl ?_
 exact ⟨_, Y0, by (with_reducible repeat (first | apply Kd.R_alloc | apply Kd.R_drewN | apply Kd.R_drew)); exact Kd.R_mono (Kd.R_far (p := ⟨gb195, 0, none⟩) (Kd.R_far (p := ⟨gb196, 0, none⟩) (Kd.R_types (Kd.R_types HO199.out BK196.out (by decide)) BK195.out (by decide)) (fun _ hk => hk.1.2) (.slice Ao10 t197.length co10)) (fun _ hk => hk.2) (.slice Ao10 t197.length co10)) (fun _ hk => trivial), Y31⟩
def laws_toLine.f (a0_0 : Int) (a0_1 : Int) (a0_2 : Int) (a0_3 : Int) : Option (Int × Int × Int × Int) := some (a0_0, a0_1, a0_2, a0_3)
set_option maxHeartbeats 8000000 in
set_option maxRecDepth 100000 in
theorem laws_toLine.calls (a0_0 : Int) (a0_1 : Int) (a0_2 : Int) (a0_3 : Int) (r1 : Int) (r2 : Int) (r3 : Int) (r4 : Int) (w : World) (h : laws_toLine.f a0_0 a0_1 a0_2 a0_3 = some (r1, r2, r3, r4)) :
  Calls Try.prog 32 #[.agg #[.int .i64 a0_0, .int .i64 a0_1, .int .i64 a0_2, .int .i64 a0_3]] w fun e w' => e = .returned (.agg #[.int .i64 r1, .int .i64 r2, .int .i64 r3, .int .i64 r4]) ∧ Below w.heap.size w w' := by
 have hu61 := Try.underlying61
 have hu59 := Try.underlying59
 have HB := am (Below.refl w.heap.size w)
 have H : (some (a0_0, a0_1, a0_2, a0_3)) = some (r1, r2, r3, r4) := h
 clear h
 simp only [Option.some.injEq, Prod.mk.injEq] at H
 obtain ⟨rfl, rfl, rfl, rfl⟩ := H
 go_enter Try.func32, Try.ntmps32
 go_wp2_with (first | ((with_reducible refine gate_dst (N := 1) rfl ?_); refine bE (N := 1) (cs := #[.int .i64 a0_0, .int .i64 a0_1, .int .i64 a0_2, .int .i64 a0_3]) (t := 61) ?_; intro gb200 hg w2 hbox hb; have BK200 := am (hbox); have GW200 := am ((Y1 : w.heap.size ≤ gb200)); have GE200 := am ((Y1 : w.heap.size ≤ gb200)); replace HB := am (below_step (bq) hb); clear hb hbox hg) | ((with_reducible refine gate_dst (N := 2) rfl ?_); refine bE (N := 2) (cs := #[.int .i64 0, .int .i64 0, .int .i64 0, .int .i64 0]) (t := 59) ?_; intro gb201 hg w3 hbox hb; have BK201 := am (hbox); have GW201 := am ((Y44 : w.heap.size ≤ gb201)); have GE201 := am ((Y44 : w.heap.size ≤ gb201)); have NB200_201 := am ((Y45 : gb200 ≠ gb201)); have NB201_200 := am ((Y46 : gb201 ≠ gb200)); replace BK200 := am (blk_below (g := gb200) (o := .cells #[.int .i64 a0_0, .int .i64 a0_1, .int .i64 a0_2, .int .i64 a0_3] 61 (0, 0)) (kq BK200.out) hb); replace HB := am (below_step (by repeat (first | (with_reducible first | exact HB.out | apply below_alloc | apply pw_below_drewN | apply below_drew1 | refine below_set ?_ GE200.out) | exact HB.out)) hb); clear hb hbox hg) | ((with_reducible refine gate_dst (N := 3) rfl ?_); refine bE (N := 3) (cs := #[.int .i64 0, .int .i64 0, .int .i64 0, .int .i64 0]) (t := 59) ?_; intro gb202 hg w4 hbox hb; have BK202 := am (hbox); have GW202 := am ((Y47 : w.heap.size ≤ gb202)); have GE202 := am ((Y47 : w.heap.size ≤ gb202)); have NB200_202 := am ((Y45 : gb200 ≠ gb202)); have NB202_200 := am ((Y46 : gb202 ≠ gb200)); have NB201_202 := am ((by rw [hg]; exact Nat.ne_of_lt (blk_lt (g := gb201) (o := .cells #[.int .i64 0, .int .i64 0, .int .i64 0, .int .i64 0] 59 (0, 0)) (kq BK201.out)) : gb201 ≠ gb202)); have NB202_201 := am ((by rw [hg]; exact Nat.ne_of_gt (blk_lt (g := gb201) (o := .cells #[.int .i64 0, .int .i64 0, .int .i64 0, .int .i64 0] 59 (0, 0)) (kq BK201.out)) : gb202 ≠ gb201)); replace BK200 := am (blk_below (g := gb200) (o := .cells #[.int .i64 a0_0, .int .i64 a0_1, .int .i64 a0_2, .int .i64 a0_3] 61 (0, 0)) (kq BK200.out) hb); replace BK201 := am (blk_below (g := gb201) (o := .cells #[.int .i64 0, .int .i64 0, .int .i64 0, .int .i64 0] 59 (0, 0)) (kq BK201.out) hb); replace HB := am (below_step (by repeat (first | (with_reducible first | exact HB.out | apply below_alloc | apply pw_below_drewN | apply below_drew1 | refine below_set ?_ GE200.out | refine below_set ?_ GE201.out) | exact HB.out)) hb); clear hb hbox hg; have hnb5 := NB200_201.out; have hnc5 := NB201_200.out; have hnb6 := NB200_202.out; have hnc6 := NB202_200.out; have hcz7_0 := bc0 BK200.out; have hcz7_1 := bc1 BK200.out; have hcz7_2 := bc2 BK200.out; have hcz7_3 := bc3 BK200.out; have hfz7_0 := blk_frozen BK200.out 0; have hfz7_1 := blk_frozen BK200.out 1; have hfz7_2 := blk_frozen BK200.out 2; have hfz7_3 := blk_frozen BK200.out 3; have hnb8 := NB202_201.out; have hnc8 := NB201_202.out; have hcz9_0 := bc0 BK202.out; have hcz9_1 := bc1 BK202.out; have hcz9_2 := bc2 BK202.out; have hcz9_3 := bc3 BK202.out; have hfz9_0 := blk_frozen BK202.out 0; have hfz9_1 := blk_frozen BK202.out 1; have hfz9_2 := blk_frozen BK202.out 2; have hfz9_3 := blk_frozen BK202.out 3; have hcz10_0 := bc0 BK201.out; have hcz10_1 := bc1 BK201.out; have hcz10_2 := bc2 BK201.out; have hcz10_3 := bc3 BK201.out; have hfz10_0 := blk_frozen BK201.out 0; have hfz10_1 := blk_frozen BK201.out 1; have hfz10_2 := blk_frozen BK201.out 2; have hfz10_3 := blk_frozen BK201.out 3))
 refine bodyPost_ret (results_cell_row rfl _ _ gb201 59 #[.int .i64 a0_0, .int .i64 a0_1, .int .i64 a0_2, .int .i64 a0_3] (0, 0) _ rfl (by (with_reducible repeat (first | refine blk_drewN ?_ _ | refine blk_drew ?_ | refine blk_alloc ?_ _)); refine blk_put (cs := #[.int .i64 a0_0, .int .i64 a0_1, .int .i64 a0_2, .int .i64 0]) ?_ 3 _ rfl; (with_reducible repeat (first | refine blk_drewN ?_ _ | refine blk_drew ?_ | refine blk_alloc ?_ _)); refine blk_put (cs := #[.int .i64 a0_0, .int .i64 a0_1, .int .i64 0, .int .i64 0]) ?_ 2 _ rfl; (with_reducible repeat (first | refine blk_drewN ?_ _ | refine blk_drew ?_ | refine blk_alloc ?_ _)); refine blk_put (cs := #[.int .i64 a0_0, .int .i64 0, .int .i64 0, .int .i64 0]) ?_ 1 _ rfl; (with_reducible repeat (first | refine blk_drewN ?_ _ | refine blk_drew ?_ | refine blk_alloc ?_ _)); refine blk_put (cs := #[.int .i64 0, .int .i64 0, .int .i64 0, .int .i64 0]) ?_ 0 _ rfl; (with_reducible repeat (first | refine blk_drewN ?_ _ | refine blk_drew ?_ | refine blk_alloc ?_ _)); refine blk_far ?_ NB201_202.out _; (with_reducible repeat (first | refine blk_drewN ?_ _ | refine blk_drew ?_ | refine blk_alloc ?_ _)); refine blk_far ?_ NB201_202.out _; (with_reducible repeat (first | refine blk_drewN ?_ _ | refine blk_drew ?_ | refine blk_alloc ?_ _)); refine blk_far ?_ NB201_202.out _; (with_reducible repeat (first | refine blk_drewN ?_ _ | refine blk_drew ?_ | refine blk_alloc ?_ _)); refine blk_far ?_ NB201_202.out _; (with_reducible repeat (first | refine blk_drewN ?_ _ | refine blk_drew ?_ | refine blk_alloc ?_ _)); exact BK201.out) Try.underlying59 rfl (by kernel_rfl)) rfl ?_
 exact ⟨Y0, by repeat (first | (with_reducible first | exact HB.out | apply below_alloc | apply pw_below_drewN | apply below_drew1 | refine below_set ?_ GE200.out | refine below_set ?_ GE201.out | refine below_set ?_ GE202.out) | exact HB.out)⟩
def laws_toLineS.l0 : Nat → List (S61) → List (S59) → Int → Option ((List (S59)))
 | 0, _, _, _ => none
 | k + 1, x0, x3, x4 => if x4 < (x0.length : Int) then (if 0 ≤ x4 then ((laws_toLine.f ((rd_T61 x0 x4).f0) ((rd_T61 x0 x4).f1) ((rd_T61 x0 x4).f2) ((rd_T61 x0 x4).f3)).bind fun bt207 => (if x4 < (x3.length : Int) then (laws_toLineS.l0 k x0 (x3.set (x4 : Int).toNat (⟨bt207.1, bt207.2.1, bt207.2.2.1, bt207.2.2.2⟩ : S59)) (wrap64 (x4 + 1))) else (none))) else (none)) else (some x3)
def laws_toLineS.f (k : Nat) (l0 : List (S61)) : Option ((List (S59))) := if 0 ≤ (l0.length : Int) then (if ((l0.length : Int) : Int).toNat ≤ 8796093022208 then (laws_toLineS.l0 k l0 (List.replicate ((l0.length : Int) : Int).toNat z59) 0) else (none)) else (none)
set_option maxHeartbeats 8000000 in
set_option maxRecDepth 100000 in
theorem laws_toLineS.calls (k : Nat) (A0 : Option Addr) (c0 : Nat) (l0 : List (S61)) (r : List (S59)) (w : World) (hr0 : Kd.C k61 w A0 l0.length l0) (hc0 : l0.length ≤ c0) (h : laws_toLineS.f k l0 = some r) :
  Calls Try.prog 11 #[.slice A0 l0.length c0] w fun e w' => ∃ v0_ : Value, e = .returned (v0_) ∧ Kd.R k59 59 w' w.heap.size (fun _ => True) v0_ r ∧ Below w.heap.size w w' := by
 have hu61 := Try.underlying61
 have hu59 := Try.underlying59
 have HR0 := am hr0
 have HC0 := am hc0
 clear hr0 hc0
 have HB := am (Below.refl w.heap.size w)
 have H : (if 0 ≤ (l0.length : Int) then (if ((l0.length : Int) : Int).toNat ≤ 8796093022208 then (laws_toLineS.l0 k l0 (List.replicate ((l0.length : Int) : Int).toNat z59) 0) else (none)) else (none)) = some r := h
 clear h
 by_cases c2 : 0 ≤ (l0.length : Int)
 ·rw [if_pos c2] at H
  have c2b0 := eq_true c2
  have c2b1 : decide (0 ≤ (l0.length : Int)) = true := decide_eq_true c2
  clear c2
  by_cases c3 : ((l0.length : Int) : Int).toNat ≤ 8796093022208
  ·rw [if_pos c3] at H
   have c3b0 := eq_true c3
   have c3b1 : decide (((l0.length : Int) : Int).toNat ≤ 8796093022208) = true := decide_eq_true c3
   clear c3
   obtain ⟨y203, hy203⟩ : ∃ y_ : List (S59), y_ = (List.replicate ((l0.length : Int) : Int).toNat z59) := ⟨_, rfl⟩
   replace H : (laws_toLineS.l0 k l0 y203 0) = some r := by first | (rw [hy203]; with_reducible exact H) | (have H2_ := (Option.bind_some _ _).symm.trans H; rw [hy203]; with_reducible exact H2_) | (have H2_ := (Option.bind_some _ _).symm.trans H; with_reducible exact H2_) | with_reducible exact H | (rw [hy203]; exact H) | exact H
   have Ny203 := am hy203
   clear hy203
   have H' := am H
   clear H
   go_enter Try.func11, Try.ntmps11
   go_wp2_with (first | ((with_reducible refine gate_dst (N := 7) rfl ?_); refine Kd.R_make k59 _ 59 rfl (N := 7) rfl 34 _ _ rfl (l0.length : Int) rfl rfl Try.underlying34 (.agg #[(.int .i64 0), (.int .i64 0), (.int .i64 0), (.int .i64 0)]) 32 info59 rfl (by decide) (by omega) z59 (ok := fun _ => True) (okp := fun _ => True) (k59_mkM _ _ _ z59 ) (fun _ hk => hk) trivial (of_decide_eq_true (uq)) (Nat.le_trans (Nat.mul_le_mul_right _ (of_decide_eq_true (uq) : (l0.length : Int).toNat ≤ 8796093022208)) (by omega)) (Below.refl _ _) (Nat.le_refl _) ?_; intro v204 w4 ho5 hb hg_ hnew_; clear hg_ hnew_; (first | rw [← Ny203.out] at ho5 | (simp only [Int.reduceToNat] at ho5; rw [← Ny203.out] at ho5)); have HO205 := am (Kd.R_lower ho5 (below_size (bq))); replace HB := am (below_step (bq) hb); clear hb ho5))
   go_loopg [4] k (fun kq v4 w' => ∃ (x3_1 : List (S59)) (x4_1 : Int), v4 = .int .i64 x4_1 ∧ Aside0 (laws_toLineS.l0 kq l0 x3_1 x4_1 = some r) ∧ Aside0 (kq ≤ k) ∧ Aside0 (Kd.R k59 59 w' w.heap.size (fun _ => True) v204 x3_1) ∧ Aside0 (Below w.heap.size w w'))
   case atStart => exact ⟨(y203), (0), (sq), H', ⟨Nat.le_refl _⟩, ⟨rq HO205.out⟩, ⟨bq⟩⟩
   case round =>
    clear H'
    try clear c1
    try clear c2
    try clear c2b0
    try clear c2b1
    try clear p2
    try clear c3
    try clear c3b0
    try clear c3b1
    obtain ⟨x3_1, x4_1, rfl, HA, HK1, HO_3, HB⟩ := hrel
    cases gk with
    | zero => exact absurd HA.out (by simp [laws_toLineS.l0])
    | succ k1 =>
     have H := HA.out
     clear HA
     simp only [laws_toLineS.l0] at H
     by_cases c6 : x4_1 < (l0.length : Int)
     ·rw [if_pos c6] at H
      have c6b0 : decide (x4_1 < (l0.length : Int)) = true := decide_eq_true c6
      clear c6
      by_cases c7 : 0 ≤ x4_1
      ·rw [if_pos c7] at H
       have c7b0 : decide (0 ≤ x4_1) = true := decide_eq_true c7
       clear c7
       replace H := Option.bind_eq_some_iff.mp H
       obtain ⟨⟨t207, t208, t209, t210⟩, A80, H⟩ := H
       replace H : (if x4_1 < (x3_1.length : Int) then (laws_toLineS.l0 k1 l0 (x3_1.set (x4_1 : Int).toNat (⟨t207, t208, t209, t210⟩ : S59)) (wrap64 (x4_1 + 1))) else (none)) = some r := H
       have A8 := am A80
       clear A80
       by_cases c9 : x4_1 < (x3_1.length : Int)
       ·rw [if_pos c9] at H
        have c9b0 : decide (x4_1 < (x3_1.length : Int)) = true := decide_eq_true c9
        clear c9
        obtain ⟨y211, hy211⟩ : ∃ y_ : List (S59), y_ = (x3_1.set (x4_1 : Int).toNat (⟨t207, t208, t209, t210⟩ : S59)) := ⟨_, rfl⟩
        replace H : (laws_toLineS.l0 k1 l0 y211 (wrap64 (x4_1 + 1))) = some r := by first | (rw [hy211]; with_reducible exact H) | (have H2_ := (Option.bind_some _ _).symm.trans H; rw [hy211]; with_reducible exact H2_) | (have H2_ := (Option.bind_some _ _).symm.trans H; with_reducible exact H2_) | with_reducible exact H | (rw [hy211]; exact H) | exact H
        have Ny211 := am hy211
        clear hy211
        have H' := am H
        clear H
        have p206 : 0 ≤ (x4_1 : Int) := of_decide_eq_true (uq)
        have q206 : x4_1 < (l0.length : Int) := of_decide_eq_true (uq)
        obtain ⟨ad206, e206, hx206_0, hx206_1, hx206_2, hx206_3⟩ := at_T61 HR0.out x4_1 p206 q206
        cases e206
        replace hx206_0 := cb HB.out hx206_0
        replace hx206_1 := cb HB.out hx206_1
        replace hx206_2 := cb HB.out hx206_2
        replace hx206_3 := cb HB.out hx206_3
        replace p206 := eq_true p206
        replace q206 := eq_true q206
        go_wp2_with (first | ((with_reducible refine gate_callee (f := 32) rfl ?_); refine gL (some 20) Try.func32 #[.agg #[.int .i64 ((rd_T61 l0 x4_1).f0), .int .i64 ((rd_T61 l0 x4_1).f1), .int .i64 ((rd_T61 l0 x4_1).f2), .int .i64 ((rd_T61 l0 x4_1).f3)]] ?_; (with_reducible refine (laws_toLine.calls ((rd_T61 l0 x4_1).f0) ((rd_T61 l0 x4_1).f1) ((rd_T61 l0 x4_1).f2) ((rd_T61 l0 x4_1).f3) t207 t208 t209 t210 _ A8.out).mono ?_); rintro e w11 ⟨rfl, hb⟩; refine ⟨_, rfl, ?_⟩; replace HO_3 := am (Kd.R_below (rq HO_3.out) hb); replace HB := am (below_step (bq) hb); (try clear hb); (try clear hb2); (try clear hk); (try clear hi); have p10 : 0 ≤ (x4_1 : Int) := of_decide_eq_true (uq); have q10 : (x4_1 : Int) < ((x3_1.length : Int) : Int) := of_decide_eq_true (uq); obtain ⟨go10, co10, eo10, gb10, gl10, cl10, HG10⟩ := Kd.R_form HO_3.out (by omega); (first | cases eo10 | (injection eo10 with ea_ en_ ec_; (first | subst ea_ | (injection ea_ with ea_; subst ea_)); subst ec_; clear en_)); have GB10 := am gb10; have GG10 := am HG10; clear gb10 gl10 HG10; obtain ⟨ce10, hcl10, hM10, hcc10, hfr10⟩ := Kd.R_elem HO_3.out z59 (x4_1 : Int) p10 q10; obtain rfl := k59_openM hM10; have hx10_0 : w11.cell? ⟨go10, (x4_1 : Int).toNat * 4, none⟩ = some (.int .i64 ((rd_T59 x3_1 x4_1).f0)) := hcc10 0 _ rfl; have hx10_1 : w11.cell? ⟨go10, (x4_1 : Int).toNat * 4 + 1, none⟩ = some (.int .i64 ((rd_T59 x3_1 x4_1).f1)) := hcc10 1 _ rfl; have hx10_2 : w11.cell? ⟨go10, (x4_1 : Int).toNat * 4 + 2, none⟩ = some (.int .i64 ((rd_T59 x3_1 x4_1).f2)) := hcc10 2 _ rfl; have hx10_3 : w11.cell? ⟨go10, (x4_1 : Int).toNat * 4 + 3, none⟩ = some (.int .i64 ((rd_T59 x3_1 x4_1).f3)) := hcc10 3 _ rfl; have hf10_0 : w11.frozen? ⟨go10, (x4_1 : Int).toNat * 4, none⟩ = false := hfr10 0; have hf10_1 : w11.frozen? ⟨go10, (x4_1 : Int).toNat * 4 + 1, none⟩ = false := hfr10 1; have hf10_2 : w11.frozen? ⟨go10, (x4_1 : Int).toNat * 4 + 2, none⟩ = false := hfr10 2; have hf10_3 : w11.frozen? ⟨go10, (x4_1 : Int).toNat * 4 + 3, none⟩ = false := hfr10 3; clear hcl10 hcc10 hfr10 hM10; replace p10 := eq_true p10; replace q10 := eq_true q10; have HX12 := am (show Kd.R k59 59 w11 w.heap.size (fun _ => True) (.slice (some ⟨go10, 0, none⟩) x3_1.length co10) x3_1 from (rq HO_3.out)); obtain ⟨ce12, hcl12, hM12, hcc12, hfr12⟩ := Kd.R_elem HX12.out z59 (x4_1 : Int) (of_decide_eq_true (uq)) (by have h_ : (x4_1 : Int) < ((x3_1.length : Int) : Int) := of_decide_eq_true (uq); first | exact h_ | (have e_ := (Kd.R_reads' HO_3.out).1; omega) | simpa using h_); obtain rfl := k59_openM hM12; have HP12 := Kd.R_seg HX12.out (x4_1 : Int) (of_decide_eq_true (uq)) (by have h_ : (x4_1 : Int) < ((x3_1.length : Int) : Int) := of_decide_eq_true (uq); first | exact h_ | (have e_ := (Kd.R_reads' HO_3.out).1; omega) | simpa using h_) (seg := [.int .i64 t207, .int .i64 t208, .int .i64 t209, .int .i64 t210]) (j := 0) hcl12 hcc12 (show 4 ≤ 4 from by decide) (x' := (⟨t207, t208, t209, t210⟩ : S59)) (k59_mkM _ _ _ (⟨t207, t208, t209, t210⟩ : S59) ) (fun _ hk => hk); have hx12_0 := hcc12 0 _ rfl; (try simp only [show (k59).sz = 4 from rfl, Nat.mul_one, Nat.add_zero] at hx12_0); have hf12_0 := hfr12 0; (try simp only [show (k59).sz = 4 from rfl, Nat.mul_one, Nat.add_zero] at hf12_0); have hx12_1 := hcc12 1 _ rfl; (try simp only [show (k59).sz = 4 from rfl, Nat.mul_one, Nat.add_zero] at hx12_1); have hf12_1 := hfr12 1; (try simp only [show (k59).sz = 4 from rfl, Nat.mul_one, Nat.add_zero] at hf12_1); have hx12_2 := hcc12 2 _ rfl; (try simp only [show (k59).sz = 4 from rfl, Nat.mul_one, Nat.add_zero] at hx12_2); have hf12_2 := hfr12 2; (try simp only [show (k59).sz = 4 from rfl, Nat.mul_one, Nat.add_zero] at hf12_2); have hx12_3 := hcc12 3 _ rfl; (try simp only [show (k59).sz = 4 from rfl, Nat.mul_one, Nat.add_zero] at hx12_3); have hf12_3 := hfr12 3; (try simp only [show (k59).sz = 4 from rfl, Nat.mul_one, Nat.add_zero] at hf12_3); clear hcl12 hcc12 hfr12 hM12) | ((with_reducible refine gate_store (t := 59) (p := 21) rfl ?_); refine store_event (t := 59) (p := 21) (v := ?vo_w13) (w1 := ((((w11.setCell ⟨go10, (x4_1 : Int).toNat * 4, none⟩ (.int .i64 t207)).setCell ⟨go10, (x4_1 : Int).toNat * 4 + 1, none⟩ (.int .i64 t208)).setCell ⟨go10, (x4_1 : Int).toNat * 4 + 2, none⟩ (.int .i64 t209)).setCell ⟨go10, (x4_1 : Int).toNat * 4 + 3, none⟩ (.int .i64 t210))) ?hg ?ho ?hn ?hr ?_; (case ho => rfl); (case hg => rfl); (case hn => rfl); (case hr => exact Y6); intro w13 hw; have hg : w11.grownBy w13 (some go10) := (by rw [hw]; exact HP12.2); have hp_ : Kd.R k59 59 w13 w.heap.size (fun _ => True) (.slice (some ⟨go10, 0, none⟩) x3_1.length co10) y211 := (by rw [hw, Ny211.out]; exact HP12.1); clear HP12; replace HO_3 := am (hp_); replace HB := am ((by rw [hw]; exact below_set (below_set (below_set (below_set (HB.out) GB10.out) GB10.out) GB10.out) GB10.out : Below w.heap.size w w13)); clear hg hw hp_))
        go_roundg k1
        case measure => have := HK1.out; omega
        case rel => exact ⟨(y211), (wrap64 (x4_1 + 1)), (sq), H', ⟨by have := HK1.out; omega⟩, ⟨rq HO_3.out⟩, ⟨bq⟩⟩
       ·rw [if_neg c9] at H
        exact absurd H (by simp)
      ·rw [if_neg c7] at H
       exact absurd H (by simp)
     ·rw [if_neg c6] at H
      have c6b0 : decide (x4_1 < (l0.length : Int)) = false := decide_eq_false c6
      clear c6
      obtain rfl := Option.some.inj H
      go_wp2
      go_ret
      exact ⟨_, Y0, rq HO_3.out, bq⟩
  ·rw [if_neg c3] at H
   exact absurd H (by simp)
 ·rw [if_neg c2] at H
  exact absurd H (by simp)
end Go.Proofs.Ytbcjbcjpoddkoaa.P
end
