/- One part of the proofs on this program: functions of the program as plain functions, that the code comes to them, and facts on them. -/
import Derived.Test.YtkedkinojeoeaaaYAll1
import Derived.Test.YtkedkinojeoeaaaYAll4
import Derived.Test.YtkedkinojeoeaaaYAll6
import Derived.Test.YtkedkinojeoeaaaYWAuto
section
namespace Go.Proofs.Ytkedkinojeoeaaa.P
open Go.RowKit Go.Proofs.YtkedkinojeoeaaaW.PrintWords Go.Proofs.YtkedkinojeoeaaaW.PrintLast Go.Proofs.YtkedkinojeoeaaaW.PrintMore
attribute [local go_sem] jqa joa jCa jBa jaa jZ jpa jna jk
set_option linter.unusedVariables false
set_option linter.unusedSimpArgs false
def jnb.l0 : Nat → List (S36) → Int → Int → Option (Int)
 | 0,_,_,_=>none
 | k+1,x0,x1,x5=>if x5≥0 then (if 0≤x5 then (if x5<(x0.length:Int) then (if 0≤x1 then (if x1<(x0.length:Int) then (if ((je x0 x5).f0)<((je x0 x1).f0) then (some (-1)) else (if ((je x0 x5).f0)=((je x0 x1).f0) then (some x5) else (jnb.l0 k x0 x1 (wrap64 (x5 - 1))))) else (none)) else (none)) else (none)) else (none)) else (some (-1))
def jnb.f (k : Nat) (l0 : List (S36)) (a1 : Int) : Option (Int) := jnb.l0 k l0 a1 (wrap64 (a1 - 1))
set_option maxHeartbeats 8000000 in
set_option maxRecDepth 100000 in
theorem jnb.calls (k : Nat) (A0 : Option Addr) (c0 : Nat) (l0 : List (S36)) (a1 : Int) (r : Int) (w : World) (hr0 : Kd.C k36 w A0 l0.length l0) (hc0 : l0.length ≤ c0) (h : jnb.f k l0 a1 = some r) :
  Calls Try.prog 97 #[.slice A0 l0.length c0, .int .i64 a1] w fun e w'=>e=.returned (.int .i64 r)∧jwb w w':=by
 have HR0:=am hr0
 have HC0:=am hc0
 clear hr0 hc0
 have H:(jnb.l0 k l0 a1 (wrap64 (a1 - 1)))=some r:=h
 clear h
 have H':=am H
 clear H
 go_enter Try.func97,Try.ntmps97
 go_wp2
 repeat (go_quiet (fail);try go_wp2)
 go_loopg [5] k (fun kq v5 w'=>∃ (x5_1:Int),v5=.int .i64 x5_1∧jo (jnb.l0 kq l0 a1 x5_1=some r)∧jo (kq≤k)∧jwb w w')
 case atStart=>exact ⟨(wrap64 (a1 - 1)),(sq),H',⟨Nat.le_refl _⟩,Y4⟩
 case round =>
  clear H'
  try clear p2
  obtain ⟨x5_1,rfl,HA,HK1,⟨m1,rfl⟩⟩:=hrel
  cases gk with
  | zero=>exact absurd HA.out (by simp [jnb.l0])
  | succ k1 =>
   have H:=HA.out
   clear HA
   simp only [jnb.l0] at H
   by_cases c3:x5_1≥0
   ·rw [if_pos c3] at H
    have c3b0:decide (0≤x5_1)=true:=dzT c3
    clear c3
    by_cases c4:0≤x5_1
    ·rw [if_pos c4] at H
     have c4b0:decide (0≤x5_1)=true:=dzT c4
     clear c4
     by_cases c5:x5_1<(l0.length:Int)
     ·rw [if_pos c5] at H
      have c5b0:decide (x5_1<(l0.length:Int))=true:=dzT c5
      clear c5
      by_cases c6:0≤a1
      ·rw [if_pos c6] at H
       have c6b0:decide (0≤a1)=true:=dzT c6
       clear c6
       by_cases c7:a1<(l0.length:Int)
       ·rw [if_pos c7] at H
        have c7b0:decide (a1<(l0.length:Int))=true:=dzT c7
        clear c7
        by_cases c8:((je l0 x5_1).f0)<((je l0 a1).f0)
        ·rw [if_pos c8] at H
         have c8b0:decide (((je l0 x5_1).f0)<((je l0 a1).f0))=true:=dzT c8
         clear c8
         obtain rfl:=Option.some.inj H
         have p573:0≤(x5_1:Int):=ozD (uq)
         have q573:x5_1<(l0.length:Int):=ozD (uq)
         obtain ⟨ad573,e573,hx573_0,hx573_1,hx573_2,hx573_3⟩:=jsa HR0.out x5_1 p573 q573
         cases e573
         replace p573:=ezT p573
         replace q573:=ezT q573
         have p574:0≤(a1:Int):=ozD (uq)
         have q574:a1<(l0.length:Int):=ozD (uq)
         obtain ⟨ad574,e574,hx574_0,hx574_1,hx574_2,hx574_3⟩:=jsa HR0.out a1 p574 q574
         obtain rfl:ad573=ad574:=(by injection e574)
         replace p574:=ezT p574
         replace q574:=ezT q574
         go_wp2
         repeat (go_quiet (fail);try go_wp2)
         go_ret
         exact ⟨sq,Y4⟩
        ·rw [if_neg c8] at H
         have c8b0:decide (((je l0 x5_1).f0)<((je l0 a1).f0))=false:=dzF c8
         clear c8
         by_cases c9:((je l0 x5_1).f0)=((je l0 a1).f0)
         ·rw [if_pos c9] at H
          have c9b0:(((je l0 x5_1).f0) == ((je l0 a1).f0))=true:=beq_iff_eq.mpr c9
          have c9b1:(((je l0 x5_1).f0) != ((je l0 a1).f0))=false:=bne_eq_false_iff_eq.mpr c9
          clear c9
          obtain rfl:=Option.some.inj H
          have p573:0≤(x5_1:Int):=ozD (uq)
          have q573:x5_1<(l0.length:Int):=ozD (uq)
          obtain ⟨ad573,e573,hx573_0,hx573_1,hx573_2,hx573_3⟩:=jsa HR0.out x5_1 p573 q573
          cases e573
          replace p573:=ezT p573
          replace q573:=ezT q573
          have p574:0≤(a1:Int):=ozD (uq)
          have q574:a1<(l0.length:Int):=ozD (uq)
          obtain ⟨ad574,e574,hx574_0,hx574_1,hx574_2,hx574_3⟩:=jsa HR0.out a1 p574 q574
          obtain rfl:ad573=ad574:=(by injection e574)
          replace p574:=ezT p574
          replace q574:=ezT q574
          have p575:0≤(x5_1:Int):=ozD (uq)
          have q575:x5_1<(l0.length:Int):=ozD (uq)
          obtain ⟨ad575,e575,hx575_0,hx575_1,hx575_2,hx575_3⟩:=jsa HR0.out x5_1 p575 q575
          obtain rfl:ad573=ad575:=(by injection e575)
          replace p575:=ezT p575
          replace q575:=ezT q575
          have p576:0≤(a1:Int):=ozD (uq)
          have q576:a1<(l0.length:Int):=ozD (uq)
          obtain ⟨ad576,e576,hx576_0,hx576_1,hx576_2,hx576_3⟩:=jsa HR0.out a1 p576 q576
          obtain rfl:ad573=ad576:=(by injection e576)
          replace p576:=ezT p576
          replace q576:=ezT q576
          go_wp2
          repeat (go_quiet (fail);try go_wp2)
          go_ret
          exact ⟨sq,Y4⟩
         ·rw [if_neg c9] at H
          have c9b0:(((je l0 x5_1).f0) == ((je l0 a1).f0))=false:=beq_eq_false_iff_ne.mpr c9
          have c9b1:(((je l0 x5_1).f0) != ((je l0 a1).f0))=true:=bne_iff_ne.mpr c9
          have H':=am H
          clear H
          have p573:0≤(x5_1:Int):=ozD (uq)
          have q573:x5_1<(l0.length:Int):=ozD (uq)
          obtain ⟨ad573,e573,hx573_0,hx573_1,hx573_2,hx573_3⟩:=jsa HR0.out x5_1 p573 q573
          cases e573
          replace p573:=ezT p573
          replace q573:=ezT q573
          have p574:0≤(a1:Int):=ozD (uq)
          have q574:a1<(l0.length:Int):=ozD (uq)
          obtain ⟨ad574,e574,hx574_0,hx574_1,hx574_2,hx574_3⟩:=jsa HR0.out a1 p574 q574
          obtain rfl:ad573=ad574:=(by injection e574)
          replace p574:=ezT p574
          replace q574:=ezT q574
          have p575:0≤(x5_1:Int):=ozD (uq)
          have q575:x5_1<(l0.length:Int):=ozD (uq)
          obtain ⟨ad575,e575,hx575_0,hx575_1,hx575_2,hx575_3⟩:=jsa HR0.out x5_1 p575 q575
          obtain rfl:ad573=ad575:=(by injection e575)
          replace p575:=ezT p575
          replace q575:=ezT q575
          have p576:0≤(a1:Int):=ozD (uq)
          have q576:a1<(l0.length:Int):=ozD (uq)
          obtain ⟨ad576,e576,hx576_0,hx576_1,hx576_2,hx576_3⟩:=jsa HR0.out a1 p576 q576
          obtain rfl:ad573=ad576:=(by injection e576)
          replace p576:=ezT p576
          replace q576:=ezT q576
          go_wp2
          repeat (go_quiet (fail);try go_wp2)
          go_roundg k1
          case measure=>have:=HK1.out;omega
          case rel=>exact ⟨(wrap64 (x5_1 - 1)),(sq),H',⟨by have:=HK1.out;omega⟩,Y4⟩
       ·rw [if_neg c7] at H
        exact absurd H (by simp)
      ·rw [if_neg c6] at H
       exact absurd H (by simp)
     ·rw [if_neg c5] at H
      exact absurd H (by simp)
    ·rw [if_neg c4] at H
     exact absurd H (by simp)
   ·rw [if_neg c3] at H
    have c3b0:decide (0≤x5_1)=false:=dzF c3
    clear c3
    obtain rfl:=Option.some.inj H
    go_wp2
    repeat (go_quiet (fail);try go_wp2)
    go_ret
    exact ⟨sq,Y4⟩
def jB.inB (a lo hi : Int) : Bool := decide (lo ≤ a) && decide (a ≤ hi)
theorem jKc (a lo hi : Int) : jQ.f a lo hi = some (jB.inB a lo hi) := by
 unfold jQ.f jB.inB
 by_cases h:lo≤a
 ·rw [if_pos h];simp [h]
 ·rw [if_neg h];simp [h]
theorem spec_opens_eq (a : Int) : jmd.f a = some (jB.inB a 7 12) := by
 unfold jmd.f
 rw [jKc];rfl
theorem spec_follows_eq (a : Int) : jdc.f a = some (jB.inB a 8 10) := by
 unfold jdc.f
 rw [jKc];rfl
def jB.off (p : List S36) (i : Int) (x : S36) : Bool :=
 if (if i=0 then decide (x.f0≠0) else if (wrap64 ((je p (i - 1)).f0+1))<x.f0 then true else (jB.inB (je p (i - 1)).f1 7 12 != (x.f0 == wrap64 ((je p (i - 1)).f0+1)))) then true
 else decide (i+1=(p.length:Int)) && jB.inB x.f1 7 12
def jB.f (k : Nat) (l0_0 : List S75) (l1 : List S36) (a2 : Int) : Option Bool :=
 if 0≤a2 then if a2<(l1.length:Int) then
  (jHa.f k l0_0 (je l1 a2).f0 (je l1 a2).f1 (je l1 a2).f2 (je l1 a2).f3).bind fun v =>
  if v=false then some false else if jB.inB (je l1 a2).f0 0 5=false then some false else
  if jB.off l1 a2 (je l1 a2) then some false else
  (if (je l1 a2).f1=7 then jN.f k l1 a2 else some true).bind fun c1=>if c1=false then some false else
  (if (je l1 a2).f1=5∨(je l1 a2).f1=6 then jmb.f k l1 a2 else some true).bind fun c2=>if c2=false then some false else
  if jB.inB (je l1 a2).f1 8 10=false then some true else
  (jnb.f k l1 a2).bind fun h=>if 0≤h then if h<(l1.length:Int) then some ((je l1 h).f1 == 7 || jB.inB (je l1 h).f1 8 10) else none else some false
 else none else none
def VX (W : World) (BX : Nat) (x : S36) : Prop := W.heap[BX]? = some (.cells #[.int .i64 x.f0, .int .i64 x.f1, .int .i64 x.f2, .int .i64 x.f3] 36 (0, 0))
theorem VX.below {W W' : World} {BX : Nat} {x : S36} (h : VX W BX x) (hb : Below W.heap.size W W') : VX W' BX x := (hb.block _ (jYb h)).trans h
theorem VX.cells {W : World} {BX : Nat} {x : S36} (h : VX W BX x) : W.cell? ⟨BX, 0, none⟩ = some (.int .i64 x.f0) ∧ W.cell? ⟨BX, 1, none⟩ = some (.int .i64 x.f1) ∧ W.cell? ⟨BX, 2, none⟩ = some (.int .i64 x.f2) ∧ W.cell? ⟨BX, 3, none⟩ = some (.int .i64 x.f3) :=
 ⟨(jH h 0).trans rfl,(jH h 1).trans rfl,(jH h 2).trans rfl,(jH h 3).trans rfl⟩
set_option maxHeartbeats 8000000 in
set_option maxRecDepth 100000 in
theorem jB.calls (k : Nat) (A0_0 : Option Addr) (c0_0 : Nat) (l0_0 : List S75) (A1 : Option Addr) (c1 : Nat) (l1 : List S36) (a2 : Int) (r : Bool) (w : World) (hr0_0 : Kd.C k75 w A0_0 l0_0.length l0_0) (hc0_0 : l0_0.length ≤ c0_0) (hr1 : Kd.C k36 w A1 l1.length l1) (hc1 : l1.length ≤ c1) (h : jB.f k l0_0 l1 a2 = some r) :
  Calls Try.prog 79 #[.agg #[.slice A0_0 l0_0.length c0_0], .slice A1 l1.length c1, .int .i64 a2] w fun e w'=>e=.returned (.bool r)∧Below w.heap.size w w':=by
 have hu25:=Try.underlying25
 have hu36:=Try.underlying36
 have hm:l1.length≤9223372036854775807:=Kd.C_max hr1
 unfold jB.f at h
 by_cases h0:0≤a2
 ·rw [if_pos h0] at h
  by_cases h1:a2<(l1.length:Int)
  ·rw [if_pos h1] at h
   obtain ⟨v,hv,h⟩:=bzS h
   have HN:=am (fun W (hb:Below w.heap.size w W)=>jHa.calls k A0_0 c0_0 l0_0 _ _ _ _ v W (Kd.jI hr0_0 hb) hc0_0 hv)
   clear hv
   obtain ⟨ad,rfl,hx0,hx1,hx2,hx3⟩:=jsa hr1 a2 h0 h1
   have HR1:=am hr1
   clear hr0_0 hr1
   generalize hgx:je l1 a2=x at h HN hx0 hx1 hx2 hx3
   clear hgx
   have X1:=am (show VX ((w.alloc (.cells #[.slice A0_0 l0_0.length c0_0] 25)).alloc (.cells #[.int .i64 x.f0, .int .i64 x.f1, .int .i64 x.f2, .int .i64 x.f3] 36)) (w.heap.size+1) x by have:=heap_alloc_new (w.alloc (.cells #[.slice A0_0 l0_0.length c0_0] 25)) (.cells #[.int .i64 x.f0, .int .i64 x.f1, .int .i64 x.f2, .int .i64 x.f3] 36);simpa [VX] using this)
   have HB1:=am (((Below.refl w.heap.size w).alloc (Nat.le_refl _) (.cells #[.slice A0_0 l0_0.length c0_0] 25)).alloc (by simp) (.cells #[.int .i64 x.f0, .int .i64 x.f1, .int .i64 x.f2, .int .i64 x.f3] 36))
   have hbt:=(Below.refl w.heap.size w).alloc (Nat.le_refl _) (.cells #[.slice A0_0 l0_0.length c0_0] 25)
   replace hx0:=jJa hbt hx0
   replace hx1:=jJa hbt hx1
   replace hx2:=jJa hbt hx2
   replace hx3:=jJa hbt hx3
   clear hbt
   have p0:=ezT h0
   have p1:=ezT h1
   cases v with
   | false =>
    obtain rfl:false=r:=by simpa using h
    clear h
    go_enter Try.func79,Try.ntmps79
    go_wp2_with (first |(go_at_call 93;refine (HN.out _ HB1.out).mono ?_;rintro e w2 ⟨rfl,hb2⟩;have X2:=am (VX.below X1.out hb2);have HB2:=am (jua HB1.out HB1.out.size hb2);clear hb2;obtain ⟨e0,e1,e2,e3⟩:=VX.cells X2.out))
    go_ret
    exact ⟨rfl,HB2.out⟩
   | true =>
    simp only [Bool.true_eq_false,if_false] at h
    cases h5:jB.inB x.f0 0 5 with
    | false =>
     have H5:=am h5
     rw [h5,if_pos rfl] at h
     obtain rfl:false=r:=by simpa using h
     clear h h5
     go_enter Try.func79,Try.ntmps79
     go_wp2_with (first |(go_at_call 93;refine (HN.out _ HB1.out).mono ?_;rintro e w2 ⟨rfl,hb2⟩;have X2:=am (VX.below X1.out hb2);have HB2:=am (jua HB1.out HB1.out.size hb2);clear hb2;obtain ⟨e0,e1,e2,e3⟩:=VX.cells X2.out) |(go_at_call 61;refine (jQ.calls _ _ _ _ _ (jKc _ _ _)).mono ?_;rintro e w3 ⟨rfl,hd3⟩;have hb3:=hd3.below;clear hd3;have X3:=am (VX.below X2.out hb3);have HB3:=am (jua HB2.out HB2.out.size hb3);clear hb3 e0 e1 e2 e3;obtain ⟨e0,e1,e2,e3⟩:=VX.cells X3.out;rw [H5.out]))
     go_ret
     exact ⟨rfl,HB3.out⟩
    | true =>
     have H5:=am h5
     rw [h5] at h
     simp only [Bool.true_eq_false,if_false] at h
     clear h5
     have HH:=am h
     clear h
     go_enter Try.func79,Try.ntmps79
     go_upto_region 4 with (first |(go_at_call 93;refine (HN.out _ HB1.out).mono ?_;rintro e w2 ⟨rfl,hb2⟩;have X2:=am (VX.below X1.out hb2);have HB2:=am (jua HB1.out HB1.out.size hb2);clear hb2;obtain ⟨e0,e1,e2,e3⟩:=VX.cells X2.out) |(go_at_call 61;refine (jQ.calls _ _ _ _ _ (jKc _ _ _)).mono ?_;rintro e w3 ⟨rfl,hd3⟩;have hb3:=hd3.below;clear hd3;have X3:=am (VX.below X2.out hb3);have HB3:=am (jua HB2.out HB2.out.size hb3);clear hb3 e0 e1 e2 e3;obtain ⟨e0,e1,e2,e3⟩:=VX.cells X3.out;rw [H5.out]))
     go_cut [77] (fun v77 wc=>v77=.bool (jB.off l1 a2 x)∧jo (VX wc (w.heap.size+1) x)∧jo (Below w.heap.size w wc))
     case first =>
      clear HH
      have HO:=am (fun (a:Int) (b:Bool) (hb:jB.inB a 7 12=b) W=>(jmd.calls a b W (by rw [spec_opens_eq,hb])).mono fun e w' h=>(⟨h.1,h.2.out⟩:e=.returned (.bool b)∧∃ m,w'=W.drewN m))
      have hw2:IntKind.i64.wrap (a2+1)=a2+1:=IntWalk.i64_in _ (by omega)
      by_cases z0:a2=0
      ·have b0:(a2 == 0)=true:=beq_iff_eq.2 z0
       have b0':decide (0<a2)=false:=dzF (by omega)
       by_cases zx:x.f0=0
       ·have b1:(x.f0 != 0)=false:=by simpa using zx
        have HE:=am (by unfold jB.off;rw [if_pos z0];simp [zx]:jB.off l1 a2 x=(decide (a2+1=(l1.length:Int)) && jB.inB x.f1 7 12))
        clear z0
        clear zx
        by_cases zl:a2+1=(l1.length:Int)
        ·have b3:(a2+1 == (l1.length:Int))=true:=by rw [beq_iff_eq];omega
         cases hx:jB.inB x.f1 7 12 with
         | true =>
          have HX:=am hx
          have HF:=am (by rw [HE.out,hx,dzT zl];rfl:jB.off l1 a2 x=true)
          clear zl hx HE
          go_big_quiet ((go_at_call 94;exact Calls.quiet_of (HO.out x.f1 _ HX.out _)))
          go_wp2
          go_meet
          case rel=>exact ⟨by rw [HF.out],X3,⟨jq HB3.out _⟩⟩
         | false =>
          have HX:=am hx
          have HF:=am (by rw [HE.out,hx];simp:jB.off l1 a2 x=false)
          clear zl hx HE
          go_big_quiet ((go_at_call 94;exact Calls.quiet_of (HO.out x.f1 _ HX.out _)))
          go_wp2
          go_meet
          case rel=>exact ⟨by rw [HF.out],X3,⟨jq HB3.out _⟩⟩
        ·have b3:(a2+1 == (l1.length:Int))=false:=by rw [beq_eq_false_iff_ne];omega
         have HF:=am (by rw [HE.out,dzF zl];rfl:jB.off l1 a2 x=false)
         clear zl HE
         go_big_quiet (fail)
         go_wp2
         go_meet
         case rel=>exact ⟨by rw [HF.out],X3,⟨jq HB3.out _⟩⟩
       ·have b1:(x.f0 != 0)=true:=by simpa using zx
        have HF:=am (by unfold jB.off;rw [if_pos z0];simp [zx]:jB.off l1 a2 x=true)
        clear zx z0
        go_big_quiet (fail)
        go_wp2
        go_meet
        case rel=>exact ⟨by rw [HF.out],X3,⟨jq HB3.out _⟩⟩
      ·have b0:(a2 == 0)=false:=beq_eq_false_iff_ne.2 z0
       have b0':decide (0<a2)=true:=dzT (by omega)
       have q0:0≤a2 - 1:=by omega
       have q1:a2 - 1<(l1.length:Int):=by omega
       obtain ⟨j,hj⟩:∃ j,a2 - 1=j:=⟨_,rfl⟩
       rw [hj] at q0 q1
       obtain ⟨ad',he,y0,y1,y2,y3⟩:=jsa HR1.out j q0 q1
       cases he
       replace y0:=jJa HB3.out y0
       replace y1:=jJa HB3.out y1
       clear y2 y3
       replace q0:=ezT q0
       replace q1:=ezT q1
       have HD:=am (by unfold jB.off;rw [if_neg z0]:jB.off l1 a2 x=if (if (wrap64 ((je l1 (a2 - 1)).f0+1))<x.f0 then true else (jB.inB (je l1 (a2 - 1)).f1 7 12 != (x.f0 == wrap64 ((je l1 (a2 - 1)).f0+1)))) then true else decide (a2+1=(l1.length:Int)) && jB.inB x.f1 7 12)
       clear z0
       rw [hj] at HD
       generalize je l1 j=y at HD y0 y1
       generalize hz:wrap64 (y.f0+1)=z at HD
       have HZ:=am hz
       by_cases zt:z<x.f0
       ·have b4:decide (z<x.f0)=true:=dzT zt
        have HF:=am (by rw [HD.out];simp [zt]:jB.off l1 a2 x=true)
        clear zt HD
        go_big_quiet (fail)
        go_wp2
        go_meet
        case rel=>exact ⟨by rw [HF.out],X3,⟨jq HB3.out _⟩⟩
       ·have b4:decide (z<x.f0)=false:=dzF zt
        cases hy:jB.inB y.f1 7 12 with
        | true =>
         have HY:=am hy
         by_cases ze:x.f0=z
         ·have b5:(x.f0 == z)=true:=beq_iff_eq.2 ze
          have HE:=am (by rw [HD.out,hy,b5];simp [zt]:jB.off l1 a2 x=(decide (a2+1=(l1.length:Int)) && jB.inB x.f1 7 12))
          clear zt HD hy ze
          by_cases zl:a2+1=(l1.length:Int)
          ·have b3:(a2+1 == (l1.length:Int))=true:=by rw [beq_iff_eq];omega
           cases hx:jB.inB x.f1 7 12 with
           | true =>
            have HX:=am hx
            have HF:=am (by rw [HE.out,hx,dzT zl];rfl:jB.off l1 a2 x=true)
            clear zl hx HE
            go_big_quiet (first |(go_at_call 94;exact Calls.quiet_of (HO.out y.f1 _ HY.out _)) |(go_at_call 94;exact Calls.quiet_of (HO.out x.f1 _ HX.out _)))
            go_wp2
            go_meet
            case rel=>exact ⟨by rw [HF.out],X3,⟨jq HB3.out _⟩⟩
           | false =>
            have HX:=am hx
            have HF:=am (by rw [HE.out,hx];simp:jB.off l1 a2 x=false)
            clear zl hx HE
            go_big_quiet (first |(go_at_call 94;exact Calls.quiet_of (HO.out y.f1 _ HY.out _)) |(go_at_call 94;exact Calls.quiet_of (HO.out x.f1 _ HX.out _)))
            go_wp2
            go_meet
            case rel=>exact ⟨by rw [HF.out],X3,⟨jq HB3.out _⟩⟩
          ·have b3:(a2+1 == (l1.length:Int))=false:=by rw [beq_eq_false_iff_ne];omega
           have HF:=am (by rw [HE.out,dzF zl];rfl:jB.off l1 a2 x=false)
           clear zl HE
           go_big_quiet ((go_at_call 94;exact Calls.quiet_of (HO.out y.f1 _ HY.out _)))
           go_wp2
           go_meet
           case rel=>exact ⟨by rw [HF.out],X3,⟨jq HB3.out _⟩⟩
         ·have b5:(x.f0 == z)=false:=beq_eq_false_iff_ne.2 ze
          have HF:=am (by rw [HD.out,hy,b5];simp:jB.off l1 a2 x=true)
          clear zt HD hy ze
          go_big_quiet ((go_at_call 94;exact Calls.quiet_of (HO.out y.f1 _ HY.out _)))
          go_wp2
          go_meet
          case rel=>exact ⟨by rw [HF.out],X3,⟨jq HB3.out _⟩⟩
        | false =>
         have HY:=am hy
         by_cases ze:x.f0=z
         ·have b5:(x.f0 == z)=true:=beq_iff_eq.2 ze
          have HF:=am (by rw [HD.out,hy,b5];simp:jB.off l1 a2 x=true)
          clear zt HD hy ze
          go_big_quiet ((go_at_call 94;exact Calls.quiet_of (HO.out y.f1 _ HY.out _)))
          go_wp2
          go_meet
          case rel=>exact ⟨by rw [HF.out],X3,⟨jq HB3.out _⟩⟩
         ·have b5:(x.f0 == z)=false:=beq_eq_false_iff_ne.2 ze
          have HE:=am (by rw [HD.out,hy,b5];simp [zt]:jB.off l1 a2 x=(decide (a2+1=(l1.length:Int)) && jB.inB x.f1 7 12))
          clear zt HD hy ze
          by_cases zl:a2+1=(l1.length:Int)
          ·have b3:(a2+1 == (l1.length:Int))=true:=by rw [beq_iff_eq];omega
           cases hx:jB.inB x.f1 7 12 with
           | true =>
            have HX:=am hx
            have HF:=am (by rw [HE.out,hx,dzT zl];rfl:jB.off l1 a2 x=true)
            clear zl hx HE
            go_big_quiet (first |(go_at_call 94;exact Calls.quiet_of (HO.out y.f1 _ HY.out _)) |(go_at_call 94;exact Calls.quiet_of (HO.out x.f1 _ HX.out _)))
            go_wp2
            go_meet
            case rel=>exact ⟨by rw [HF.out],X3,⟨jq HB3.out _⟩⟩
           | false =>
            have HX:=am hx
            have HF:=am (by rw [HE.out,hx];simp:jB.off l1 a2 x=false)
            clear zl hx HE
            go_big_quiet (first |(go_at_call 94;exact Calls.quiet_of (HO.out y.f1 _ HY.out _)) |(go_at_call 94;exact Calls.quiet_of (HO.out x.f1 _ HX.out _)))
            go_wp2
            go_meet
            case rel=>exact ⟨by rw [HF.out],X3,⟨jq HB3.out _⟩⟩
          ·have b3:(a2+1 == (l1.length:Int))=false:=by rw [beq_eq_false_iff_ne];omega
           have HF:=am (by rw [HE.out,dzF zl];rfl:jB.off l1 a2 x=false)
           clear zl HE
           go_big_quiet ((go_at_call 94;exact Calls.quiet_of (HO.out y.f1 _ HY.out _)))
           go_wp2
           go_meet
           case rel=>exact ⟨by rw [HF.out],X3,⟨jq HB3.out _⟩⟩
     case rest =>
      obtain ⟨rfl,X4,HB4⟩:=hcut
      clear X1 HB1
      have h:=HH.out
      clear HH
      obtain ⟨e0,e1,e2,e3⟩:=VX.cells X4.out
      have tok:True:=trivial
      have HO:=am (fun (a:Int) (b:Bool) (hb:jB.inB a 8 10=b) W=>jdc.calls a b W (by rw [spec_follows_eq,hb]))
      cases ho:jB.off l1 a2 x with
      | true =>
       rw [ho,if_pos rfl] at h
       obtain rfl:false=r:=by simpa using h
       clear h ho
       go_wp2
       go_ret
       exact ⟨rfl,HB4.out⟩
      | false =>
       rw [ho] at h
       simp only [Bool.false_eq_true,if_false] at h
       clear ho
       obtain ⟨c,hc,h⟩:=bzS h
       by_cases z7:x.f1=7
       ·rw [if_pos z7] at hc
        have HC:=am (fun W (hb:Below w.heap.size w W)=>jN.calls k _ c1 l1 a2 c W (Kd.jI HR1.out hb) hc1 hc)
        have b7:(x.f1 == 7)=true:=beq_iff_eq.2 z7
        have b5:(x.f1 == 5)=false:=beq_eq_false_iff_ne.2 (by omega)
        have b6:(x.f1 == 6)=false:=beq_eq_false_iff_ne.2 (by omega)
        cases c with
        | false =>
         obtain rfl:false=r:=by simpa using h
         clear h hc z7
         go_wp2_with (first |(go_at_call 95;refine (HC.out _ HB4.out).mono ?_;rintro e w5 ⟨rfl,hb5⟩;have X5:=am (VX.below X4.out hb5);have HB5:=am (jua HB4.out HB4.out.size hb5);clear hb5 e0 e1 e2 e3;obtain ⟨e0,e1,e2,e3⟩:=VX.cells X5.out))
         go_ret
         exact ⟨rfl,HB5.out⟩
        | true =>
         have hx:jB.inB x.f1 8 10=false:=by unfold jB.inB;rw [z7];rfl
         have HX:=am hx
         obtain rfl:true=r:=by simpa [z7,show jB.inB 7 8 10=false from rfl] using h
         clear h hc z7 hx
         go_wp2_with (first |(go_at_call 95;refine (HC.out _ HB4.out).mono ?_;rintro e w5 ⟨rfl,hb5⟩;have X5:=am (VX.below X4.out hb5);have HB5:=am (jua HB4.out HB4.out.size hb5);clear hb5 e0 e1 e2 e3;obtain ⟨e0,e1,e2,e3⟩:=VX.cells X5.out) |(go_at_call 85;have tk:=tok;clear tok;refine (HO.out x.f1 _ HX.out _).mono ?_;rintro e w6 ⟨rfl,hd6⟩;have hb6:=hd6.below;clear hd6;have X6:=am (VX.below X5.out hb6);have HB6:=am (jua HB5.out HB5.out.size hb6);clear hb6 e0 e1 e2 e3;obtain ⟨e0,e1,e2,e3⟩:=VX.cells X6.out))
         go_ret
         exact ⟨rfl,HB6.out⟩
       ·rw [if_neg z7] at hc
        obtain rfl:true=c:=by simpa using hc
        clear hc
        have b7:(x.f1 == 7)=false:=beq_eq_false_iff_ne.2 z7
        simp only [Bool.true_eq_false,if_false] at h
        obtain ⟨c,hc,h⟩:=bzS h
        by_cases z56:x.f1=5∨x.f1=6
        ·rw [if_pos z56] at hc
         have HC:=am (fun W (hb:Below w.heap.size w W)=>jmb.calls k _ c1 l1 a2 c W (Kd.jI HR1.out hb) hc1 hc)
         have hx:jB.inB x.f1 8 10=false:=by rcases z56 with z | z <;> (unfold jB.inB;rw [z];rfl)
         have HX:=am hx
         cases c with
         | false =>
          obtain rfl:false=r:=by simpa using h
          clear h hc hx
          rcases z56 with z | z
          ·have b5:(x.f1 == 5)=true:=beq_iff_eq.2 z
           clear z z7
           go_wp2_with (first |(go_at_call 96;refine (HC.out _ HB4.out).mono ?_;rintro e w5 ⟨rfl,hd5⟩;have hb5:=hd5.below;clear hd5;have X5:=am (VX.below X4.out hb5);have HB5:=am (jua HB4.out HB4.out.size hb5);clear hb5 e0 e1 e2 e3;obtain ⟨e0,e1,e2,e3⟩:=VX.cells X5.out))
           go_ret
           exact ⟨rfl,HB5.out⟩
          ·have b5:(x.f1 == 5)=false:=beq_eq_false_iff_ne.2 (by omega)
           have b6:(x.f1 == 6)=true:=beq_iff_eq.2 z
           clear z z7
           go_wp2_with (first |(go_at_call 96;refine (HC.out _ HB4.out).mono ?_;rintro e w5 ⟨rfl,hd5⟩;have hb5:=hd5.below;clear hd5;have X5:=am (VX.below X4.out hb5);have HB5:=am (jua HB4.out HB4.out.size hb5);clear hb5 e0 e1 e2 e3;obtain ⟨e0,e1,e2,e3⟩:=VX.cells X5.out))
           go_ret
           exact ⟨rfl,HB5.out⟩
         | true =>
          obtain rfl:true=r:=by simpa [hx] using h
          clear h hc hx
          rcases z56 with z | z
          ·have b5:(x.f1 == 5)=true:=beq_iff_eq.2 z
           clear z z7
           go_wp2_with (first |(go_at_call 96;refine (HC.out _ HB4.out).mono ?_;rintro e w5 ⟨rfl,hd5⟩;have hb5:=hd5.below;clear hd5;have X5:=am (VX.below X4.out hb5);have HB5:=am (jua HB4.out HB4.out.size hb5);clear hb5 e0 e1 e2 e3;obtain ⟨e0,e1,e2,e3⟩:=VX.cells X5.out) |(go_at_call 85;have tk:=tok;clear tok;refine (HO.out x.f1 _ HX.out _).mono ?_;rintro e w6 ⟨rfl,hd6⟩;have hb6:=hd6.below;clear hd6;have X6:=am (VX.below X5.out hb6);have HB6:=am (jua HB5.out HB5.out.size hb6);clear hb6 e0 e1 e2 e3;obtain ⟨e0,e1,e2,e3⟩:=VX.cells X6.out))
           go_ret
           exact ⟨rfl,HB6.out⟩
          ·have b5:(x.f1 == 5)=false:=beq_eq_false_iff_ne.2 (by omega)
           have b6:(x.f1 == 6)=true:=beq_iff_eq.2 z
           clear z z7
           go_wp2_with (first |(go_at_call 96;refine (HC.out _ HB4.out).mono ?_;rintro e w5 ⟨rfl,hd5⟩;have hb5:=hd5.below;clear hd5;have X5:=am (VX.below X4.out hb5);have HB5:=am (jua HB4.out HB4.out.size hb5);clear hb5 e0 e1 e2 e3;obtain ⟨e0,e1,e2,e3⟩:=VX.cells X5.out) |(go_at_call 85;have tk:=tok;clear tok;refine (HO.out x.f1 _ HX.out _).mono ?_;rintro e w6 ⟨rfl,hd6⟩;have hb6:=hd6.below;clear hd6;have X6:=am (VX.below X5.out hb6);have HB6:=am (jua HB5.out HB5.out.size hb6);clear hb6 e0 e1 e2 e3;obtain ⟨e0,e1,e2,e3⟩:=VX.cells X6.out))
           go_ret
           exact ⟨rfl,HB6.out⟩
        ·rw [if_neg z56] at hc
         obtain rfl:true=c:=by simpa using hc
         clear hc
         have b5:(x.f1 == 5)=false:=beq_eq_false_iff_ne.2 (fun z=>z56 (.inl z))
         have b6:(x.f1 == 6)=false:=beq_eq_false_iff_ne.2 (fun z=>z56 (.inr z))
         simp only [Bool.true_eq_false,if_false] at h
         clear z7 z56
         cases hx:jB.inB x.f1 8 10 with
         | false =>
          have HX:=am hx
          rw [hx,if_pos rfl] at h
          obtain rfl:true=r:=by simpa using h
          clear h hx
          go_wp2_with (first |(go_at_call 85;have tk:=tok;clear tok;refine (HO.out x.f1 _ HX.out _).mono ?_;rintro e w6 ⟨rfl,hd6⟩;have hb6:=hd6.below;clear hd6;have X6:=am (VX.below X4.out hb6);have HB6:=am (jua HB4.out HB4.out.size hb6);clear hb6 e0 e1 e2 e3;obtain ⟨e0,e1,e2,e3⟩:=VX.cells X6.out))
          go_ret
          exact ⟨rfl,HB6.out⟩
         | true =>
          have HX:=am hx
          rw [hx] at h
          simp only [Bool.true_eq_false,if_false] at h
          clear hx
          obtain ⟨q,hq,h⟩:=bzS h
          have HQ:=am (fun W (hb:Below w.heap.size w W)=>jnb.calls k _ c1 l1 a2 q W (Kd.jI HR1.out hb) hc1 hq)
          clear hq
          by_cases q0:0≤q
          ·rw [if_pos q0] at h
           have q0b:=dzT q0
           by_cases q1:q<(l1.length:Int)
           ·rw [if_pos q1] at h
            obtain ⟨ad',he,y0,y1,y2,y3⟩:=jsa HR1.out q q0 q1
            cases he
            generalize je l1 q=y at h y0 y1
            have HK:=am y1
            clear y0 y1 y2 y3
            have q0:=ezT q0
            have q1:=ezT q1
            by_cases zy:y.f1=7
            ·have by7:(y.f1 == 7)=true:=beq_iff_eq.2 zy
             obtain rfl:true=r:=by simpa [zy] using h
             clear h zy
             go_wp2_with (first |(go_at_call 85;have tk:=tok;clear tok;refine (HO.out x.f1 _ HX.out _).mono ?_;rintro e w6 ⟨rfl,hd6⟩;have hb6:=hd6.below;clear hd6;have X6:=am (VX.below X4.out hb6);have HB6:=am (jua HB4.out HB4.out.size hb6);clear hb6 e0 e1 e2 e3;obtain ⟨e0,e1,e2,e3⟩:=VX.cells X6.out) |(go_at_call 97;refine (HQ.out _ HB6.out).mono ?_;rintro e w7 ⟨rfl,hd7⟩;have hb7:=hd7.below;clear hd7;have X7:=am (VX.below X6.out hb7);have HB7:=am (jua HB6.out HB6.out.size hb7);clear hb7 e0 e1 e2 e3;obtain ⟨e0,e1,e2,e3⟩:=VX.cells X7.out;have y1:=jJa HB7.out HK.out))
             go_ret
             exact ⟨rfl,HB7.out⟩
            ·have by7:(y.f1 == 7)=false:=beq_eq_false_iff_ne.2 zy
             cases hy:jB.inB y.f1 8 10 with
             | true =>
              have HY:=am hy
              obtain rfl:true=r:=by rw [hy,by7] at h;simpa using h
              clear h hy zy
              go_wp2_with (first |(go_at_call 85;have tk:=tok;clear tok;refine (HO.out x.f1 _ HX.out _).mono ?_;rintro e w6 ⟨rfl,hd6⟩;have hb6:=hd6.below;clear hd6;have X6:=am (VX.below X4.out hb6);have HB6:=am (jua HB4.out HB4.out.size hb6);clear hb6 e0 e1 e2 e3;obtain ⟨e0,e1,e2,e3⟩:=VX.cells X6.out) |(go_at_call 97;refine (HQ.out _ HB6.out).mono ?_;rintro e w7 ⟨rfl,hd7⟩;have hb7:=hd7.below;clear hd7;have X7:=am (VX.below X6.out hb7);have HB7:=am (jua HB6.out HB6.out.size hb7);clear hb7 e0 e1 e2 e3;obtain ⟨e0,e1,e2,e3⟩:=VX.cells X7.out;have y1:=jJa HB7.out HK.out) |(go_at_call 85;refine (HO.out y.f1 _ HY.out _).mono ?_;rintro e w8 ⟨rfl,hd8⟩;have hb8:=hd8.below;clear hd8;have X8:=am (VX.below X7.out hb8);have HB8:=am (jua HB7.out HB7.out.size hb8);clear hb8 e0 e1 e2 e3;obtain ⟨e0,e1,e2,e3⟩:=VX.cells X8.out))
              go_ret
              exact ⟨rfl,HB8.out⟩
             | false =>
              have HY:=am hy
              obtain rfl:false=r:=by rw [hy,by7] at h;simpa using h
              clear h hy zy
              go_wp2_with (first |(go_at_call 85;have tk:=tok;clear tok;refine (HO.out x.f1 _ HX.out _).mono ?_;rintro e w6 ⟨rfl,hd6⟩;have hb6:=hd6.below;clear hd6;have X6:=am (VX.below X4.out hb6);have HB6:=am (jua HB4.out HB4.out.size hb6);clear hb6 e0 e1 e2 e3;obtain ⟨e0,e1,e2,e3⟩:=VX.cells X6.out) |(go_at_call 97;refine (HQ.out _ HB6.out).mono ?_;rintro e w7 ⟨rfl,hd7⟩;have hb7:=hd7.below;clear hd7;have X7:=am (VX.below X6.out hb7);have HB7:=am (jua HB6.out HB6.out.size hb7);clear hb7 e0 e1 e2 e3;obtain ⟨e0,e1,e2,e3⟩:=VX.cells X7.out;have y1:=jJa HB7.out HK.out) |(go_at_call 85;refine (HO.out y.f1 _ HY.out _).mono ?_;rintro e w8 ⟨rfl,hd8⟩;have hb8:=hd8.below;clear hd8;have X8:=am (VX.below X7.out hb8);have HB8:=am (jua HB7.out HB7.out.size hb8);clear hb8 e0 e1 e2 e3;obtain ⟨e0,e1,e2,e3⟩:=VX.cells X8.out))
              go_ret
              exact ⟨rfl,HB8.out⟩
           ·rw [if_neg q1] at h
            cases h
          ·rw [if_neg q0] at h
           have q0b:=dzF q0
           obtain rfl:false=r:=by simpa using h
           clear h q0
           go_wp2_with (first |(go_at_call 85;have tk:=tok;clear tok;refine (HO.out x.f1 _ HX.out _).mono ?_;rintro e w6 ⟨rfl,hd6⟩;have hb6:=hd6.below;clear hd6;have X6:=am (VX.below X4.out hb6);have HB6:=am (jua HB4.out HB4.out.size hb6);clear hb6 e0 e1 e2 e3;obtain ⟨e0,e1,e2,e3⟩:=VX.cells X6.out) |(go_at_call 97;refine (HQ.out _ HB6.out).mono ?_;rintro e w7 ⟨rfl,hd7⟩;have hb7:=hd7.below;clear hd7;have X7:=am (VX.below X6.out hb7);have HB7:=am (jua HB6.out HB6.out.size hb7);clear hb7 e0 e1 e2 e3;obtain ⟨e0,e1,e2,e3⟩:=VX.cells X7.out))
           go_ret
           exact ⟨rfl,HB7.out⟩
  ·rw [if_neg h1] at h
   cases h
 ·rw [if_neg h0] at h
  cases h
def jdb.l0 : Nat → ByteArray → Int → Option (Bool)
 | 0,_,_=>none
 | k+1,x0,x3=>if x3<(x0.size:Int) then (if 0≤x3 then (if (bt x0 x3)<97 then (some false) else (if (bt x0 x3) > 122 then (some false) else (jdb.l0 k x0 (wrap64 (x3+1))))) else (none)) else ((jQ.f (x0.size:Int) 1 6).bind fun t577=>(some t577))
def jdb.f (k : Nat) (a0 : ByteArray) : Option (Bool) := jdb.l0 k a0 0
set_option maxHeartbeats 8000000 in
set_option maxRecDepth 100000 in
theorem jdb.calls (k : Nat) (a0 : ByteArray) (r : Bool) (w : World) (h : jdb.f k a0 = some r) :
  Calls Try.prog 98 #[.string a0] w fun e w'=>e=.returned (.bool r)∧jwb w w':=by
 have H:(jdb.l0 k a0 0)=some r:=h
 clear h
 have H':=am H
 clear H
 go_enter Try.func98,Try.ntmps98
 go_wp2
 go_loopg [3] k (fun kq v3 w'=>∃ (x3_1:Int),v3=.int .i64 x3_1∧jo (jdb.l0 kq a0 x3_1=some r)∧jo (kq≤k)∧jwb w w')
 case atStart=>exact ⟨(0),(sq),H',⟨Nat.le_refl _⟩,Y4⟩
 case round =>
  clear H'
  obtain ⟨x3_1,rfl,HA,HK1,⟨m1,rfl⟩⟩:=hrel
  cases gk with
  | zero=>exact absurd HA.out (by simp [jdb.l0])
  | succ k1 =>
   have H:=HA.out
   clear HA
   simp only [jdb.l0] at H
   by_cases c2:x3_1<(a0.size:Int)
   ·rw [if_pos c2] at H
    have c2b0:decide (x3_1<(a0.size:Int))=true:=dzT c2
    clear c2
    by_cases c3:0≤x3_1
    ·rw [if_pos c3] at H
     have c3b0:decide (0≤x3_1)=true:=dzT c3
     clear c3
     by_cases c5:(bt a0 x3_1)<97
     ·rw [if_pos c5] at H
      have c5b0:decide ((bt a0 x3_1)<97)=true:=dzT c5
      clear c5
      obtain rfl:=Option.some.inj H
      have p4:0≤(x3_1:Int):=ozD (uq)
      have q4:x3_1<(a0.size:Int):=ozD (uq)
      have hx4:=bt_at a0 x3_1
      replace p4:=ezT p4
      replace q4:=ezT q4
      go_wp2
      go_ret
      exact ⟨sq,Y4⟩
     ·rw [if_neg c5] at H
      have c5b0:decide ((bt a0 x3_1)<97)=false:=dzF c5
      clear c5
      by_cases c7:(bt a0 x3_1) > 122
      ·rw [if_pos c7] at H
       have c7b0:decide (122<(bt a0 x3_1))=true:=dzT c7
       clear c7
       obtain rfl:=Option.some.inj H
       have p4:0≤(x3_1:Int):=ozD (uq)
       have q4:x3_1<(a0.size:Int):=ozD (uq)
       have hx4:=bt_at a0 x3_1
       replace p4:=ezT p4
       replace q4:=ezT q4
       have p6:0≤(x3_1:Int):=ozD (uq)
       have q6:x3_1<(a0.size:Int):=ozD (uq)
       have hx6:=bt_at a0 x3_1
       replace p6:=ezT p6
       replace q6:=ezT q6
       go_wp2
       go_ret
       exact ⟨sq,Y4⟩
      ·rw [if_neg c7] at H
       have c7b0:decide (122<(bt a0 x3_1))=false:=dzF c7
       clear c7
       have H':=am H
       clear H
       have p4:0≤(x3_1:Int):=ozD (uq)
       have q4:x3_1<(a0.size:Int):=ozD (uq)
       have hx4:=bt_at a0 x3_1
       replace p4:=ezT p4
       replace q4:=ezT q4
       have p6:0≤(x3_1:Int):=ozD (uq)
       have q6:x3_1<(a0.size:Int):=ozD (uq)
       have hx6:=bt_at a0 x3_1
       replace p6:=ezT p6
       replace q6:=ezT q6
       go_wp2
       go_roundg k1
       case measure=>have:=HK1.out;omega
       case rel=>exact ⟨(wrap64 (x3_1+1)),(sq),H',⟨by have:=HK1.out;omega⟩,Y4⟩
    ·rw [if_neg c3] at H
     exact absurd H (by simp)
   ·rw [if_neg c2] at H
    have c2b0:decide (x3_1<(a0.size:Int))=false:=dzF c2
    clear c2
    replace H:=bzS H
    obtain ⟨t577,A80,H⟩:=H
    replace H:(some t577)=some r:=H
    have A8:=am A80
    clear A80
    obtain rfl:=Option.some.inj H
    go_wp2_with (first |((with_reducible refine jc (f:=61) rfl ?_);refine gL (some 22) Try.func61 #[.int .i64 (a0.size:Int), .int .i64 1, .int .i64 6] ?_;(with_reducible refine (jQ.calls (a0.size:Int) 1 6 t577 _ A8.out).mono ?_);rintro e w' ⟨rfl,⟨nd,rfl⟩⟩;refine ⟨_,rfl,?_⟩))
    go_ret
    exact ⟨sq,Y4⟩
def jWa.l0 : Nat → List (S75) → ByteArray → Int → Option (Int)
 | 0,_,_,_=>none
 | k+1,x0,x1,x5=>if x5<(x0.length:Int) then (if 0≤x5 then (if ((jma x0 x5).f0).toList=x1.toList then (some x5) else (jWa.l0 k x0 x1 (wrap64 (x5+1)))) else (none)) else (some (-1))
def jWa.f (k : Nat) (l0 : List (S75)) (a1 : ByteArray) : Option (Int) := jWa.l0 k l0 a1 0
set_option maxHeartbeats 8000000 in
set_option maxRecDepth 100000 in
theorem jWa.calls (k : Nat) (A0 : Option Addr) (c0 : Nat) (l0 : List (S75)) (a1 : ByteArray) (r : Int) (w : World) (hr0 : Kd.C k75 w A0 l0.length l0) (hc0 : l0.length ≤ c0) (h : jWa.f k l0 a1 = some r) :
  Calls Try.prog 99 #[.slice A0 l0.length c0, .string a1] w fun e w'=>e=.returned (.int .i64 r)∧jwb w w':=by
 have HR0:=am hr0
 have HC0:=am hc0
 clear hr0 hc0
 have H:(jWa.l0 k l0 a1 0)=some r:=h
 clear h
 have H':=am H
 clear H
 go_enter Try.func99,Try.ntmps99
 go_wp2
 go_loopg [5] k (fun kq v5 w'=>∃ (x5_1:Int),v5=.int .i64 x5_1∧jo (jWa.l0 kq l0 a1 x5_1=some r)∧jo (kq≤k)∧jwb w w')
 case atStart=>exact ⟨(0),(sq),H',⟨Nat.le_refl _⟩,Y4⟩
 case round =>
  clear H'
  try clear p2
  obtain ⟨x5_1,rfl,HA,HK1,⟨m1,rfl⟩⟩:=hrel
  cases gk with
  | zero=>exact absurd HA.out (by simp [jWa.l0])
  | succ k1 =>
   have H:=HA.out
   clear HA
   simp only [jWa.l0] at H
   by_cases c3:x5_1<(l0.length:Int)
   ·rw [if_pos c3] at H
    have c3b0:decide (x5_1<(l0.length:Int))=true:=dzT c3
    clear c3
    by_cases c4:0≤x5_1
    ·rw [if_pos c4] at H
     have c4b0:decide (0≤x5_1)=true:=dzT c4
     clear c4
     by_cases c5:((jma l0 x5_1).f0).toList=a1.toList
     ·rw [if_pos c5] at H
      have c5b0:(((jma l0 x5_1).f0).toList == a1.toList)=true:=beq_iff_eq.mpr c5
      have c5b1:(((jma l0 x5_1).f0).toList != a1.toList)=false:=bne_eq_false_iff_eq.mpr c5
      clear c5
      obtain rfl:=Option.some.inj H
      have p578:0≤(x5_1:Int):=ozD (uq)
      have q578:x5_1<(l0.length:Int):=ozD (uq)
      obtain ⟨ad578,e578,hx578_0,hx578_1⟩:=at_T75 HR0.out x5_1 p578 q578
      cases e578
      replace p578:=ezT p578
      replace q578:=ezT q578
      go_wp2
      go_ret
      exact ⟨sq,Y4⟩
     ·rw [if_neg c5] at H
      have c5b0:(((jma l0 x5_1).f0).toList == a1.toList)=false:=beq_eq_false_iff_ne.mpr c5
      have c5b1:(((jma l0 x5_1).f0).toList != a1.toList)=true:=bne_iff_ne.mpr c5
      have H':=am H
      clear H
      have p578:0≤(x5_1:Int):=ozD (uq)
      have q578:x5_1<(l0.length:Int):=ozD (uq)
      obtain ⟨ad578,e578,hx578_0,hx578_1⟩:=at_T75 HR0.out x5_1 p578 q578
      cases e578
      replace p578:=ezT p578
      replace q578:=ezT q578
      go_wp2
      go_roundg k1
      case measure=>have:=HK1.out;omega
      case rel=>exact ⟨(wrap64 (x5_1+1)),(sq),H',⟨by have:=HK1.out;omega⟩,Y4⟩
    ·rw [if_neg c4] at H
     exact absurd H (by simp)
   ·rw [if_neg c3] at H
    have c3b0:decide (x5_1<(l0.length:Int))=false:=dzF c3
    clear c3
    obtain rfl:=Option.some.inj H
    go_wp2
    go_ret
    exact ⟨sq,Y4⟩
mutual
def jX.l0 : Nat → Int → List (S75) → Option (Bool)
 | 0,_,_=>none
 | k+1,x3,x155000=>if x3<(x155000.length:Int) then (if 0≤x3 then ((jdb.f k ((jma x155000 x3).f0)).bind fun t158=>(if t158=true then (if x3≤(x155000.length:Int) then ((jWa.f k (x155000.take (x3:Int).toNat) ((jma x155000 x3).f0)).bind fun t163=>(if t163≥0 then (jX.j1 k x3 true x155000) else (if x3=0 then (if ((jma x155000 x3).f1)=(-1) then (if x3 > 0 then ((jQ.f ((jma x155000 x3).f1) 0 (wrap64 (x3 - 1))).bind fun t164=>(jX.j1 k x3 (!t164) x155000)) else (jX.j1 k x3 false x155000)) else (jX.j1 k x3 true x155000)) else (if x3 > 0 then ((jQ.f ((jma x155000 x3).f1) 0 (wrap64 (x3 - 1))).bind fun t165=>(jX.j1 k x3 (!t165) x155000)) else (jX.j1 k x3 false x155000))))) else (none)) else (jX.j1 k x3 true x155000))) else (none)) else ((jQ.f (x155000.length:Int) 1 8).bind fun t155=>(some t155))
def jX.j1 : Nat → Int → Bool → List (S75) → Option (Bool)
 | 0,_,_,_=>none
 | k+1,x3,x51,x155000=>if x51=true then (some false) else (jX.l0 k (wrap64 (x3+1)) x155000)
end
def jX.f (k : Nat) (l0_0 : List (S75)) : Option (Bool) := jX.l0 k 0 l0_0
set_option maxHeartbeats 8000000 in
set_option maxRecDepth 100000 in
theorem jX.calls (k : Nat) (A0_0 : Option Addr) (c0_0 : Nat) (l0_0 : List (S75)) (r : Bool) (w : World) (hr0_0 : Kd.C k75 w A0_0 l0_0.length l0_0) (hc0_0 : l0_0.length ≤ c0_0) (h : jX.f k l0_0 = some r) :
  Calls Try.prog 80 #[.agg #[.slice A0_0 l0_0.length c0_0]] w fun e w'=>e=.returned (.bool r)∧Below w.heap.size w w':=by
 have hu25:=Try.underlying25
 have hu75:=Try.underlying75
 have HR0_0:=am hr0_0
 have HC0_0:=am hc0_0
 clear hr0_0 hc0_0
 have HB:=am (Below.refl w.heap.size w)
 have H:(jX.l0 k 0 l0_0)=some r:=h
 clear h
 have H':=am H
 clear H
 go_enter Try.func80,Try.ntmps80
 go_wp2_with (first |((with_reducible refine jJ (N:=1) rfl ?_);refine bE (N:=1) (cs:=#[.slice A0_0 l0_0.length c0_0]) (t:=25) ?_;intro gb154 hg w2 hbox hb;have BK154:=am (hbox);have GW154:=am ((Y1:w.heap.size≤gb154));have GE154:=am ((Y1:w.heap.size≤gb154));replace HB:=am (jd (bq) hb);clear hb hbox hg))
 go_loopg [3] k (fun kq v3 w'=>∃ (x3_1:Int),v3=.int .i64 x3_1∧jo (jX.l0 kq x3_1 l0_0=some r)∧jo (kq≤k)∧jo (w'.heap[gb154]?=some (.cells #[(.slice A0_0 l0_0.length c0_0)] 25 (0,0)))∧jo (Below w.heap.size w w'))
 case atStart=>exact ⟨(0),(sq),H',⟨Nat.le_refl _⟩,⟨kq BK154.out⟩,⟨Y113⟩⟩
 case round =>
  clear H'
  try clear c1
  try clear p2
  obtain ⟨x3_1,rfl,HA,HK1,BK154,HB⟩:=hrel
  cases gk with
  | zero=>exact absurd HA.out (by simp [jX.l0])
  | succ k1 =>
   have H:=HA.out
   clear HA
   simp only [jX.l0] at H
   by_cases c3:x3_1<(l0_0.length:Int)
   ·rw [if_pos c3] at H
    have c3b0:decide (x3_1<(l0_0.length:Int))=true:=dzT c3
    clear c3
    by_cases c4:0≤x3_1
    ·rw [if_pos c4] at H
     have c4b0:decide (0≤x3_1)=true:=dzT c4
     clear c4
     have HC5:=am H
     clear H
     have hcz6_0:=bc0 BK154.out
     have hfz6_0:=ja BK154.out 0
     have p156:0≤(x3_1:Int):=ozD (uq)
     have q156:x3_1<(l0_0.length:Int):=ozD (uq)
     obtain ⟨ad156,e156,hx156_0,hx156_1⟩:=at_T75 HR0_0.out x3_1 p156 q156
     cases e156
     replace hx156_0:=cb HB.out hx156_0
     replace hx156_1:=cb HB.out hx156_1
     replace p156:=ezT p156
     replace q156:=ezT q156
     go_upto_region 5 with (first |((with_reducible refine jJ (N:=4) rfl ?_);refine bE (N:=4) (cs:=#[.string (⟨#[]⟩:ByteArray), .int .i64 0]) (t:=75) ?_;intro gb157 hg w7 hbox hb;have BK157:=am (hbox);have GW157:=am ((Y136:w.heap.size≤gb157));have GE157:=am ((Y136:w.heap.size≤gb157));have NB154_157:=am ((by rw [hg];exact Nat.ne_of_lt (jYb (g:=gb154) (o:=.cells #[.slice (some ad156) l0_0.length c0_0] 25 (0,0)) (kq BK154.out)):gb154≠gb157));have NB157_154:=am ((by rw [hg];exact Nat.ne_of_gt (jYb (g:=gb154) (o:=.cells #[.slice (some ad156) l0_0.length c0_0] 25 (0,0)) (kq BK154.out)):gb157≠gb154));replace BK154:=am (jh (g:=gb154) (o:=.cells #[.slice (some ad156) l0_0.length c0_0] 25 (0,0)) (kq BK154.out) hb);replace HB:=am (jd (Y113) hb);clear hb hbox hg;have hnb8:=NB157_154.out;have hnc8:=NB154_157.out;have hcz9_0:=bc0 BK157.out;have hcz9_1:=bc1 BK157.out;have hfz9_0:=ja BK157.out 0;have hfz9_1:=ja BK157.out 1))
     (try simp only [Act.put,List.setIfInBounds_toArray,List.set_cons_zero,List.set_cons_succ])
     go_cut [51] (fun v51 wc=>∃ (kq:Nat) (x51_4:Bool),v51=.bool x51_4∧jo (jX.j1 kq x3_1 x51_4 l0_0=some r)∧jo (kq≤k1)∧jo (wc.heap[gb154]?=some (.cells #[(.slice (some ad156) l0_0.length c0_0)] 25 (0,0)))∧jo (wc.heap[gb157]?=some (.cells #[.string ((jma l0_0 x3_1).f0), .int .i64 ((jma l0_0 x3_1).f1)] 75 (0,0)))∧jo (Below w.heap.size w wc))
     case first =>
      have n0_:jo (((w7.setCell ⟨gb157,0,none⟩ (.string ((jma l0_0 x3_1).f0))).setCell ⟨gb157,1,none⟩ (.int .i64 ((jma l0_0 x3_1).f1))).heap[gb154]?=some (.cells #[.slice (some ad156) l0_0.length c0_0] 25 (0,0))):=⟨by (with_reducible repeat (first | refine jy ?_ _ | refine jA ?_ | refine jC ?_ _));refine jDb ?_ NB154_157.out _;(with_reducible repeat (first | refine jy ?_ _ | refine jA ?_ | refine jC ?_ _));refine jDb ?_ NB154_157.out _;(with_reducible repeat (first | refine jy ?_ _ | refine jA ?_ | refine jC ?_ _));exact BK154.out⟩
      have n1_:jo (((w7.setCell ⟨gb157,0,none⟩ (.string ((jma l0_0 x3_1).f0))).setCell ⟨gb157,1,none⟩ (.int .i64 ((jma l0_0 x3_1).f1))).heap[gb157]?=some (.cells #[.string ((jma l0_0 x3_1).f0), .int .i64 ((jma l0_0 x3_1).f1)] 75 (0,0))):=⟨by (with_reducible repeat (first | refine jy ?_ _ | refine jA ?_ | refine jC ?_ _));refine jjb (cs:=#[.string ((jma l0_0 x3_1).f0), .int .i64 0]) ?_ 1 _ rfl;(with_reducible repeat (first | refine jy ?_ _ | refine jA ?_ | refine jC ?_ _));refine jjb (cs:=#[.string (⟨#[]⟩:ByteArray), .int .i64 0]) ?_ 0 _ rfl;(with_reducible repeat (first | refine jy ?_ _ | refine jA ?_ | refine jC ?_ _));exact BK157.out⟩
      have n2_:jo (Below w.heap.size w ((w7.setCell ⟨gb157,0,none⟩ (.string ((jma l0_0 x3_1).f0))).setCell ⟨gb157,1,none⟩ (.int .i64 ((jma l0_0 x3_1).f1)))):=⟨Y114⟩
      clear BK154 BK157 HB hcz9_0 hcz9_1 hfz9_0 hfz9_1
      generalize ((w7.setCell ⟨gb157,0,none⟩ (.string ((jma l0_0 x3_1).f0))).setCell ⟨gb157,1,none⟩ (.int .i64 ((jma l0_0 x3_1).f1)))=w16 at n0_ n1_ n2_ ⊢
      have BK154:=n0_
      have BK157:=n1_
      have HB:=n2_
      clear n0_ n1_ n2_
      have HRW:=am (Kd.jI HR0_0.out HB.out)
      have e0:w16.cell? ⟨gb157,0,none⟩=some (.string ((jma l0_0 x3_1).f0)):=(jH BK157.out 0).trans rfl
      have e1:w16.cell? ⟨gb157,1,none⟩=some (.int .i64 ((jma l0_0 x3_1).f1)):=(jH BK157.out 1).trans rfl
      have e2:w16.cell? ⟨gb154,0,none⟩=some (.slice (some ad156) l0_0.length c0_0):=(jH BK154.out 0).trans rfl
      have H:=HC5.out
      clear HC5
      obtain ⟨v,hv,H⟩:=bzS H
      have HN:=am (fun W=>(jdb.calls k1 _ v W hv).mono fun e w' h=>(⟨h.1,h.2.out⟩:e=.returned (.bool v)∧∃ m,w'=W.drewN m))
      clear hv hx156_0 hx156_1
      generalize hgx:jma l0_0 x3_1=x at H e0 e1 HN BK157
      have HGX:=am hgx
      clear hgx
      cases v with
      | false =>
       have H':=am (show jX.j1 k1 x3_1 true l0_0=some r from H)
       clear H
       go_big_quiet ((go_at_call 98;exact Calls.quiet_of (HN.out _)))
       go_wp2
       go_meet
       case rel=>exact ⟨_,_,rfl,H',⟨by have:=HK1.out;omega⟩,⟨jy BK154.out _⟩,⟨by rw [HGX.out];exact jy BK157.out _⟩,⟨jq HB.out _⟩⟩
      | true =>
       replace H:(if x3_1≤(l0_0.length:Int) then ((jWa.f k1 (l0_0.take (x3_1:Int).toNat) x.f0).bind fun t163=>(if t163≥0 then (jX.j1 k1 x3_1 true l0_0) else (if x3_1=0 then (if x.f1=(-1) then (if x3_1 > 0 then ((jQ.f x.f1 0 (wrap64 (x3_1 - 1))).bind fun t164=>(jX.j1 k1 x3_1 (!t164) l0_0)) else (jX.j1 k1 x3_1 false l0_0)) else (jX.j1 k1 x3_1 true l0_0)) else (if x3_1 > 0 then ((jQ.f x.f1 0 (wrap64 (x3_1 - 1))).bind fun t165=>(jX.j1 k1 x3_1 (!t165) l0_0)) else (jX.j1 k1 x3_1 false l0_0))))) else (none))=some r:=H
       have hle:x3_1≤(l0_0.length:Int):=by have:=ozD c3b0;omega
       have h0:0≤x3_1:=ozD c4b0
       rw [if_pos hle] at H
       obtain ⟨c,hc,H⟩:=bzS H
       obtain ⟨i0,hi0,_,_,_⟩:=info_parts info75
       have hcut:=cut_to (P:=Try.prog) 23 75 .i64 Try.underlying23 hi0 (some ad156) l0_0.length c0_0 x3_1 h0 hle HC0_0.out
       have hr18:=Kd.C_take (m:=(x3_1:Int).toNat) HRW.out (by omega)
       obtain ⟨y,hy⟩:∃ y:List S75,y=l0_0.take (x3_1:Int).toNat:=⟨_,rfl⟩
       have hyl:y.length=(x3_1:Int).toNat:=by rw [hy,List.length_take];omega
       have hyc:y.length≤c0_0:=by have:=HC0_0.out;omega
       rw [← hy] at hr18
       rw [← hyl] at hcut
       rw [← hy] at hc
       have HCN:=am (fun m=>(jWa.calls k1 _ _ y x.f0 c (w16.drewN m) (Kd.jic hr18 m) hyc hc).mono fun e w' h=>(⟨h.1,h.2.out⟩:e=.returned (.int .i64 c)∧∃ m',w'=(w16.drewN m).drewN m'))
       clear hr18 hc hy hyl hyc
       have b0:=ezT h0
       have b1:=ezT hle
       by_cases hc0:c≥0
       ·rw [if_pos hc0] at H
        have b2:decide (0≤c)=true:=dzT hc0
        have H':=am H
        clear H hc0 h0 hle
        go_big_quiet (first |(go_at_call 98;exact Calls.quiet_of (HN.out _)) |(go_at_call 99;exact Calls.quiet_of (HCN.out _)))
        go_wp2
        go_meet
        case rel=>exact ⟨_,_,rfl,H',⟨by have:=HK1.out;omega⟩,⟨jy BK154.out _⟩,⟨by rw [HGX.out];exact jy BK157.out _⟩,⟨jq HB.out _⟩⟩
       ·rw [if_neg hc0] at H
        have b2:decide (0≤c)=false:=dzF hc0
        clear hc0
        by_cases hz:x3_1=0
        ·rw [if_pos hz] at H
         have b3:(x3_1 == 0)=true:=beq_iff_eq.2 hz
         have b4:decide (0<x3_1)=false:=dzF (by omega)
         by_cases hf:x.f1 = -1
         ·rw [if_pos hf,if_neg (by omega)] at H
          have b5:(x.f1 != -1)=false:=by simpa using hf
          have H':=am H
          clear H hf h0 hle hz
          go_big_quiet (first |(go_at_call 98;exact Calls.quiet_of (HN.out _)) |(go_at_call 99;exact Calls.quiet_of (HCN.out _)))
          go_wp2
          go_meet
          case rel=>exact ⟨_,_,rfl,H',⟨by have:=HK1.out;omega⟩,⟨jy BK154.out _⟩,⟨by rw [HGX.out];exact jy BK157.out _⟩,⟨jq HB.out _⟩⟩
         ·rw [if_neg hf] at H
          have b5:(x.f1 != -1)=true:=by simpa using hf
          have H':=am H
          clear H hf h0 hle hz
          go_big_quiet (first |(go_at_call 98;exact Calls.quiet_of (HN.out _)) |(go_at_call 99;exact Calls.quiet_of (HCN.out _)))
          go_wp2
          go_meet
          case rel=>exact ⟨_,_,rfl,H',⟨by have:=HK1.out;omega⟩,⟨jy BK154.out _⟩,⟨by rw [HGX.out];exact jy BK157.out _⟩,⟨jq HB.out _⟩⟩
        ·rw [if_neg hz,if_pos (by omega)] at H
         have b3:(x3_1 == 0)=false:=beq_eq_false_iff_ne.2 hz
         have b4:decide (0<x3_1)=true:=dzT (by omega)
         obtain ⟨t,ht,H⟩:=bzS H
         have H':=am H
         have HI:=am (fun W=>(jQ.calls _ _ _ t W ht).mono fun e w' h=>(⟨h.1,h.2.out⟩:e=.returned (.bool t)∧∃ m,w'=W.drewN m))
         clear H ht h0 hle hz
         go_big_quiet (first |(go_at_call 98;exact Calls.quiet_of (HN.out _)) |(go_at_call 99;exact Calls.quiet_of (HCN.out _)) |(go_at_call 61;exact Calls.quiet_of (HI.out _)))
         go_wp2
         go_meet
         case rel=>exact ⟨_,_,rfl,H',⟨by have:=HK1.out;omega⟩,⟨jy BK154.out _⟩,⟨by rw [HGX.out];exact jy BK157.out _⟩,⟨jq HB.out _⟩⟩
     case rest =>
      clear HC5
      try clear c1
      try clear c2
      try clear p2
      try clear c3
      try clear q3
      try clear p6
      try clear c11
      try clear c12
      try clear c13
      try clear c21
      try clear c32
      try clear c32b0
      try clear q39
      try clear q39
      obtain ⟨kq,x51_4,rfl,HA,HJ4,BK154,BK157,HB⟩:=hcut
      cases kq with
      | zero=>exact absurd HA.out (by simp [jX.j1])
      | succ kj4 =>
       have H:=HA.out
       clear HA
       simp only [jX.j1] at H
       by_cases c42:x51_4=true
       ·subst c42
        have H1:(some false)=some r:=by rw [if_pos rfl] at H;exact H
        clear H
        have H:=H1
        clear H1
        obtain rfl:=Option.some.inj H
        go_wp2
        go_ret
        exact ⟨Y0,Y114⟩
       ·replace c42:=Bool.eq_false_iff.mpr c42
        subst c42
        have H1:(jX.l0 kj4 (wrap64 (x3_1+1)) l0_0)=some r:=by rw [if_neg (show ¬ (false=true) by decide)] at H;exact H
        clear H
        have H:=H1
        clear H1
        have H':=am H
        clear H
        go_wp2
        go_roundg kj4
        case measure=>have:=HK1.out;have:=HJ4.out;omega
        case rel=>exact ⟨(wrap64 (x3_1+1)),(sq),H',⟨by have:=HK1.out;have:=HJ4.out;omega⟩,⟨kq BK154.out⟩,⟨Y114⟩⟩
    ·rw [if_neg c4] at H
     exact absurd H (by simp)
   ·rw [if_neg c3] at H
    have c3b0:decide (x3_1<(l0_0.length:Int))=false:=dzF c3
    clear c3
    replace H:=bzS H
    obtain ⟨t155,A430,H⟩:=H
    replace H:(some t155)=some r:=H
    have A43:=am A430
    clear A430
    obtain rfl:=Option.some.inj H
    have hcz44_0:=bc0 BK154.out
    have hfz44_0:=ja BK154.out 0
    go_wp2_with (first |((with_reducible refine jc (f:=61) rfl ?_);refine gL (some 55) Try.func61 #[.int .i64 (l0_0.length:Int), .int .i64 1, .int .i64 8] ?_;(with_reducible refine (jQ.calls (l0_0.length:Int) 1 8 t155 _ A43.out).mono ?_);rintro e w' ⟨rfl,⟨nd,rfl⟩⟩;refine ⟨_,rfl,?_⟩))
    go_ret
    exact ⟨Y0,Y113⟩
def jla.l0 : Nat → List (S36) → Int → List (S75) → Option (Bool)
 | 0,_,_,_=>none
 | k+1,x1,x5,x580000=>if x5<(x1.length:Int) then ((jB.f k x580000 x1 x5).bind fun t581=>(if t581=true then (jla.l0 k x1 (wrap64 (x5+1)) x580000) else (some false))) else ((jX.f k x580000).bind fun t580=>(if t580=true then (some (decide ((x1.length:Int)≤24))) else (some false)))
def jla.f (k : Nat) (l0_0 : List (S75)) (l1 : List (S36)) : Option (Bool) := jla.l0 k l1 0 l0_0
set_option maxHeartbeats 8000000 in
set_option maxRecDepth 100000 in
theorem jla.calls (k : Nat) (A0_0 : Option Addr) (c0_0 : Nat) (l0_0 : List (S75)) (A1 : Option Addr) (c1 : Nat) (l1 : List (S36)) (r : Bool) (w : World) (hr0_0 : Kd.C k75 w A0_0 l0_0.length l0_0) (hc0_0 : l0_0.length ≤ c0_0) (hr1 : Kd.C k36 w A1 l1.length l1) (hc1 : l1.length ≤ c1) (h : jla.f k l0_0 l1 = some r) :
  Calls Try.prog 60 #[.agg #[.slice A0_0 l0_0.length c0_0], .slice A1 l1.length c1] w fun e w'=>e=.returned (.bool r)∧Below w.heap.size w w':=by
 have hu25:=Try.underlying25
 have HR0_0:=am hr0_0
 have HC0_0:=am hc0_0
 clear hr0_0 hc0_0
 have HR1:=am hr1
 have HC1:=am hc1
 clear hr1 hc1
 have HB:=am (Below.refl w.heap.size w)
 have H:(jla.l0 k l1 0 l0_0)=some r:=h
 clear h
 have H':=am H
 clear H
 go_enter Try.func60,Try.ntmps60
 go_wp2_with (first |((with_reducible refine jJ (N:=2) rfl ?_);(try (refine jEc (by rfl) ?_;dsimp only));refine jHc ?hg (N:=2) ?hd (cs:=#[.slice A0_0 l0_0.length c0_0]) (t:=25) ?hr ?_;(case hd=>rfl);(case hg=>rfl);(case hr=>exact Y6);intro gb579 hg w3 hbox hb;have BK579:=am (hbox);have GW579:=am ((Y1:w.heap.size≤gb579));have GE579:=am ((Y1:w.heap.size≤gb579));replace HB:=am (jd (bq) hb);clear hb hbox hg))
 go_loopg [5] k (fun kq v5 w'=>∃ (x5_1:Int),v5=.int .i64 x5_1∧jo (jla.l0 kq l1 x5_1 l0_0=some r)∧jo (kq≤k)∧jo (w'.heap[gb579]?=some (.cells #[(.slice A0_0 l0_0.length c0_0)] 25 (0,0)))∧jo (Below w.heap.size w w'))
 case atStart=>exact ⟨(0),(sq),H',⟨Nat.le_refl _⟩,⟨kq BK579.out⟩,⟨Y52⟩⟩
 case round =>
  clear H'
  try clear c1
  try clear p2
  obtain ⟨x5_1,rfl,HA,HK1,BK579,HB⟩:=hrel
  cases gk with
  | zero=>exact absurd HA.out (by simp [jla.l0])
  | succ k1 =>
   have H:=HA.out
   clear HA
   simp only [jla.l0] at H
   by_cases c4:x5_1<(l1.length:Int)
   ·rw [if_pos c4] at H
    have c4b0:decide (x5_1<(l1.length:Int))=true:=dzT c4
    clear c4
    replace H:=bzS H
    obtain ⟨t581,A50,H⟩:=H
    replace H:(if t581=true then (jla.l0 k1 l1 (wrap64 (x5_1+1)) l0_0) else (some false))=some r:=H
    have A5:=am A50
    clear A50
    by_cases c6:t581=true
    ·subst c6
     have H1:(jla.l0 k1 l1 (wrap64 (x5_1+1)) l0_0)=some r:=by rw [if_pos rfl] at H;exact H
     clear H
     have H:=H1
     clear H1
     have H':=am H
     clear H
     have hcz7_0:=bc0 BK579.out
     have hfz7_0:=ja BK579.out 0
     go_wp2_with (first |((with_reducible refine jc (f:=79) rfl ?_);refine gL (some 15) Try.func79 #[.agg #[.slice A0_0 l0_0.length c0_0], .slice A1 l1.length c1, .int .i64 x5_1] ?_;(with_reducible refine (jB.calls k1 _ _ l0_0 _ _ l1 x5_1 true _ ?side1 ?side2 ?side3 ?side4 A5.out).mono ?_);(case side1=>exact cq (Kd.jI HR0_0.out HB.out));(case side2=>exact HC0_0.out);(case side3=>exact cq (Kd.jI HR1.out HB.out));(case side4=>exact HC1.out);rintro e w8 ⟨rfl,hb⟩;refine ⟨_,rfl,?_⟩;replace BK579:=am (jh (g:=gb579) (o:=.cells #[.slice A0_0 l0_0.length c0_0] 25 (0,0)) (kq BK579.out) hb);replace HB:=am (jd (Y52) hb);(try clear hb);(try clear hb2);(try clear hk);(try clear hi)))
     go_roundg k1
     case measure=>have:=HK1.out;omega
     case rel=>exact ⟨(wrap64 (x5_1+1)),(sq),H',⟨by have:=HK1.out;omega⟩,⟨kq BK579.out⟩,⟨Y52⟩⟩
    ·replace c6:=Bool.eq_false_iff.mpr c6
     subst c6
     have H1:(some false)=some r:=by rw [if_neg (show ¬ (false=true) by decide)] at H;exact H
     clear H
     have H:=H1
     clear H1
     obtain rfl:=Option.some.inj H
     have hcz9_0:=bc0 BK579.out
     have hfz9_0:=ja BK579.out 0
     go_wp2_with (first |((with_reducible refine jc (f:=79) rfl ?_);refine gL (some 15) Try.func79 #[.agg #[.slice A0_0 l0_0.length c0_0], .slice A1 l1.length c1, .int .i64 x5_1] ?_;(with_reducible refine (jB.calls k1 _ _ l0_0 _ _ l1 x5_1 false _ ?side1 ?side2 ?side3 ?side4 A5.out).mono ?_);(case side1=>exact cq (Kd.jI HR0_0.out HB.out));(case side2=>exact HC0_0.out);(case side3=>exact cq (Kd.jI HR1.out HB.out));(case side4=>exact HC1.out);rintro e w10 ⟨rfl,hb⟩;refine ⟨_,rfl,?_⟩;replace BK579:=am (jh (g:=gb579) (o:=.cells #[.slice A0_0 l0_0.length c0_0] 25 (0,0)) (kq BK579.out) hb);replace HB:=am (jd (Y52) hb);(try clear hb);(try clear hb2);(try clear hk);(try clear hi)))
     go_ret
     exact ⟨Y0,Y52⟩
   ·rw [if_neg c4] at H
    have c4b0:decide (x5_1<(l1.length:Int))=false:=dzF c4
    clear c4
    replace H:=bzS H
    obtain ⟨t580,A110,H⟩:=H
    replace H:(if t580=true then (some (decide ((l1.length:Int)≤24))) else (some false))=some r:=H
    have A11:=am A110
    clear A110
    by_cases c12:t580=true
    ·subst c12
     have H1:(some (decide ((l1.length:Int)≤24)))=some r:=by rw [if_pos rfl] at H;exact H
     clear H
     have H:=H1
     clear H1
     obtain rfl:=Option.some.inj H
     have hcz13_0:=bc0 BK579.out
     have hfz13_0:=ja BK579.out 0
     go_wp2_with (first |((with_reducible refine jc (f:=80) rfl ?_);refine gL (some 18) Try.func80 #[.agg #[.slice A0_0 l0_0.length c0_0]] ?_;(with_reducible refine (jX.calls k1 _ _ l0_0 true _ ?side1 ?side2 A11.out).mono ?_);(case side1=>exact cq (Kd.jI HR0_0.out HB.out));(case side2=>exact HC0_0.out);rintro e w14 ⟨rfl,hb⟩;refine ⟨_,rfl,?_⟩;replace BK579:=am (jh (g:=gb579) (o:=.cells #[.slice A0_0 l0_0.length c0_0] 25 (0,0)) (kq BK579.out) hb);replace HB:=am (jd (Y52) hb);(try clear hb);(try clear hb2);(try clear hk);(try clear hi)))
     go_ret
     exact ⟨Y0,Y52⟩
    ·replace c12:=Bool.eq_false_iff.mpr c12
     subst c12
     have H1:(some false)=some r:=by rw [if_neg (show ¬ (false=true) by decide)] at H;exact H
     clear H
     have H:=H1
     clear H1
     obtain rfl:=Option.some.inj H
     have hcz15_0:=bc0 BK579.out
     have hfz15_0:=ja BK579.out 0
     go_wp2_with (first |((with_reducible refine jc (f:=80) rfl ?_);refine gL (some 18) Try.func80 #[.agg #[.slice A0_0 l0_0.length c0_0]] ?_;(with_reducible refine (jX.calls k1 _ _ l0_0 false _ ?side1 ?side2 A11.out).mono ?_);(case side1=>exact cq (Kd.jI HR0_0.out HB.out));(case side2=>exact HC0_0.out);rintro e w16 ⟨rfl,hb⟩;refine ⟨_,rfl,?_⟩;replace BK579:=am (jh (g:=gb579) (o:=.cells #[.slice A0_0 l0_0.length c0_0] 25 (0,0)) (kq BK579.out) hb);replace HB:=am (jd (Y52) hb);(try clear hb);(try clear hb2);(try clear hk);(try clear hi)))
     go_ret
     exact ⟨Y0,Y52⟩
def jQb.f (k : Nat) (l0_0 : List (S75)) (l1 : List (S36)) (a2 : Int) : Option (Bool) := (jla.f k l0_0 l1).bind fun t583 => (if t583 = true then ((jQ.f a2 0 (wrap64 ((l1.length : Int) - 1))).bind fun t584 => (some t584)) else (some false))
set_option maxHeartbeats 8000000 in
set_option maxRecDepth 100000 in
theorem jQb.calls (k : Nat) (A0_0 : Option Addr) (c0_0 : Nat) (l0_0 : List (S75)) (A1 : Option Addr) (c1 : Nat) (l1 : List (S36)) (a2 : Int) (r : Bool) (w : World) (hr0_0 : Kd.C k75 w A0_0 l0_0.length l0_0) (hc0_0 : l0_0.length ≤ c0_0) (hr1 : Kd.C k36 w A1 l1.length l1) (hc1 : l1.length ≤ c1) (h : jQb.f k l0_0 l1 a2 = some r) :
  Calls Try.prog 33 #[.agg #[.slice A0_0 l0_0.length c0_0], .slice A1 l1.length c1, .int .i64 a2] w fun e w'=>e=.returned (.bool r)∧Below w.heap.size w w':=by
 have hu25:=Try.underlying25
 have HR0_0:=am hr0_0
 have HC0_0:=am hc0_0
 clear hr0_0 hc0_0
 have HR1:=am hr1
 have HC1:=am hc1
 clear hr1 hc1
 have HB:=am (Below.refl w.heap.size w)
 have H:((jla.f k l0_0 l1).bind fun t583=>(if t583=true then ((jQ.f a2 0 (wrap64 ((l1.length:Int) - 1))).bind fun t584=>(some t584)) else (some false)))=some r:=h
 clear h
 replace H:=bzS H
 obtain ⟨t583,A40,H⟩:=H
 replace H:(if t583=true then ((jQ.f a2 0 (wrap64 ((l1.length:Int) - 1))).bind fun t584=>(some t584)) else (some false))=some r:=H
 have A4:=am A40
 clear A40
 by_cases c5:t583=true
 ·subst c5
  have H1:((jQ.f a2 0 (wrap64 ((l1.length:Int) - 1))).bind fun t584=>(some t584))=some r:=by rw [if_pos rfl] at H;exact H
  clear H
  have H:=H1
  clear H1
  replace H:=bzS H
  obtain ⟨t584,A60,H⟩:=H
  replace H:(some t584)=some r:=H
  have A6:=am A60
  clear A60
  obtain rfl:=Option.some.inj H
  go_enter Try.func33,Try.ntmps33
  go_wp2_with (first |((with_reducible refine jJ (N:=3) rfl ?_);(try (refine jEc (by rfl) ?_;dsimp only));refine jHc ?hg (N:=3) ?hd (cs:=#[.slice A0_0 l0_0.length c0_0]) (t:=25) ?hr ?_;(case hd=>rfl);(case hg=>rfl);(case hr=>exact Y6);intro gb582 hg w7 hbox hb;have BK582:=am (hbox);have GW582:=am ((Y1:w.heap.size≤gb582));have GE582:=am ((Y1:w.heap.size≤gb582));replace HB:=am (jd (bq) hb);clear hb hbox hg;have hcz8_0:=bc0 BK582.out;have hfz8_0:=ja BK582.out 0) |((with_reducible refine jc (f:=60) rfl ?_);refine gL (some 9) Try.func60 #[.agg #[.slice A0_0 l0_0.length c0_0], .slice A1 l1.length c1] ?_;(with_reducible refine (jla.calls k _ _ l0_0 _ _ l1 true _ ?side1 ?side2 ?side3 ?side4 A4.out).mono ?_);(case side1=>exact cq (Kd.jI HR0_0.out HB.out));(case side2=>exact HC0_0.out);(case side3=>exact cq (Kd.jI HR1.out HB.out));(case side4=>exact HC1.out);rintro e w9 ⟨rfl,hb⟩;refine ⟨_,rfl,?_⟩;replace BK582:=am (jh (g:=gb582) (o:=.cells #[.slice A0_0 l0_0.length c0_0] 25 (0,0)) (kq BK582.out) hb);replace HB:=am (jd (Y106) hb);(try clear hb);(try clear hb2);(try clear hk);(try clear hi)) |(go_at_call 61;(with_reducible refine (jQ.calls a2 0 (wrap64 ((l1.length:Int) - 1)) t584 _ A6.out).mono ?_);rintro e w' ⟨rfl,⟨nd,rfl⟩⟩))
  go_ret
  exact ⟨Y0,Y106⟩
 ·replace c5:=Bool.eq_false_iff.mpr c5
  subst c5
  have H1:(some false)=some r:=by rw [if_neg (show ¬ (false=true) by decide)] at H;exact H
  clear H
  have H:=H1
  clear H1
  obtain rfl:=Option.some.inj H
  go_enter Try.func33,Try.ntmps33
  go_wp2_with (first |((with_reducible refine jJ (N:=3) rfl ?_);(try (refine jEc (by rfl) ?_;dsimp only));refine jHc ?hg (N:=3) ?hd (cs:=#[.slice A0_0 l0_0.length c0_0]) (t:=25) ?hr ?_;(case hd=>rfl);(case hg=>rfl);(case hr=>exact Y6);intro gb582 hg w10 hbox hb;have BK582:=am (hbox);have GW582:=am ((Y1:w.heap.size≤gb582));have GE582:=am ((Y1:w.heap.size≤gb582));replace HB:=am (jd (bq) hb);clear hb hbox hg;have hcz11_0:=bc0 BK582.out;have hfz11_0:=ja BK582.out 0) |((with_reducible refine jc (f:=60) rfl ?_);refine gL (some 9) Try.func60 #[.agg #[.slice A0_0 l0_0.length c0_0], .slice A1 l1.length c1] ?_;(with_reducible refine (jla.calls k _ _ l0_0 _ _ l1 false _ ?side1 ?side2 ?side3 ?side4 A4.out).mono ?_);(case side1=>exact cq (Kd.jI HR0_0.out HB.out));(case side2=>exact HC0_0.out);(case side3=>exact cq (Kd.jI HR1.out HB.out));(case side4=>exact HC1.out);rintro e w12 ⟨rfl,hb⟩;refine ⟨_,rfl,?_⟩;replace BK582:=am (jh (g:=gb582) (o:=.cells #[.slice A0_0 l0_0.length c0_0] 25 (0,0)) (kq BK582.out) hb);replace HB:=am (jd (Y106) hb);(try clear hb);(try clear hb2);(try clear hk);(try clear hi)))
  go_ret
  exact ⟨Y0,Y106⟩
def jIb.l0 : Nat → List (S36) → Int → Option (Int)
 | 0,_,_=>none
 | k+1,x0,x1=>if 0≤x1 then (if x1<(x0.length:Int) then (if ((je x0 x1).f1)=7 then (some x1) else ((jnb.f k x0 x1).bind fun t586=>(jIb.l0 k x0 t586))) else (none)) else (none)
def jIb.f (k : Nat) (l0 : List (S36)) (a1 : Int) : Option (Int) := jIb.l0 k l0 a1
set_option maxHeartbeats 8000000 in
set_option maxRecDepth 100000 in
theorem jIb.calls (k : Nat) (A0 : Option Addr) (c0 : Nat) (l0 : List (S36)) (a1 : Int) (r : Int) (w : World) (hr0 : Kd.C k36 w A0 l0.length l0) (hc0 : l0.length ≤ c0) (h : jIb.f k l0 a1 = some r) :
  Calls Try.prog 81 #[.slice A0 l0.length c0, .int .i64 a1] w fun e w'=>e=.returned (.int .i64 r)∧jwb w w':=by
 have HR0:=am hr0
 have HC0:=am hc0
 clear hr0 hc0
 have H:(jIb.l0 k l0 a1)=some r:=h
 clear h
 have H':=am H
 clear H
 go_enter Try.func81,Try.ntmps81
 go_wp2
 go_loopg [1] k (fun kq v1 w'=>∃ (x1_1:Int),v1=.int .i64 x1_1∧jo (jIb.l0 kq l0 x1_1=some r)∧jo (kq≤k)∧jwb w w')
 case atStart=>exact ⟨(a1),(sq),H',⟨Nat.le_refl _⟩,Y4⟩
 case round =>
  clear H'
  try clear p2
  obtain ⟨x1_1,rfl,HA,HK1,⟨m1,rfl⟩⟩:=hrel
  cases gk with
  | zero=>exact absurd HA.out (by simp [jIb.l0])
  | succ k1 =>
   have H:=HA.out
   clear HA
   simp only [jIb.l0] at H
   by_cases c3:0≤x1_1
   ·rw [if_pos c3] at H
    have c3b0:decide (0≤x1_1)=true:=dzT c3
    clear c3
    by_cases c4:x1_1<(l0.length:Int)
    ·rw [if_pos c4] at H
     have c4b0:decide (x1_1<(l0.length:Int))=true:=dzT c4
     clear c4
     by_cases c5:((je l0 x1_1).f1)=7
     ·rw [if_pos c5] at H
      have c5b0:(((je l0 x1_1).f1) == 7)=true:=beq_iff_eq.mpr c5
      have c5b1:(((je l0 x1_1).f1) != 7)=false:=bne_eq_false_iff_eq.mpr c5
      clear c5
      obtain rfl:=Option.some.inj H
      have p585:0≤(x1_1:Int):=ozD (uq)
      have q585:x1_1<(l0.length:Int):=ozD (uq)
      obtain ⟨ad585,e585,hx585_0,hx585_1,hx585_2,hx585_3⟩:=jsa HR0.out x1_1 p585 q585
      cases e585
      replace p585:=ezT p585
      replace q585:=ezT q585
      go_wp2
      go_ret
      exact ⟨sq,Y4⟩
     ·rw [if_neg c5] at H
      have c5b0:(((je l0 x1_1).f1) == 7)=false:=beq_eq_false_iff_ne.mpr c5
      have c5b1:(((je l0 x1_1).f1) != 7)=true:=bne_iff_ne.mpr c5
      replace H:=bzS H
      obtain ⟨t586,A60,H⟩:=H
      replace H:(jIb.l0 k1 l0 t586)=some r:=H
      have A6:=am A60
      clear A60
      have H':=am H
      clear H
      have p585:0≤(x1_1:Int):=ozD (uq)
      have q585:x1_1<(l0.length:Int):=ozD (uq)
      obtain ⟨ad585,e585,hx585_0,hx585_1,hx585_2,hx585_3⟩:=jsa HR0.out x1_1 p585 q585
      cases e585
      replace p585:=ezT p585
      replace q585:=ezT q585
      go_wp2_with (first |((with_reducible refine jc (f:=97) rfl ?_);refine gL (some 13) Try.func97 #[.slice (some ad585) l0.length c0, .int .i64 x1_1] ?_;(with_reducible refine (jnb.calls k1 _ _ l0 x1_1 t586 _ ?side1 ?side2 A6.out).mono ?_);(case side1=>exact Y35);(case side2=>exact HC0.out);rintro e w' ⟨rfl,⟨nd,rfl⟩⟩;refine ⟨_,rfl,?_⟩))
      go_roundg k1
      case measure=>have:=HK1.out;omega
      case rel=>exact ⟨(t586),(sq),H',⟨by have:=HK1.out;omega⟩,Y4⟩
    ·rw [if_neg c4] at H
     exact absurd H (by simp)
   ·rw [if_neg c3] at H
    exact absurd H (by simp)
def jyb.j0 : Nat → List (S36) → Int → Bool → Option (Int)
 | 0,_,_,_=>none
 | k+1,x0,x1,x27=>if x27=true then (some (-1)) else ((jIb.f k x0 x1).bind fun t590=>((jDa.f k x0 t590).bind fun t591=>(if 0≤(wrap64 ((t591.length:Int) - 1)) then (if (wrap64 ((t591.length:Int) - 1))<(t591.length:Int) then (if 0≤(rd t591 (wrap64 ((t591.length:Int) - 1))) then (if (rd t591 (wrap64 ((t591.length:Int) - 1)))<(x0.length:Int) then (if ((je x0 (rd t591 (wrap64 ((t591.length:Int) - 1)))).f1)=10 then (some (rd t591 (wrap64 ((t591.length:Int) - 1)))) else (some (-1))) else (none)) else (none)) else (none)) else (none))))
def jyb.f (k : Nat) (l0 : List (S36)) (a1 : Int) : Option (Int) := if 0 ≤ a1 then (if a1 < (l0.length : Int) then (if ((je l0 a1).f1) = 11 then (some a1) else (if ((je l0 a1).f1) = 12 then (jyb.j0 k l0 a1 true) else (jyb.j0 k l0 a1 (((je l0 a1).f1) == 10)))) else (none)) else (none)
set_option maxHeartbeats 8000000 in
set_option maxRecDepth 100000 in
theorem jyb.calls (k : Nat) (A0 : Option Addr) (c0 : Nat) (l0 : List (S36)) (a1 : Int) (r : Int) (w : World) (hr0 : Kd.C k36 w A0 l0.length l0) (hc0 : l0.length ≤ c0) (h : jyb.f k l0 a1 = some r) :
  Calls Try.prog 62 #[.slice A0 l0.length c0, .int .i64 a1] w fun e w'=>e=.returned (.int .i64 r)∧Below w.heap.size w w':=by
 have HR0:=am hr0
 have HC0:=am hc0
 clear hr0 hc0
 have HB:=am (Below.refl w.heap.size w)
 have H:(if 0≤a1 then (if a1<(l0.length:Int) then (if ((je l0 a1).f1)=11 then (some a1) else (if ((je l0 a1).f1)=12 then (jyb.j0 k l0 a1 true) else (jyb.j0 k l0 a1 (((je l0 a1).f1) == 10)))) else (none)) else (none))=some r:=h
 clear h
 by_cases c3:0≤a1
 ·rw [if_pos c3] at H
  have c3b0:decide (0≤a1)=true:=dzT c3
  clear c3
  by_cases c4:a1<(l0.length:Int)
  ·rw [if_pos c4] at H
   have c4b0:decide (a1<(l0.length:Int))=true:=dzT c4
   clear c4
   by_cases c5:((je l0 a1).f1)=11
   ·rw [if_pos c5] at H
    have c5b0:(((je l0 a1).f1) == 11)=true:=beq_iff_eq.mpr c5
    have c5b1:(((je l0 a1).f1) != 11)=false:=bne_eq_false_iff_eq.mpr c5
    clear c5
    obtain rfl:=Option.some.inj H
    have p587:0≤(a1:Int):=ozD (uq)
    have q587:a1<(l0.length:Int):=ozD (uq)
    obtain ⟨ad587,e587,hx587_0,hx587_1,hx587_2,hx587_3⟩:=jsa HR0.out a1 p587 q587
    cases e587
    replace p587:=ezT p587
    replace q587:=ezT q587
    go_enter Try.func62,Try.ntmps62
    go_wp2
    go_ret
    exact ⟨Y0,bq⟩
   ·rw [if_neg c5] at H
    have c5b0:(((je l0 a1).f1) == 11)=false:=beq_eq_false_iff_ne.mpr c5
    have c5b1:(((je l0 a1).f1) != 11)=true:=bne_iff_ne.mpr c5
    have HC6:=am H
    clear H
    have p587:0≤(a1:Int):=ozD (uq)
    have q587:a1<(l0.length:Int):=ozD (uq)
    obtain ⟨ad587,e587,hx587_0,hx587_1,hx587_2,hx587_3⟩:=jsa HR0.out a1 p587 q587
    cases e587
    replace p587:=ezT p587
    replace q587:=ezT q587
    go_enter Try.func62,Try.ntmps62
    go_upto_region 3 with (fail)
    go_cut [27] (fun v27 wc=>∃ (kq:Nat) (x27_5:Bool),v27=.bool x27_5∧jo (jyb.j0 kq l0 a1 x27_5=some r)∧jo (kq≤k)∧jo (Below w.heap.size w wc))
    case first =>
     have H:=HC6.out
     clear HC6
     by_cases c7:((je l0 a1).f1)=12
     ·rw [if_pos c7] at H
      have c7b0:(((je l0 a1).f1) == 12)=true:=beq_iff_eq.mpr c7
      have c7b1:(((je l0 a1).f1) != 12)=false:=bne_eq_false_iff_eq.mpr c7
      clear c7
      (first | rw [c7b0] |(simp only [jkb,job];rw [c7b0]) | skip)
      have H':=am H
      clear H
      have p588:0≤(a1:Int):=ozD (uq)
      have q588:a1<(l0.length:Int):=ozD (uq)
      obtain ⟨ad588,e588,hx588_0,hx588_1,hx588_2,hx588_3⟩:=jsa HR0.out a1 p588 q588
      obtain rfl:ad587=ad588:=(by injection e588)
      replace hx588_0:=cb HB.out hx588_0
      replace hx588_1:=cb HB.out hx588_1
      replace hx588_2:=cb HB.out hx588_2
      replace hx588_3:=cb HB.out hx588_3
      replace p588:=ezT p588
      replace q588:=ezT q588
      go_wp2
      go_meet
      case rel=>exact ⟨_,(true),(sq),H',⟨Y20⟩,⟨bq⟩⟩
     ·rw [if_neg c7] at H
      have c7b0:(((je l0 a1).f1) == 12)=false:=beq_eq_false_iff_ne.mpr c7
      have c7b1:(((je l0 a1).f1) != 12)=true:=bne_iff_ne.mpr c7
      (first | rw [c7b0] |(simp only [jkb,job];rw [c7b0]) | skip)
      have H':=am H
      clear H
      have p588:0≤(a1:Int):=ozD (uq)
      have q588:a1<(l0.length:Int):=ozD (uq)
      obtain ⟨ad588,e588,hx588_0,hx588_1,hx588_2,hx588_3⟩:=jsa HR0.out a1 p588 q588
      obtain rfl:ad587=ad588:=(by injection e588)
      replace hx588_0:=cb HB.out hx588_0
      replace hx588_1:=cb HB.out hx588_1
      replace hx588_2:=cb HB.out hx588_2
      replace hx588_3:=cb HB.out hx588_3
      replace p588:=ezT p588
      replace q588:=ezT q588
      have p589:0≤(a1:Int):=ozD (uq)
      have q589:a1<(l0.length:Int):=ozD (uq)
      obtain ⟨ad589,e589,hx589_0,hx589_1,hx589_2,hx589_3⟩:=jsa HR0.out a1 p589 q589
      obtain rfl:ad587=ad589:=(by injection e589)
      replace hx589_0:=cb HB.out hx589_0
      replace hx589_1:=cb HB.out hx589_1
      replace hx589_2:=cb HB.out hx589_2
      replace hx589_3:=cb HB.out hx589_3
      replace p589:=ezT p589
      replace q589:=ezT q589
      go_wp2
      go_meet
      case rel=>exact ⟨_,((((je l0 a1).f1) == 10)),(sq),H',⟨Y20⟩,⟨bq⟩⟩
    case rest =>
     clear HC6
     try clear p2
     try clear c3
     try clear c3b0
     try clear c4
     try clear c4b0
     try clear c5
     try clear c5b0
     try clear c5b1
     try clear p5
     try clear q5
     try clear hx5
     try clear c6
     try clear c7
     try clear c7b0
     try clear c7b1
     try clear hx587_0
     try clear hx587_1
     try clear hx587_2
     try clear hx587_3
     try clear hx588_0
     try clear hx588_1
     try clear hx588_2
     try clear hx588_3
     try clear hx589_0
     try clear hx589_1
     try clear hx589_2
     try clear hx589_3
     try clear p587
     try clear p588
     try clear p589
     try clear q587
     try clear q588
     try clear q589
     obtain ⟨kq,x27_5,rfl,HA,HJ5,HB⟩:=hcut
     cases kq with
     | zero=>exact absurd HA.out (by simp [jyb.j0])
     | succ kj5 =>
      have H:=HA.out
      clear HA
      simp only [jyb.j0] at H
      by_cases c8:x27_5=true
      ·subst c8
       have H1:(some (-1))=some r:=by rw [if_pos rfl] at H;exact H
       clear H
       have H:=H1
       clear H1
       obtain rfl:=Option.some.inj H
       go_wp2
       go_ret
       exact ⟨Y0,bq⟩
      ·replace c8:=Bool.eq_false_iff.mpr c8
       subst c8
       have H1:((jIb.f kj5 l0 a1).bind fun t590=>((jDa.f kj5 l0 t590).bind fun t591=>(if 0≤(wrap64 ((t591.length:Int) - 1)) then (if (wrap64 ((t591.length:Int) - 1))<(t591.length:Int) then (if 0≤(rd t591 (wrap64 ((t591.length:Int) - 1))) then (if (rd t591 (wrap64 ((t591.length:Int) - 1)))<(l0.length:Int) then (if ((je l0 (rd t591 (wrap64 ((t591.length:Int) - 1)))).f1)=10 then (some (rd t591 (wrap64 ((t591.length:Int) - 1)))) else (some (-1))) else (none)) else (none)) else (none)) else (none))))=some r:=by rw [if_neg (show ¬ (false=true) by decide)] at H;exact H
       clear H
       have H:=H1
       clear H1
       replace H:=bzS H
       obtain ⟨t590,A90,H⟩:=H
       replace H:((jDa.f kj5 l0 t590).bind fun t591=>(if 0≤(wrap64 ((t591.length:Int) - 1)) then (if (wrap64 ((t591.length:Int) - 1))<(t591.length:Int) then (if 0≤(rd t591 (wrap64 ((t591.length:Int) - 1))) then (if (rd t591 (wrap64 ((t591.length:Int) - 1)))<(l0.length:Int) then (if ((je l0 (rd t591 (wrap64 ((t591.length:Int) - 1)))).f1)=10 then (some (rd t591 (wrap64 ((t591.length:Int) - 1)))) else (some (-1))) else (none)) else (none)) else (none)) else (none)))=some r:=H
       have A9:=am A90
       clear A90
       replace H:=bzS H
       obtain ⟨t591,A100,H⟩:=H
       replace H:(if 0≤(wrap64 ((t591.length:Int) - 1)) then (if (wrap64 ((t591.length:Int) - 1))<(t591.length:Int) then (if 0≤(rd t591 (wrap64 ((t591.length:Int) - 1))) then (if (rd t591 (wrap64 ((t591.length:Int) - 1)))<(l0.length:Int) then (if ((je l0 (rd t591 (wrap64 ((t591.length:Int) - 1)))).f1)=10 then (some (rd t591 (wrap64 ((t591.length:Int) - 1)))) else (some (-1))) else (none)) else (none)) else (none)) else (none))=some r:=H
       have A10:=am A100
       clear A100
       obtain ⟨ji11,hji11⟩:∃ j_:Int,(wrap64 ((t591.length:Int) - 1))=j_:=⟨_,rfl⟩
       replace H:(if 0≤(ji11) then (if (ji11)<(t591.length:Int) then (if 0≤(rd t591 (ji11)) then (if (rd t591 (ji11))<(l0.length:Int) then (if ((je l0 (rd t591 (ji11))).f1)=10 then (some (rd t591 (ji11))) else (some (-1))) else (none)) else (none)) else (none)) else (none))=some r:=by first |(rw [hji11] at H;exact H) |(simp only [hji11] at H ⊢;exact H)
       (try rw [hji11] at A9)
       (try rw [hji11] at A10)
       have hji11w:(IntKind.i64.wrap ((t591.length:Int) - 1))=ji11:=(jkb _).trans hji11
       by_cases c12:0≤(ji11)
       ·rw [if_pos c12] at H
        have c12b0:decide (0≤(ji11))=true:=dzT c12
        clear c12
        by_cases c13:(ji11)<(t591.length:Int)
        ·rw [if_pos c13] at H
         have c13b0:decide ((ji11)<(t591.length:Int))=true:=dzT c13
         clear c13
         by_cases c14:0≤(rd t591 (ji11))
         ·rw [if_pos c14] at H
          have c14b0:decide (0≤(rd t591 (ji11)))=true:=dzT c14
          clear c14
          by_cases c15:(rd t591 (ji11))<(l0.length:Int)
          ·rw [if_pos c15] at H
           have c15b0:decide ((rd t591 (ji11))<(l0.length:Int))=true:=dzT c15
           clear c15
           by_cases c16:((je l0 (rd t591 (ji11))).f1)=10
           ·rw [if_pos c16] at H
            have c16b0:(((je l0 (rd t591 (ji11))).f1) == 10)=true:=beq_iff_eq.mpr c16
            have c16b1:(((je l0 (rd t591 (ji11))).f1) != 10)=false:=bne_eq_false_iff_eq.mpr c16
            clear c16
            obtain rfl:=Option.some.inj H
            go_wp2_with (first |((with_reducible refine jc (f:=81) rfl ?_);refine gL (some 31) Try.func81 #[.slice (some ad587) l0.length c0, .int .i64 a1] ?_;(with_reducible refine (jIb.calls kj5 _ _ l0 a1 t590 _ ?side1 ?side2 A9.out).mono ?_);(case side1=>exact cq (Kd.jI HR0.out HB.out));(case side2=>exact HC0.out);rintro e w' ⟨rfl,⟨nd,rfl⟩⟩;refine ⟨_,rfl,?_⟩) |((with_reducible refine jc (f:=71) rfl ?_);refine gL (some 32) Try.func71 #[.slice (some ad587) l0.length c0, .int .i64 t590] ?_;(with_reducible refine (jDa.calls kj5 _ _ l0 t590 t591 _ ?side1 ?side2 A10.out).mono ?_);(case side1=>exact cq (Kd.jI HR0.out (bq)));(case side2=>exact HC0.out);rintro e w17 ⟨v592,rfl,ho0,hb⟩;refine ⟨_,rfl,?_⟩;have HO593:=am (Kd.jW ho0 (jP (bq)));replace HB:=am (jd (bq) hb);(try clear hb);(try clear hb2);(try clear hk);(try clear hi);(try clear ho0);obtain ⟨Ao18,co18,eo18⟩:=Kd.jba HO593.out;subst eo18;have p594:0≤((ji11):Int):=ozD (uq);have q594:(ji11)<(t591.length:Int):=ozD (uq);obtain ⟨ad594,e594,hx594_0⟩:=Kd.jXa (Kd.jm HO593.out).2.2 (ji11) p594 q594;cases e594;replace p594:=ezT p594;replace q594:=ezT q594;have p595:0≤((rd t591 (ji11)):Int):=ozD (uq);have q595:(rd t591 (ji11))<(l0.length:Int):=ozD (uq);obtain ⟨ad595,e595,hx595_0,hx595_1,hx595_2,hx595_3⟩:=jsa HR0.out (rd t591 (ji11)) p595 q595;obtain rfl:ad587=ad595:=(by injection e595);replace hx595_0:=cb HB.out hx595_0;replace hx595_1:=cb HB.out hx595_1;replace hx595_2:=cb HB.out hx595_2;replace hx595_3:=cb HB.out hx595_3;replace p595:=ezT p595;replace q595:=ezT q595))
            go_ret
            exact ⟨Y137,bq⟩
           ·rw [if_neg c16] at H
            have c16b0:(((je l0 (rd t591 (ji11))).f1) == 10)=false:=beq_eq_false_iff_ne.mpr c16
            have c16b1:(((je l0 (rd t591 (ji11))).f1) != 10)=true:=bne_iff_ne.mpr c16
            obtain rfl:=Option.some.inj H
            go_wp2_with (first |((with_reducible refine jc (f:=81) rfl ?_);refine gL (some 31) Try.func81 #[.slice (some ad587) l0.length c0, .int .i64 a1] ?_;(with_reducible refine (jIb.calls kj5 _ _ l0 a1 t590 _ ?side1 ?side2 A9.out).mono ?_);(case side1=>exact cq (Kd.jI HR0.out HB.out));(case side2=>exact HC0.out);rintro e w' ⟨rfl,⟨nd,rfl⟩⟩;refine ⟨_,rfl,?_⟩) |((with_reducible refine jc (f:=71) rfl ?_);refine gL (some 32) Try.func71 #[.slice (some ad587) l0.length c0, .int .i64 t590] ?_;(with_reducible refine (jDa.calls kj5 _ _ l0 t590 t591 _ ?side1 ?side2 A10.out).mono ?_);(case side1=>exact cq (Kd.jI HR0.out (bq)));(case side2=>exact HC0.out);rintro e w19 ⟨v592,rfl,ho0,hb⟩;refine ⟨_,rfl,?_⟩;have HO593:=am (Kd.jW ho0 (jP (bq)));replace HB:=am (jd (bq) hb);(try clear hb);(try clear hb2);(try clear hk);(try clear hi);(try clear ho0);obtain ⟨Ao20,co20,eo20⟩:=Kd.jba HO593.out;subst eo20;have p594:0≤((ji11):Int):=ozD (uq);have q594:(ji11)<(t591.length:Int):=ozD (uq);obtain ⟨ad594,e594,hx594_0⟩:=Kd.jXa (Kd.jm HO593.out).2.2 (ji11) p594 q594;cases e594;replace p594:=ezT p594;replace q594:=ezT q594;have p595:0≤((rd t591 (ji11)):Int):=ozD (uq);have q595:(rd t591 (ji11))<(l0.length:Int):=ozD (uq);obtain ⟨ad595,e595,hx595_0,hx595_1,hx595_2,hx595_3⟩:=jsa HR0.out (rd t591 (ji11)) p595 q595;obtain rfl:ad587=ad595:=(by injection e595);replace hx595_0:=cb HB.out hx595_0;replace hx595_1:=cb HB.out hx595_1;replace hx595_2:=cb HB.out hx595_2;replace hx595_3:=cb HB.out hx595_3;replace p595:=ezT p595;replace q595:=ezT q595))
            go_ret
            exact ⟨Y137,bq⟩
          ·rw [if_neg c15] at H
           exact absurd H (by simp)
         ·rw [if_neg c14] at H
          exact absurd H (by simp)
        ·rw [if_neg c13] at H
         exact absurd H (by simp)
       ·rw [if_neg c12] at H
        exact absurd H (by simp)
  ·rw [if_neg c4] at H
   exact absurd H (by simp)
 ·rw [if_neg c3] at H
  exact absurd H (by simp)
def jRa.l0 : Nat → List (S36) → List Int → List Int → Int → Option (List Int)
 | 0,_,_,_,_=>none
 | k+1,x0,x1,x5,x6=>if x6<(x1.length:Int) then (if 0≤x6 then ((jyb.f k x0 (rd x1 x6)).bind fun t600=>(if t600≥0 then (if x5.length<17592186044416 then (jRa.l0 k x0 x1 (x5 ++ [t600]) (wrap64 (x6+1))) else (none)) else (jRa.l0 k x0 x1 x5 (wrap64 (x6+1))))) else (none)) else (some x5)
def jRa.f (k : Nat) (l0 : List (S36)) (l1 : List Int) : Option (List Int) := jRa.l0 k l0 l1 (([] : List Int)) 0
set_option maxHeartbeats 8000000 in
set_option maxRecDepth 100000 in
theorem jRa.calls (k : Nat) (A0 : Option Addr) (c0 : Nat) (l0 : List (S36)) (A1 : Option Addr) (c1 : Nat) (l1 : List Int) (r : List Int) (w : World) (hr0 : Kd.C k36 w A0 l0.length l0) (hc0 : l0.length ≤ c0) (hr1 : Kd.C (Kd.int .i64) w A1 l1.length l1) (hc1 : l1.length ≤ c1) (h : jRa.f k l0 l1 = some r) :
  Calls Try.prog 34 #[.slice A0 l0.length c0, .slice A1 l1.length c1] w fun e w'=>∃ v0_:Value,e=.returned (v0_)∧Kd.R (Kd.int .i64) 3 w' w.heap.size (fun _=>True) v0_ r∧Below w.heap.size w w':=by
 have HR0:=am hr0
 have HC0:=am hc0
 clear hr0 hc0
 have HR1:=am hr1
 have HC1:=am hc1
 clear hr1 hc1
 have HB:=am (Below.refl w.heap.size w)
 have H:(jRa.l0 k l0 l1 (([]:List Int)) 0)=some r:=h
 clear h
 obtain ⟨y596,hy596⟩:∃ y_:List Int,y_=(([]:List Int)):=⟨_,rfl⟩
 replace H:(jRa.l0 k l0 l1 y596 0)=some r:=by first |(rw [hy596];with_reducible exact H) |(have H2_:=(Option.bind_some _ _).symm.trans H;rw [hy596];with_reducible exact H2_) |(have H2_:=(Option.bind_some _ _).symm.trans H;with_reducible exact H2_) | with_reducible exact H |(rw [hy596];exact H) | exact H
 have Ny596:=am hy596
 clear hy596
 have H':=am H
 clear H
 go_enter Try.func34,Try.ntmps34
 go_wp2_with (first |((with_reducible refine jJ (N:=8) rfl ?_);refine Kd.jAc (Kd.int .i64) _ 3 ?hg (N:=8) ?hd (xs:=([]:List Int)) (inner:=[]) (ok:=fun _=>True) (okp:=fun _=>True) ?hr ?hp (fun _ hk=>hk) trivial (Below.refl _ _) (Nat.le_refl _) (by simp) ?_;(case hd=>rfl);(case hg=>rfl);(case hr=>exact Y6);(case hp=>exact (Reps.none _ _));intro v597 w3 ho4 hb hg_ hnew_;clear hg_ hnew_;(first | rw [← Ny596.out] at ho4 |(simp only [Int.reduceToNat] at ho4;rw [← Ny596.out] at ho4));have HO598:=am (Kd.jW ho4 (jP (bq)));replace HB:=am (jd (bq) hb);clear hb ho4))
 go_loopg [5,6] k (fun kq v5 v6 w'=>∃ (x5_1:List Int) (x6_1:Int),v6=.int .i64 x6_1∧jo (jRa.l0 kq l0 l1 x5_1 x6_1=some r)∧jo (kq≤k)∧jo (Kd.R (Kd.int .i64) 3 w' w.heap.size (fun _=>True) v5 x5_1)∧jo (Below w.heap.size w w'))
 case atStart=>exact ⟨(y596),(0),(sq),H',⟨Nat.le_refl _⟩,⟨rq HO598.out⟩,⟨bq⟩⟩
 case round =>
  clear H'
  try clear c1
  try clear p2
  try clear c3
  obtain ⟨x5_1,x6_1,rfl,HA,HK1,HO_5,HB⟩:=hrel
  cases gk with
  | zero=>exact absurd HA.out (by simp [jRa.l0])
  | succ k1 =>
   have H:=HA.out
   clear HA
   simp only [jRa.l0] at H
   by_cases c5:x6_1<(l1.length:Int)
   ·rw [if_pos c5] at H
    have c5b0:decide (x6_1<(l1.length:Int))=true:=dzT c5
    clear c5
    by_cases c6:0≤x6_1
    ·rw [if_pos c6] at H
     have c6b0:decide (0≤x6_1)=true:=dzT c6
     clear c6
     replace H:=bzS H
     obtain ⟨t600,A70,H⟩:=H
     replace H:(if t600≥0 then (if x5_1.length<17592186044416 then (jRa.l0 k1 l0 l1 (x5_1 ++ [t600]) (wrap64 (x6_1+1))) else (none)) else (jRa.l0 k1 l0 l1 x5_1 (wrap64 (x6_1+1))))=some r:=H
     have A7:=am A70
     clear A70
     by_cases c8:t600≥0
     ·rw [if_pos c8] at H
      have c8b0:decide (0≤t600)=true:=dzT c8
      clear c8
      by_cases c9:x5_1.length<17592186044416
      ·rw [if_pos c9] at H
       have LMc9:=am c9
       clear c9
       obtain ⟨y601,hy601⟩:∃ y_:List Int,y_=(x5_1 ++ [t600]):=⟨_,rfl⟩
       replace H:(jRa.l0 k1 l0 l1 y601 (wrap64 (x6_1+1)))=some r:=by first |(rw [hy601];with_reducible exact H) |(have H2_:=(Option.bind_some _ _).symm.trans H;rw [hy601];with_reducible exact H2_) |(have H2_:=(Option.bind_some _ _).symm.trans H;with_reducible exact H2_) | with_reducible exact H |(rw [hy601];exact H) | exact H
       have Ny601:=am hy601
       clear hy601
       have H':=am H
       clear H
       have p599:0≤(x6_1:Int):=ozD (uq)
       have q599:x6_1<(l1.length:Int):=ozD (uq)
       obtain ⟨ad599,e599,hx599_0⟩:=Kd.jXa HR1.out x6_1 p599 q599
       cases e599
       replace hx599_0:=cb HB.out hx599_0
       replace p599:=ezT p599
       replace q599:=ezT q599
       go_wp2_with (first |((with_reducible refine jc (f:=62) rfl ?_);refine gL (some 20) Try.func62 #[.slice A0 l0.length c0, .int .i64 (rd l1 x6_1)] ?_;(with_reducible refine (jyb.calls k1 _ _ l0 (rd l1 x6_1) t600 _ ?side1 ?side2 A7.out).mono ?_);(case side1=>exact cq (Kd.jI HR0.out HB.out));(case side2=>exact HC0.out);rintro e w10 ⟨rfl,hb⟩;refine ⟨_,rfl,?_⟩;replace HO_5:=am (Kd.jU (rq HO_5.out) hb);replace HB:=am (jd (bq) hb);(try clear hb);(try clear hb2);(try clear hk);(try clear hi)) |((with_reducible refine jUa (b:=.append) (xs:=#[.tmp 23, .tmp 25]) rfl ?_);at_builtin;refine Kd.joc (Kd.int .i64) (w0:=w) w.heap.size rfl (.tmp 23) (.tmp 25) 29 3 (.int .i64 0) 8 rfl Try.underlying29 info3 rfl (by decide) (by omega) u5 x5_1 t600 [.int .i64 t600] (fun _=>True) (fun _=>False) rfl rfl ?aP (fun _ hk=>hk.elim) ?aF ?aO ?aB ?aS ?aL ?_;(case aP=>exact rfl);(case aB=>exact (bq));(case aF=>exact (fun _ _=>trivial));(case aO=>exact (rq HO_5.out));(case aS=>exact (jP (bq)));(case aL=>have:=LMc9.out;omega);intro v602 w11 ho hb hg hat;rw [← Ny601.out] at ho;have n0_:=am (hb);have n1_:=am (ho);clear HB HO_5;have HB:=n0_;have HO603:=n1_;clear n0_ n1_ ho hb hg hat))
       go_roundg k1
       case measure=>have:=HK1.out;omega
       case rel=>exact ⟨(y601),(wrap64 (x6_1+1)),(sq),H',⟨by have:=HK1.out;omega⟩,⟨rq HO603.out⟩,⟨bq⟩⟩
      ·rw [if_neg c9] at H
       exact absurd H (by simp)
     ·rw [if_neg c8] at H
      have c8b0:decide (0≤t600)=false:=dzF c8
      clear c8
      have H':=am H
      clear H
      have p599:0≤(x6_1:Int):=ozD (uq)
      have q599:x6_1<(l1.length:Int):=ozD (uq)
      obtain ⟨ad599,e599,hx599_0⟩:=Kd.jXa HR1.out x6_1 p599 q599
      cases e599
      replace hx599_0:=cb HB.out hx599_0
      replace p599:=ezT p599
      replace q599:=ezT q599
      go_wp2_with (first |((with_reducible refine jc (f:=62) rfl ?_);refine gL (some 20) Try.func62 #[.slice A0 l0.length c0, .int .i64 (rd l1 x6_1)] ?_;(with_reducible refine (jyb.calls k1 _ _ l0 (rd l1 x6_1) t600 _ ?side1 ?side2 A7.out).mono ?_);(case side1=>exact cq (Kd.jI HR0.out HB.out));(case side2=>exact HC0.out);rintro e w12 ⟨rfl,hb⟩;refine ⟨_,rfl,?_⟩;replace HO_5:=am (Kd.jU (rq HO_5.out) hb);replace HB:=am (jd (bq) hb);(try clear hb);(try clear hb2);(try clear hk);(try clear hi)))
      go_roundg k1
      case measure=>have:=HK1.out;omega
      case rel=>exact ⟨(x5_1),(wrap64 (x6_1+1)),(sq),H',⟨by have:=HK1.out;omega⟩,⟨rq HO_5.out⟩,⟨bq⟩⟩
    ·rw [if_neg c6] at H
     exact absurd H (by simp)
   ·rw [if_neg c5] at H
    have c5b0:decide (x6_1<(l1.length:Int))=false:=dzF c5
    clear c5
    obtain rfl:=Option.some.inj H
    go_wp2
    go_ret
    exact ⟨_,Y0,rq HO_5.out,bq⟩
def jva.l0 : Nat → List (S36) → List Int → Int → Int → Option (List Int)
 | 0,_,_,_,_=>none
 | k+1,x0,x5,x6,x7=>if x7≥0 then (if 0≤x7 then (if x7<(x0.length:Int) then (if ((je x0 x7).f0)<x6 then (if x5.length<17592186044416 then (jva.l0 k x0 (x5 ++ [x7]) ((je x0 x7).f0) (wrap64 (x7 - 1))) else (none)) else (jva.l0 k x0 x5 x6 (wrap64 (x7 - 1)))) else (none)) else (none)) else (some x5)
def jva.f (k : Nat) (l0 : List (S36)) (a1 : Int) : Option (List Int) := if 0 ≤ a1 then (if a1 < (l0.length : Int) then (jva.l0 k l0 (([] : List Int)) ((je l0 a1).f0) (wrap64 (a1 - 1))) else (none)) else (none)
set_option maxHeartbeats 8000000 in
set_option maxRecDepth 100000 in
theorem jva.calls (k : Nat) (A0 : Option Addr) (c0 : Nat) (l0 : List (S36)) (a1 : Int) (r : List Int) (w : World) (hr0 : Kd.C k36 w A0 l0.length l0) (hc0 : l0.length ≤ c0) (h : jva.f k l0 a1 = some r) :
  Calls Try.prog 35 #[.slice A0 l0.length c0, .int .i64 a1] w fun e w'=>∃ v0_:Value,e=.returned (v0_)∧Kd.R (Kd.int .i64) 3 w' w.heap.size (fun _=>True) v0_ r∧Below w.heap.size w w':=by
 have HR0:=am hr0
 have HC0:=am hc0
 clear hr0 hc0
 have HB:=am (Below.refl w.heap.size w)
 have H:(if 0≤a1 then (if a1<(l0.length:Int) then (jva.l0 k l0 (([]:List Int)) ((je l0 a1).f0) (wrap64 (a1 - 1))) else (none)) else (none))=some r:=h
 clear h
 obtain ⟨y604,hy604⟩:∃ y_:List Int,y_=(([]:List Int)):=⟨_,rfl⟩
 replace H:(if 0≤a1 then (if a1<(l0.length:Int) then (jva.l0 k l0 y604 ((je l0 a1).f0) (wrap64 (a1 - 1))) else (none)) else (none))=some r:=by first |(rw [hy604];with_reducible exact H) |(have H2_:=(Option.bind_some _ _).symm.trans H;rw [hy604];with_reducible exact H2_) |(have H2_:=(Option.bind_some _ _).symm.trans H;with_reducible exact H2_) | with_reducible exact H |(rw [hy604];exact H) | exact H
 have Ny604:=am hy604
 clear hy604
 by_cases c3:0≤a1
 ·rw [if_pos c3] at H
  have c3b0:decide (0≤a1)=true:=dzT c3
  clear c3
  by_cases c4:a1<(l0.length:Int)
  ·rw [if_pos c4] at H
   have c4b0:decide (a1<(l0.length:Int))=true:=dzT c4
   clear c4
   have H':=am H
   clear H
   go_enter Try.func35,Try.ntmps35
   go_wp2_with (first |((with_reducible refine jJ (N:=8) rfl ?_);refine Kd.jAc (Kd.int .i64) _ 3 ?hg (N:=8) ?hd (xs:=([]:List Int)) (inner:=[]) (ok:=fun _=>True) (okp:=fun _=>True) ?hr ?hp (fun _ hk=>hk) trivial (Below.refl _ _) (Nat.le_refl _) (by simp) ?_;(case hd=>rfl);(case hg=>rfl);(case hr=>exact Y6);(case hp=>exact (Reps.none _ _));intro v605 w5 ho6 hb hg_ hnew_;clear hg_ hnew_;(first | rw [← Ny604.out] at ho6 |(simp only [Int.reduceToNat] at ho6;rw [← Ny604.out] at ho6));have HO606:=am (Kd.jW ho6 (jP (bq)));replace HB:=am (jd (bq) hb);clear hb ho6;have p607:0≤(a1:Int):=ozD (uq);have q607:a1<(l0.length:Int):=ozD (uq);obtain ⟨ad607,e607,hx607_0,hx607_1,hx607_2,hx607_3⟩:=jsa HR0.out a1 p607 q607;cases e607;replace hx607_0:=cb HB.out hx607_0;replace hx607_1:=cb HB.out hx607_1;replace hx607_2:=cb HB.out hx607_2;replace hx607_3:=cb HB.out hx607_3;replace p607:=ezT p607;replace q607:=ezT q607))
   go_loopg [5,6,7] k (fun kq v5 v6 v7 w'=>∃ (x5_1:List Int) (x6_1:Int) (x7_1:Int),v6=.int .i64 x6_1∧v7=.int .i64 x7_1∧jo (jva.l0 kq l0 x5_1 x6_1 x7_1=some r)∧jo (kq≤k)∧jo (Kd.R (Kd.int .i64) 3 w' w.heap.size (fun _=>True) v5 x5_1)∧jo (Below w.heap.size w w'))
   case atStart=>exact ⟨(y604),((je l0 a1).f0),(wrap64 (a1 - 1)),(sq),(sq),H',⟨Nat.le_refl _⟩,⟨rq HO606.out⟩,⟨bq⟩⟩
   case round =>
    clear H'
    try clear p2
    try clear c3
    try clear c3b0
    try clear c4
    try clear c4b0
    try clear p6
    try clear q6
    try clear hx6
    try clear hx607_0
    try clear hx607_1
    try clear hx607_2
    try clear hx607_3
    try clear p607
    try clear q607
    obtain ⟨x5_1,x6_1,x7_1,rfl,rfl,HA,HK1,HO_5,HB⟩:=hrel
    cases gk with
    | zero=>exact absurd HA.out (by simp [jva.l0])
    | succ k1 =>
     have H:=HA.out
     clear HA
     simp only [jva.l0] at H
     by_cases c7:x7_1≥0
     ·rw [if_pos c7] at H
      have c7b0:decide (0≤x7_1)=true:=dzT c7
      clear c7
      by_cases c8:0≤x7_1
      ·rw [if_pos c8] at H
       have c8b0:decide (0≤x7_1)=true:=dzT c8
       clear c8
       by_cases c9:x7_1<(l0.length:Int)
       ·rw [if_pos c9] at H
        have c9b0:decide (x7_1<(l0.length:Int))=true:=dzT c9
        clear c9
        by_cases c10:((je l0 x7_1).f0)<x6_1
        ·rw [if_pos c10] at H
         have c10b0:decide (((je l0 x7_1).f0)<x6_1)=true:=dzT c10
         clear c10
         by_cases c11:x5_1.length<17592186044416
         ·rw [if_pos c11] at H
          have LMc11:=am c11
          clear c11
          obtain ⟨y610,hy610⟩:∃ y_:List Int,y_=(x5_1 ++ [x7_1]):=⟨_,rfl⟩
          replace H:(jva.l0 k1 l0 y610 ((je l0 x7_1).f0) (wrap64 (x7_1 - 1)))=some r:=by first |(rw [hy610];with_reducible exact H) |(have H2_:=(Option.bind_some _ _).symm.trans H;rw [hy610];with_reducible exact H2_) |(have H2_:=(Option.bind_some _ _).symm.trans H;with_reducible exact H2_) | with_reducible exact H |(rw [hy610];exact H) | exact H
          have Ny610:=am hy610
          clear hy610
          have H':=am H
          clear H
          have p608:0≤(x7_1:Int):=ozD (uq)
          have q608:x7_1<(l0.length:Int):=ozD (uq)
          obtain ⟨ad608,e608,hx608_0,hx608_1,hx608_2,hx608_3⟩:=jsa HR0.out x7_1 p608 q608
          obtain rfl:ad607=ad608:=(by injection e608)
          replace hx608_0:=cb HB.out hx608_0
          replace hx608_1:=cb HB.out hx608_1
          replace hx608_2:=cb HB.out hx608_2
          replace hx608_3:=cb HB.out hx608_3
          replace p608:=ezT p608
          replace q608:=ezT q608
          have p609:0≤(x7_1:Int):=ozD (uq)
          have q609:x7_1<(l0.length:Int):=ozD (uq)
          obtain ⟨ad609,e609,hx609_0,hx609_1,hx609_2,hx609_3⟩:=jsa HR0.out x7_1 p609 q609
          obtain rfl:ad607=ad609:=(by injection e609)
          replace hx609_0:=cb HB.out hx609_0
          replace hx609_1:=cb HB.out hx609_1
          replace hx609_2:=cb HB.out hx609_2
          replace hx609_3:=cb HB.out hx609_3
          replace p609:=ezT p609
          replace q609:=ezT q609
          go_wp2_with (first |((with_reducible refine jUa (b:=.append) (xs:=#[.tmp 32, .tmp 34]) rfl ?_);at_builtin;refine Kd.joc (Kd.int .i64) (w0:=w) w.heap.size rfl (.tmp 32) (.tmp 34) 29 3 (.int .i64 0) 8 rfl Try.underlying29 info3 rfl (by decide) (by omega) u5 x5_1 x7_1 [.int .i64 x7_1] (fun _=>True) (fun _=>False) rfl rfl ?aP (fun _ hk=>hk.elim) ?aF ?aO ?aB ?aS ?aL ?_;(case aP=>exact rfl);(case aB=>exact (bq));(case aF=>exact (fun _ _=>trivial));(case aO=>exact (rq HO_5.out));(case aS=>exact (jP (bq)));(case aL=>have:=LMc11.out;omega);intro v611 w12 ho hb hg hat;rw [← Ny610.out] at ho;have n0_:=am (hb);have n1_:=am (ho);clear HB HO_5;have HB:=n0_;have HO612:=n1_;clear n0_ n1_ ho hb hg hat))
          go_roundg k1
          case measure=>have:=HK1.out;omega
          case rel=>exact ⟨(y610),((je l0 x7_1).f0),(wrap64 (x7_1 - 1)),(sq),(sq),H',⟨by have:=HK1.out;omega⟩,⟨rq HO612.out⟩,⟨bq⟩⟩
         ·rw [if_neg c11] at H
          exact absurd H (by simp)
        ·rw [if_neg c10] at H
         have c10b0:decide (((je l0 x7_1).f0)<x6_1)=false:=dzF c10
         clear c10
         have H':=am H
         clear H
         have p608:0≤(x7_1:Int):=ozD (uq)
         have q608:x7_1<(l0.length:Int):=ozD (uq)
         obtain ⟨ad608,e608,hx608_0,hx608_1,hx608_2,hx608_3⟩:=jsa HR0.out x7_1 p608 q608
         obtain rfl:ad607=ad608:=(by injection e608)
         replace hx608_0:=cb HB.out hx608_0
         replace hx608_1:=cb HB.out hx608_1
         replace hx608_2:=cb HB.out hx608_2
         replace hx608_3:=cb HB.out hx608_3
         replace p608:=ezT p608
         replace q608:=ezT q608
         go_wp2
         go_roundg k1
         case measure=>have:=HK1.out;omega
         case rel=>exact ⟨(x5_1),(x6_1),(wrap64 (x7_1 - 1)),(sq),(sq),H',⟨by have:=HK1.out;omega⟩,⟨rq HO_5.out⟩,⟨bq⟩⟩
       ·rw [if_neg c9] at H
        exact absurd H (by simp)
      ·rw [if_neg c8] at H
       exact absurd H (by simp)
     ·rw [if_neg c7] at H
      have c7b0:decide (0≤x7_1)=false:=dzF c7
      clear c7
      obtain rfl:=Option.some.inj H
      go_wp2
      go_ret
      exact ⟨_,Y0,rq HO_5.out,bq⟩
  ·rw [if_neg c4] at H
   exact absurd H (by simp)
 ·rw [if_neg c3] at H
  exact absurd H (by simp)
def spec_WayOut.f (k : Nat) (l0_0 : List (S75)) (l1 : List (S36)) (a2 : Int) : Option (List Int) := (jQb.f k l0_0 l1 a2).bind fun t614 => (if t614 = true then ((jva.f k l1 a2).bind fun t615 => ((jRa.f k l1 t615).bind fun t618 => (some t618))) else (some ([] : List Int)))
def jBb.f (k : Nat) (l0_0 : List (S75)) (l1 : List (S36)) (a2 : Int) : Option (List Int) := (jTa.f k l0_0 l1 a2).bind fun t622 => (if t622 = true then ((jda.f k l1 a2).bind fun t623 => (some t623)) else (some ([] : List Int)))
set_option maxHeartbeats 8000000 in
set_option maxRecDepth 100000 in
theorem jBb.calls (k : Nat) (A0_0 : Option Addr) (c0_0 : Nat) (l0_0 : List (S75)) (A1 : Option Addr) (c1 : Nat) (l1 : List (S36)) (a2 : Int) (r : List Int) (w : World) (hr0_0 : Kd.C k75 w A0_0 l0_0.length l0_0) (hc0_0 : l0_0.length ≤ c0_0) (hr1 : Kd.C k36 w A1 l1.length l1) (hc1 : l1.length ≤ c1) (h : jBb.f k l0_0 l1 a2 = some r) :
  Calls Try.prog 13 #[.agg #[.slice A0_0 l0_0.length c0_0], .slice A1 l1.length c1, .int .i64 a2] w fun e w'=>∃ v0_:Value,e=.returned (v0_)∧Kd.R (Kd.int .i64) 3 w' w.heap.size (fun _=>True) v0_ r∧Below w.heap.size w w':=by
 have hu25:=Try.underlying25
 have HR0_0:=am hr0_0
 have HC0_0:=am hc0_0
 clear hr0_0 hc0_0
 have HR1:=am hr1
 have HC1:=am hc1
 clear hr1 hc1
 have HB:=am (Below.refl w.heap.size w)
 have H:((jTa.f k l0_0 l1 a2).bind fun t622=>(if t622=true then ((jda.f k l1 a2).bind fun t623=>(some t623)) else (some ([]:List Int))))=some r:=h
 clear h
 replace H:=bzS H
 obtain ⟨t622,A40,H⟩:=H
 replace H:(if t622=true then ((jda.f k l1 a2).bind fun t623=>(some t623)) else (some ([]:List Int)))=some r:=H
 have A4:=am A40
 clear A40
 by_cases c5:t622=true
 ·subst c5
  have H1:((jda.f k l1 a2).bind fun t623=>(some t623))=some r:=by rw [if_pos rfl] at H;exact H
  clear H
  have H:=H1
  clear H1
  replace H:=bzS H
  obtain ⟨t623,A60,H⟩:=H
  replace H:(some t623)=some r:=H
  have A6:=am A60
  clear A60
  obtain rfl:=Option.some.inj H
  go_enter Try.func13,Try.ntmps13
  go_wp2_with (first |((with_reducible refine jJ (N:=3) rfl ?_);refine bE (N:=3) (cs:=#[.slice A0_0 l0_0.length c0_0]) (t:=25) ?_;intro gb621 hg w7 hbox hb;have BK621:=am (hbox);have GW621:=am ((Y1:w.heap.size≤gb621));have GE621:=am ((Y1:w.heap.size≤gb621));replace HB:=am (jd (bq) hb);clear hb hbox hg;have hcz8_0:=bc0 BK621.out;have hfz8_0:=ja BK621.out 0) |((with_reducible refine jc (f:=31) rfl ?_);refine gL (some 10) Try.func31 #[.agg #[.slice A0_0 l0_0.length c0_0], .slice A1 l1.length c1, .int .i64 a2] ?_;(with_reducible refine (jTa.calls k _ _ l0_0 _ _ l1 a2 true _ ?side1 ?side2 ?side3 ?side4 A4.out).mono ?_);(case side1=>exact cq (Kd.jI HR0_0.out HB.out));(case side2=>exact HC0_0.out);(case side3=>exact cq (Kd.jI HR1.out HB.out));(case side4=>exact HC1.out);rintro e w9 ⟨rfl,hb⟩;refine ⟨_,rfl,?_⟩;replace BK621:=am (jh (g:=gb621) (o:=.cells #[.slice A0_0 l0_0.length c0_0] 25 (0,0)) (kq BK621.out) hb);replace HB:=am (jd (Y83) hb);(try clear hb);(try clear hb2);(try clear hk);(try clear hi)) |((with_reducible refine jc (f:=41) rfl ?_);refine gL (some 14) Try.func41 #[.slice A1 l1.length c1, .int .i64 a2] ?_;(with_reducible refine (jda.calls k _ _ l1 a2 t623 _ ?side1 ?side2 A6.out).mono ?_);(case side1=>exact cq (Kd.jI HR1.out HB.out));(case side2=>exact HC1.out);rintro e w10 ⟨v624,rfl,ho0,hb⟩;refine ⟨_,rfl,?_⟩;have HO625:=am (Kd.jW ho0 (jP (Y83)));replace BK621:=am (jh (g:=gb621) (o:=.cells #[.slice A0_0 l0_0.length c0_0] 25 (0,0)) (kq BK621.out) hb);replace HB:=am (jd (Y83) hb);(try clear hb);(try clear hb2);(try clear hk);(try clear hi);(try clear ho0)))
  go_ret
  exact ⟨_,Y0,rq HO625.out,Y83⟩
 ·replace c5:=Bool.eq_false_iff.mpr c5
  subst c5
  have H1:(some ([]:List Int))=some r:=by rw [if_neg (show ¬ (false=true) by decide)] at H;exact H
  clear H
  have H:=H1
  clear H1
  obtain rfl:=Option.some.inj H
  go_enter Try.func13,Try.ntmps13
  go_wp2_with (first |((with_reducible refine jJ (N:=3) rfl ?_);refine bE (N:=3) (cs:=#[.slice A0_0 l0_0.length c0_0]) (t:=25) ?_;intro gb621 hg w11 hbox hb;have BK621:=am (hbox);have GW621:=am ((Y1:w.heap.size≤gb621));have GE621:=am ((Y1:w.heap.size≤gb621));replace HB:=am (jd (bq) hb);clear hb hbox hg;have hcz12_0:=bc0 BK621.out;have hfz12_0:=ja BK621.out 0) |((with_reducible refine jc (f:=31) rfl ?_);refine gL (some 10) Try.func31 #[.agg #[.slice A0_0 l0_0.length c0_0], .slice A1 l1.length c1, .int .i64 a2] ?_;(with_reducible refine (jTa.calls k _ _ l0_0 _ _ l1 a2 false _ ?side1 ?side2 ?side3 ?side4 A4.out).mono ?_);(case side1=>exact cq (Kd.jI HR0_0.out HB.out));(case side2=>exact HC0_0.out);(case side3=>exact cq (Kd.jI HR1.out HB.out));(case side4=>exact HC1.out);rintro e w13 ⟨rfl,hb⟩;refine ⟨_,rfl,?_⟩;replace BK621:=am (jh (g:=gb621) (o:=.cells #[.slice A0_0 l0_0.length c0_0] 25 (0,0)) (kq BK621.out) hb);replace HB:=am (jd (Y83) hb);(try clear hb);(try clear hb2);(try clear hk);(try clear hi)))
  go_ret
  exact ⟨_,Y0,Y57,Y83⟩
def jpc.f (k : Nat) (s0_0 : List Int) (s0_1 : Int) (l1_0 : List (S75)) : Option (Int × Int) := (jg.f k s0_0 s0_1 16).bind fun bt759 => (if bt759.1 = 0 then ((jl.f k s0_0 bt759.2 (([(-1), (l1_0.length : Int), 8] : List Int))).bind fun bt764 => (some (bt764.1, bt764.2))) else ((jg.f k s0_0 bt759.2 (l1_0.length : Int)).bind fun bt766 => (some (bt766.1, bt766.2))))
set_option maxHeartbeats 8000000 in
set_option maxRecDepth 100000 in
theorem jpc.calls (k : Nat) (g : Nat) (s0_0 : List Int) (s0_1 : Int) (A1_0 : Option Addr) (c1_0 : Nat) (l1_0 : List (S75)) (r1 : Int) (r2 : Int) (w0 w : World) (hI : jf w0 w g s0_0 s0_1) (hB : Below w0.heap.size w0 w) (hr1_0 : ∀ W_, jb w W_ g none → Kd.C k75 W_ A1_0 l1_0.length l1_0) (hc1_0 : l1_0.length ≤ c1_0) (h : jpc.f k s0_0 s0_1 l1_0 = some (r1, r2)) :
  Calls Try.prog 47 #[.pointer (some ⟨g,0,none⟩), .agg #[.slice A1_0 l1_0.length c1_0]] w fun e w'=>e=.returned (.int .i64 r1)∧jf w0 w' g s0_0 r2∧Below w0.heap.size w0 w'∧jb w w' g none:=by
 have hu25:=Try.underlying25
 have HR1_0:=am hr1_0
 have HC1_0:=am hc1_0
 clear hr1_0 hc1_0
 have HI0:=am hI
 have HK:=am (jb.refl w g none)
 have HL:=am hB.size
 clear hI
 have HW0:=am hB.size
 have HB:=am hB
 clear hB
 have H:((jg.f k s0_0 s0_1 16).bind fun bt759=>(if bt759.1=0 then ((jl.f k s0_0 bt759.2 (([(-1),(l1_0.length:Int),8]:List Int))).bind fun bt764=>(some (bt764.1,bt764.2))) else ((jg.f k s0_0 bt759.2 (l1_0.length:Int)).bind fun bt766=>(some (bt766.1,bt766.2)))))=some (r1,r2):=h
 clear h
 replace H:=bzS H
 obtain ⟨⟨t759,t760⟩,A30,H⟩:=H
 replace H:(if t759=0 then ((jl.f k s0_0 t760 (([(-1),(l1_0.length:Int),8]:List Int))).bind fun bt764=>(some (bt764.1,bt764.2))) else ((jg.f k s0_0 t760 (l1_0.length:Int)).bind fun bt766=>(some (bt766.1,bt766.2))))=some (r1,r2):=H
 have A3:=am A30
 clear A30
 by_cases c4:t759=0
 ·rw [if_pos c4] at H
  have c4b0:(t759 == 0)=true:=beq_iff_eq.mpr c4
  have c4b1:(t759 != 0)=false:=bne_eq_false_iff_eq.mpr c4
  clear c4
  obtain ⟨y761,hy761⟩:∃ y_:List Int,y_=(([(-1),(l1_0.length:Int),8]:List Int)):=⟨_,rfl⟩
  replace H:((jl.f k s0_0 t760 y761).bind fun bt764=>(some (bt764.1,bt764.2)))=some (r1,r2):=by first |(rw [hy761];with_reducible exact H) |(have H2_:=(Option.bind_some _ _).symm.trans H;rw [hy761];with_reducible exact H2_) |(have H2_:=(Option.bind_some _ _).symm.trans H;with_reducible exact H2_) | with_reducible exact H |(rw [hy761];exact H) | exact H
  have Ny761:=am hy761
  clear hy761
  replace H:=bzS H
  obtain ⟨⟨t764,t765⟩,A50,H⟩:=H
  replace H:(some (t764,t765))=some (r1,r2):=H
  have A5:=am A50
  clear A50
  simp only [Option.some.injEq,Prod.mk.injEq] at H
  obtain ⟨rfl,rfl⟩:=H
  go_enter Try.func47,Try.ntmps47
  go_wp2_with (first |((with_reducible refine jJ (N:=3) rfl ?_);refine bE (N:=3) (cs:=#[.slice A1_0 l1_0.length c1_0]) (t:=25) ?_;intro gb758 hg w6 hbox hb;have BK758:=am (hbox);have GW758:=am ((Y11:w.heap.size≤gb758));have GE758:=am ((Nat.le_trans HW0.out (Y11:w.heap.size≤gb758):w0.heap.size≤gb758));have NB0_758:=am ((Y23:g≠gb758));have NB758_0:=am ((Y24:gb758≠g));replace HK:=am (jb.trans (Y16) (jb.of_below hb g none) (.inl rfl));replace HB:=am (jd (Y17) hb);replace HI0:=am (jf.below (Y15) hb);clear hb hbox hg) |((with_reducible refine jc (f:=42) rfl ?_);refine gL (some 6) Try.func42 #[.pointer (some ⟨g,0,none⟩), .int .i64 16] ?_;(with_reducible refine (jg.calls k g s0_0 s0_1 16 t759 t760 w0 _ ?side1 ?side2 A3.out).mono ?_);(case side1=>exact Y65);(case side2=>exact Y70);rintro e w7 ⟨rfl,hi,hb,hk⟩;refine ⟨_,rfl,?_⟩;replace BK758:=am (jb.blk hk (g':=gb758) (o:=.cells #[.slice A1_0 l1_0.length c1_0] 25 (0,0)) (kq BK758.out) NB758_0.out (by simp));replace HK:=am (jb.trans (Y66) hk (.inl rfl));replace HB:=am (hb);replace HI0:=am (hi);(try clear hb);(try clear hb2);(try clear hk);(try clear hi);have hnb8:=NB758_0.out;have hnc8:=NB0_758.out;have hcz9_0:=bc0 BK758.out;have hfz9_0:=ja BK758.out 0) |((with_reducible refine jJ (N:=12) rfl ?_);refine Kd.jAc (Kd.int .i64) _ 3 ?hg (N:=12) ?hd (xs:=([(-1),(l1_0.length:Int),8]:List Int)) (inner:=[.int .i64 (-1), .int .i64 (l1_0.length:Int), .int .i64 8]) (ok:=fun _=>True) (okp:=fun _=>True) ?hr ?hp (fun _ hk=>hk) trivial (Below.refl _ _) (Nat.le_refl _) (by simp) ?_;(case hd=>rfl);(case hg=>rfl);(case hr=>exact Y6);(case hp=>exact (Reps.one (show Kd.M (Kd.int .i64) _ _ _ (-1) [.int .i64 (-1)] from rfl) (Reps.one (show Kd.M (Kd.int .i64) _ _ _ (l1_0.length:Int) [.int .i64 (l1_0.length:Int)] from rfl) (Reps.one (show Kd.M (Kd.int .i64) _ _ _ 8 [.int .i64 8] from rfl) (Reps.none _ _)))));intro v762 w10 ho11 hb hg_ hnew_;clear hg_ hnew_;(first | rw [← Ny761.out] at ho11 |(simp only [Int.reduceToNat] at ho11;rw [← Ny761.out] at ho11));have HO763:=am (Kd.jW ho11 (jS (w:=w) (g:=g) (row:=none) (Y66)));replace BK758:=am (jh (g:=gb758) (o:=.cells #[.slice A1_0 l1_0.length c1_0] 25 (0,0)) (kq BK758.out) hb);replace HK:=am (jb.trans (Y66) (jb.of_below hb g none) (.inl rfl));replace HB:=am (jd (Y70) hb);replace HI0:=am (jf.below (Y65) hb);clear hb ho11;obtain ⟨Ao12,co12,eo12⟩:=Kd.jba HO763.out;subst eo12) |((with_reducible refine jc (f:=58) rfl ?_);refine gL (some 13) Try.func58 #[.pointer (some ⟨g,0,none⟩), .slice Ao12 y761.length co12] ?_;(with_reducible refine (jl.calls k g s0_0 t760 _ _ y761 t764 t765 w0 _ ?side1 ?side2 ?side3 ?side4 ?side5 A5.out).mono ?_);(case side1=>exact Y65);(case side2=>exact Y70);(case side3=>exact cq (Kd.jm HO763.out).2.2);(case side4=>exact (Kd.jm HO763.out).2.1);(case side5=>exact jSb (jf.own_ne HI0.out HO763.out (by decide)));rintro e w13 ⟨rfl,hi,hb,hk⟩;refine ⟨_,rfl,?_⟩;replace BK758:=am (jb.blk hk (g':=gb758) (o:=.cells #[.slice A1_0 l1_0.length c1_0] 25 (0,0)) (kq BK758.out) NB758_0.out (by simp));replace HO763:=am (Kd.jF (Kd.jFa (jf.apart (show jf w0 _ g s0_0 t760 from Y65) (rq HO763.out) (by decide)) hk (fun _ h=>h.2)) (fun _ h=>h.1));replace HK:=am (jb.trans (Y66) hk (.inl rfl));replace HB:=am (hb);replace HI0:=am (hi);(try clear hb);(try clear hb2);(try clear hk);(try clear hi)))
  go_ret
  exact ⟨Y0,Y65,Y70,Y66⟩
 ·rw [if_neg c4] at H
  have c4b0:(t759 == 0)=false:=beq_eq_false_iff_ne.mpr c4
  have c4b1:(t759 != 0)=true:=bne_iff_ne.mpr c4
  replace H:=bzS H
  obtain ⟨⟨t766,t767⟩,A140,H⟩:=H
  replace H:(some (t766,t767))=some (r1,r2):=H
  have A14:=am A140
  clear A140
  simp only [Option.some.injEq,Prod.mk.injEq] at H
  obtain ⟨rfl,rfl⟩:=H
  go_enter Try.func47,Try.ntmps47
  go_wp2_with (first |((with_reducible refine jJ (N:=3) rfl ?_);refine bE (N:=3) (cs:=#[.slice A1_0 l1_0.length c1_0]) (t:=25) ?_;intro gb758 hg w15 hbox hb;have BK758:=am (hbox);have GW758:=am ((Y11:w.heap.size≤gb758));have GE758:=am ((Nat.le_trans HW0.out (Y11:w.heap.size≤gb758):w0.heap.size≤gb758));have NB0_758:=am ((Y23:g≠gb758));have NB758_0:=am ((Y24:gb758≠g));replace HK:=am (jb.trans (Y16) (jb.of_below hb g none) (.inl rfl));replace HB:=am (jd (Y17) hb);replace HI0:=am (jf.below (Y15) hb);clear hb hbox hg) |((with_reducible refine jc (f:=42) rfl ?_);refine gL (some 6) Try.func42 #[.pointer (some ⟨g,0,none⟩), .int .i64 16] ?_;(with_reducible refine (jg.calls k g s0_0 s0_1 16 t759 t760 w0 _ ?side1 ?side2 A3.out).mono ?_);(case side1=>exact Y65);(case side2=>exact Y70);rintro e w16 ⟨rfl,hi,hb,hk⟩;refine ⟨_,rfl,?_⟩;replace BK758:=am (jb.blk hk (g':=gb758) (o:=.cells #[.slice A1_0 l1_0.length c1_0] 25 (0,0)) (kq BK758.out) NB758_0.out (by simp));replace HK:=am (jb.trans (Y66) hk (.inl rfl));replace HB:=am (hb);replace HI0:=am (hi);(try clear hb);(try clear hb2);(try clear hk);(try clear hi);have hnb17:=NB758_0.out;have hnc17:=NB0_758.out;have hcz18_0:=bc0 BK758.out;have hfz18_0:=ja BK758.out 0) |((with_reducible refine jc (f:=42) rfl ?_);refine gL (some 18) Try.func42 #[.pointer (some ⟨g,0,none⟩), .int .i64 (l1_0.length:Int)] ?_;(with_reducible refine (jg.calls k g s0_0 t760 (l1_0.length:Int) t766 t767 w0 _ ?side1 ?side2 A14.out).mono ?_);(case side1=>exact Y65);(case side2=>exact Y70);rintro e w19 ⟨rfl,hi,hb,hk⟩;refine ⟨_,rfl,?_⟩;replace BK758:=am (jb.blk hk (g':=gb758) (o:=.cells #[.slice A1_0 l1_0.length c1_0] 25 (0,0)) (kq BK758.out) NB758_0.out (by simp));replace HK:=am (jb.trans (Y66) hk (.inl rfl));replace HB:=am (hb);replace HI0:=am (hi);(try clear hb);(try clear hb2);(try clear hk);(try clear hi)))
  go_ret
  exact ⟨Y0,Y65,Y70,Y66⟩
def jza.f (k : Nat) (l0 : List Int) : Option ((List (S75)) × (List (S36)) × Int × Int) := (jjc.f l0).bind fun bt769 => ((jSa.f k bt769.1 bt769.2).bind fun bt772 => ((jpc.f k bt769.1 bt772.2.2.2 bt772.1).bind fun bt781 => (some (bt772.1, bt772.2.1, bt772.2.2.1, bt781.1))))
def jza.T3 : Bool × List (List Nat × List Nat) := (true, [([], []), ([], []), ([], []), ([], []), ([], []), ([3, 4], [3, 4]), ([0, 5, 0], [0]), ([1, 6, 0, 1, 6], [1]), ([2, 7, 0, 1, 2, 6, 7], [2]), ([5, 8, 0, 1, 2, 3, 4, 5, 6, 7, 8], [5])])
def jza.B3 : List Nat := [0, 0, 0, 0, 0, 24, 57, 123, 255, 511]
theorem jza.tab3 : rtab .any (opsOf Try.f18 3) = jza.T3 := by kernel_rfl
theorem jza.bits3 : juc jza.T3.2 jza.B3 = true := by kernel_rfl
set_option maxHeartbeats 8000000 in
set_option maxRecDepth 100000 in
theorem jza.calls (k : Nat) (A0 : Option Addr) (c0 : Nat) (l0 : List Int) (r1 : List (S75)) (r2 : List (S36)) (r3 : Int) (r4 : Int) (w : World) (hr0 : Kd.C (Kd.int .u8) w A0 l0.length l0) (hc0 : l0.length ≤ c0) (h : jza.f k l0 = some (r1, r2, r3, r4)) :
  Calls Try.prog 18 #[.slice A0 l0.length c0] w fun e w'=>∃ v0_ v1_:Value,e=.returned (.tuple #[.agg #[v0_],v1_, .int .i64 r3, .int .i64 r4])∧Kd.R k75 75 w' w.heap.size (fun _=>True) v0_ r1∧Kd.Q k36 36 w' w.heap.size (fun _=>True) v1_ r2∧Below w.heap.size w w':=by
 have hu25:=Try.underlying25
 have HR0:=am hr0
 have HC0:=am hc0
 clear hr0 hc0
 have HB:=am (Below.refl w.heap.size w)
 have H:((jjc.f l0).bind fun bt769=>((jSa.f k bt769.1 bt769.2).bind fun bt772=>((jpc.f k bt769.1 bt772.2.2.2 bt772.1).bind fun bt781=>(some (bt772.1,bt772.2.1,bt772.2.2.1,bt781.1)))))=some (r1,r2,r3,r4):=h
 clear h
 replace H:=bzS H
 obtain ⟨⟨t769,t770⟩,A20,H⟩:=H
 replace H:((jSa.f k t769 t770).bind fun bt772=>((jpc.f k t769 bt772.2.2.2 bt772.1).bind fun bt781=>(some (bt772.1,bt772.2.1,bt772.2.2.1,bt781.1))))=some (r1,r2,r3,r4):=H
 have A2:=am A20
 clear A20
 replace H:=bzS H
 obtain ⟨⟨t772,t775,t778,t779⟩,A30,H⟩:=H
 replace H:((jpc.f k t769 t779 t772).bind fun bt781=>(some (t772,t775,t778,bt781.1)))=some (r1,r2,r3,r4):=H
 have A3:=am A30
 clear A30
 replace H:=bzS H
 obtain ⟨⟨t781,t782⟩,A40,H⟩:=H
 replace H:(some (t772,t775,t778,t781))=some (r1,r2,r3,r4):=H
 have A4:=am A40
 clear A40
 simp only [Option.some.injEq,Prod.mk.injEq] at H
 obtain ⟨rfl,rfl,rfl,rfl⟩:=H
 go_enter Try.func18,Try.ntmps18
 try go_wp2_with (first |((with_reducible refine jJ (N:=2) rfl ?_);refine bE (N:=2) (cs:=#[.slice none 0 0]) (t:=25) ?_;intro gb768 hg w5 hbox hb;have BK768:=am (hbox);have GW768:=am ((Y1:w.heap.size≤gb768));have GE768:=am ((Y1:w.heap.size≤gb768));replace HB:=am (jd (bq) hb);clear hb hbox hg) |((with_reducible refine jc (f:=30) rfl ?_);refine gL (some 11) Try.func30 #[.slice A0 l0.length c0] ?_;(with_reducible refine (jjc.calls _ _ l0 t769 t770 w _ ?side1 ?side2 ?side3 A2.out).mono ?_);(case side1=>repeat (first |(with_reducible first | exact HB.out | apply jM | apply jq | apply jD | refine jL ?_ GE768.out) | exact HB.out));(case side2=>exact HR0.out);(case side3=>exact HC0.out);rintro e w6 ⟨g771,rfl,hi,hb,hb2⟩;refine ⟨_,rfl,?_⟩;have HI771:=am (hi);have NB771_768:=am (jf.ne_blk hi (jh (g:=gb768) (o:=.cells #[.slice none 0 0] 25 (0,0)) (kq BK768.out) hb2) (by decide));have NB768_771:=am (Ne.symm (jf.ne_blk hi (jh (g:=gb768) (o:=.cells #[.slice none 0 0] 25 (0,0)) (kq BK768.out) hb2) (by decide)));replace BK768:=am (jh (g:=gb768) (o:=.cells #[.slice none 0 0] 25 (0,0)) (kq BK768.out) hb2);replace HB:=am (hb);(try clear hb);(try clear hb2);(try clear hk);(try clear hi)) |((with_reducible refine jc (f:=29) rfl ?_);refine gL (some 14) Try.func29 #[.pointer (some ⟨g771,0,none⟩)] ?_;(with_reducible refine (jSa.calls k g771 t769 t770 t772 t775 t778 t779 w _ ?side1 ?side2 A3.out).mono ?_);(case side1=>exact Y138);(case side2=>exact Y107);rintro e w7 ⟨v773,v776,rfl,ho0,ho1,hi,hb,hk⟩;refine ⟨_,rfl,?_⟩;have HO774:=am (Kd.jW ho0 (jP (Y107)));have HO777:=am (Kd.Q_lower ho1 (jP (Y107)));replace BK768:=am (jb.blk hk (g':=gb768) (o:=.cells #[.slice none 0 0] 25 (0,0)) (kq BK768.out) NB768_771.out (by simp));replace HB:=am (hb);replace HI771:=am (hi);(try clear hb);(try clear hb2);(try clear hk);(try clear hi);(try clear ho0);(try clear ho1)) |((with_reducible refine jJ (N:=7) rfl ?_);refine bE (N:=7) (cs:=#[.slice none 0 0]) (t:=25) ?_;intro gb780 hg w8 hbox hb;have BK780:=am (hbox);have GW780:=am ((Y139:w.heap.size≤gb780));have GE780:=am ((Y139:w.heap.size≤gb780));have NB768_780:=am ((by rw [hg];exact Nat.ne_of_lt (jYb (g:=gb768) (o:=.cells #[.slice none 0 0] 25 (0,0)) (kq BK768.out)):gb768≠gb780));have NB780_768:=am ((by rw [hg];exact Nat.ne_of_gt (jYb (g:=gb768) (o:=.cells #[.slice none 0 0] 25 (0,0)) (kq BK768.out)):gb780≠gb768));have NB771_780:=am ((by rw [hg];exact Nat.ne_of_lt (jf.lt (show jf w _ g771 t769 t779 from by repeat (first |(with_reducible first | exact HI771.out | apply jf.alloc | apply jf.drewN | apply jf.drew | apply jf.jGc | refine jf.far ?_ NB771_768.out _) | exact HI771.out))):g771≠gb780));have NB780_771:=am ((by rw [hg];exact Nat.ne_of_gt (jf.lt (show jf w _ g771 t769 t779 from by repeat (first |(with_reducible first | exact HI771.out | apply jf.alloc | apply jf.drewN | apply jf.drew | apply jf.jGc | refine jf.far ?_ NB771_768.out _) | exact HI771.out))):gb780≠g771));replace HO774:=am (Kd.jU (rq HO774.out) hb);replace HO777:=am (Kd.jab (by (with_reducible repeat (first | apply Kd.jWb | apply Kd.jUb | apply Kd.jVb));exact HO777.out) hb);replace BK768:=am (jh (g:=gb768) (o:=.cells #[.slice none 0 0] 25 (0,0)) (kq BK768.out) hb);replace HB:=am (jd (Y107) hb);replace HI771:=am (jf.below (Y138) hb);clear hb hbox hg;obtain ⟨Ao9,co9,eo9⟩:=Kd.jba HO774.out;subst eo9;have hnb10:=NB780_768.out;have hnc10:=NB768_780.out;have hnb11:=NB780_771.out;have hnc11:=NB771_780.out;have hcz12_0:=bc0 BK780.out;have hfz12_0:=ja BK780.out 0))
 have n0_:jo (Kd.R k75 75 (w8.setCell ⟨gb780,0,none⟩ (.slice Ao9 t772.length co9)) w.heap.size (fun _=>True) (.slice Ao9 t772.length co9) t772):=⟨by (with_reducible repeat (first | apply Kd.jfa | apply Kd.jea | apply Kd.jga));exact Kd.jF (Kd.jhc (p:=⟨gb780,0,none⟩) (Kd.jYa HO774.out BK780.out (by decide)) (fun _ hk=>hk.2) (.slice Ao9 t772.length co9)) (fun _ hk=>trivial)⟩
 have n1_:jo (Kd.Q k36 36 (w8.setCell ⟨gb780,0,none⟩ (.slice Ao9 t772.length co9)) w.heap.size (fun _=>True) v776 t775):=⟨by (with_reducible repeat (first | apply Kd.jWb | apply Kd.jUb | apply Kd.jVb));exact Kd.jOc (Kd.Q_far (p:=⟨gb780,0,none⟩) (Kd.jbd HO777.out BK780.out (by decide)) (fun _ hk=>hk.2) (.slice Ao9 t772.length co9)) (fun _ hk=>trivial)⟩
 have n2_:jo ((w8.setCell ⟨gb780,0,none⟩ (.slice Ao9 t772.length co9)).heap[gb768]?=some (.cells #[.slice none 0 0] 25 (0,0))):=⟨by (with_reducible repeat (first | refine jy ?_ _ | refine jA ?_ | refine jC ?_ _));refine jDb ?_ NB768_780.out _;(with_reducible repeat (first | refine jy ?_ _ | refine jA ?_ | refine jC ?_ _));exact BK768.out⟩
 have n3_:jo ((w8.setCell ⟨gb780,0,none⟩ (.slice Ao9 t772.length co9)).heap[gb780]?=some (.cells #[.slice Ao9 t772.length co9] 25 (0,0))):=⟨by (with_reducible repeat (first | refine jy ?_ _ | refine jA ?_ | refine jC ?_ _));refine jjb (cs:=#[.slice none 0 0]) ?_ 0 _ rfl;(with_reducible repeat (first | refine jy ?_ _ | refine jA ?_ | refine jC ?_ _));exact BK780.out⟩
 have n4_:jo (jf w (w8.setCell ⟨gb780,0,none⟩ (.slice Ao9 t772.length co9)) g771 t769 t779):=⟨Y87⟩
 have n5_:jo (Below w.heap.size w (w8.setCell ⟨gb780,0,none⟩ (.slice Ao9 t772.length co9))):=⟨Y115⟩
 (try clear HO774)
 (try clear HO777)
 (try clear BK768)
 (try clear BK780)
 (try clear HI771)
 (try clear HB)
 generalize (w8.setCell ⟨gb780,0,none⟩ (.slice Ao9 t772.length co9))=w13 at n0_ n1_ n2_ n3_ n4_ n5_ ⊢
 have HO774:=n0_
 have HO777:=n1_
 have BK768:=n2_
 have BK780:=n3_
 have HI771:=n4_
 have HB:=n5_
 clear n0_ n1_ n2_ n3_ n4_ n5_
 replace HO774:=am (Kd.jga HO774.out)
 replace HO777:=am (Kd.jVb HO777.out)
 replace BK768:=am (jA BK768.out)
 replace BK780:=am (jA BK780.out)
 replace HI771:=am (jf.drew HI771.out)
 replace HB:=am (jD HB.out)
 refine jrc (n:=10) (S:=fun w'=>w'.cell? ⟨gb780,0,none⟩=some (.slice Ao9 t772.length co9)) (ds:=[]) #[false,false,false,false,false,false,false,false,false,false] (by kernel_rfl) rfl rfl ((jH BK780.out 0).trans rfl) (fun hHeld=>?_);refine jpb jza.tab3 jza.bits3 (fun HT_ HW_=>?_)
 generalize w13.drew=w14 at HO774 HO777 BK768 BK780 HI771 HB hHeld ⊢
 refine pq (i:=1) (N:=some 19) #[false,true,false,false,false,false,false,false,false,false] ?_
 refine pq (i:=2) (N:=some 20) #[false,true,true,false,false,false,false,false,false,false] ?_
 refine pq (i:=3) (N:=some 21) #[false,true,true,true,false,false,false,false,false,false] ?_
 refine jXb (i:=0) (N:=some 18) (v:=?_) (a':=?_) #[true,true,true,true,false,false,false,false,false,false] rfl rfl (jIa HT_.out HW_.out (by kernel_rfl)) (fun _ _ _ h=>h) (Or.inl ⟨by rfl,?_⟩) hHeld ?_ ?_
 rotate_left
 ·intro w' s0
  go_simp
  with_reducible rfl
 rotate_left
 ·exact sa
 refine jXb (i:=4) (N:=some 22) (v:=?_) (a':=?_) #[true,true,true,true,true,false,false,false,false,false] rfl rfl (jIa HT_.out HW_.out (by kernel_rfl)) (fun _ _ _ h=>h) (Or.inl ⟨by rfl,?_⟩) hHeld ?_ ?_
 rotate_left
 ·intro w' s0
  go_simp
  with_reducible rfl
 rotate_left
 ·exact sa
 refine one_ (i:=5) (N:=some 23) #[true,true,true,true,true,true,false,false,false,false] rfl rfl (jNb HT_.out (by kernel_rfl)) (by decide) (fun K hK=>?_)
 refine jSc Try.func47 (by kernel_rfl) rfl #[.pointer (some ⟨g771,0,none⟩), .agg #[.slice Ao9 t772.length co9]] (by rfl) rfl rfl (aq) ?_
 with_reducible refine (jpc.calls k g771 t769 t779 _ _ t772 t781 t782 w _ ?side1 ?side2 ?side3 ?side4 A4.out).mono ?_
 (case side1=>exact Y87)
 (case side2=>exact Y115)
 (case side3=>exact Kd.jWc (jf.apart (show jf w _ g771 t769 t779 from Y87) (rq HO774.out) (by decide)) (fun _ h_=>h_.2))
 (case side4=>exact (Kd.jm HO774.out).2.1)
 rintro e w15 ⟨rfl,hi,hb,hk⟩
 refine ⟨_,rfl,?_⟩
 replace BK768:=am (jb.blk hk (g':=gb768) (o:=.cells #[.slice none 0 0] 25 (0,0)) (kq BK768.out) NB768_771.out (by simp))
 replace HO774:=am (Kd.jF (Kd.jFa (jf.apart (show jf w _ g771 t769 t779 from Y87) (rq HO774.out) (by decide)) hk (fun _ h=>h.2)) (fun _ h=>h.1))
 replace HO777:=am (Kd.jOc (Kd.Q_keep (jf.apartQ (show jf w _ g771 t769 t779 from Y87) (by (with_reducible repeat (first | apply Kd.jWb | apply Kd.jUb | apply Kd.jVb));exact HO777.out) (by decide)) hk (fun _ h=>h.2)) (fun _ h=>h.1))
 replace BK780:=am (jb.blk hk (g':=gb780) (o:=.cells #[.slice Ao9 t772.length co9] 25 (0,0)) (kq BK780.out) NB780_771.out (by simp))
 replace HB:=am (hb)
 replace HI771:=am (hi)
 (try clear hb)
 (try clear hb2)
 (try clear hk)
 (try clear hi)
 refine hK.out _ _ ((jH BK780.out 0).trans rfl) (fun hHeld=>?_)
 clear hK K
 refine jmc (a':=?_) ?_ ?_
 rotate_left
 ·show Act.put _ (some 23) _=_
  simp only [Act.put,List.setIfInBounds_toArray,List.set_cons_zero,List.set_cons_succ,jkb,job]
  rfl
 refine one_ (i:=6) (N:=none) #[true,true,true,true,true,true,true,false,false,false] rfl rfl (jNb HT_.out (by kernel_rfl)) (by decide) (fun K hK=>?_)
 have hs16:w15.cell? ⟨gb768,0,none⟩=some (.slice none 0 0):=(jH BK768.out 0).trans rfl
 have hfs16:=ja BK768.out 0
 have hns16_1:=NB780_768.out
 have hms16_1:=NB768_780.out
 refine skip_ (w1:=?_) (by rfl) rfl ?_ ?_
 rotate_left
 ·go_simp
  rfl
 refine hK.out _ _ (((cell_far (p:=⟨gb768,_,none⟩) NB780_768.out _).trans (hHeld))) (fun hHeld=>?_)
 clear hK K
 refine pq (i:=7) (N:=some 3) #[true,true,true,true,true,true,true,true,false,false] ?_
 refine pq (i:=8) (N:=some 4) #[true,true,true,true,true,true,true,true,true,false] ?_
 refine pq (i:=9) (N:=some 5) #[true,true,true,true,true,true,true,true,true,true] ?_
 refine jQc (jZb HT_.out (by kernel_rfl)) ?_
 try go_wp2
 refine bodyPost_ret (results_list (rs:=[.cell 2 25, .tmp 3, .tmp 4, .tmp 5]) rfl (by simp) (.cell gb768 25 #[.slice Ao9 t772.length co9] (0,0) _ rfl (by (with_reducible repeat (first | refine jy ?_ _ | refine jA ?_ | refine jC ?_ _));refine jjb (cs:=#[.slice none 0 0]) ?_ 0 _ rfl;(with_reducible repeat (first | refine jy ?_ _ | refine jA ?_ | refine jC ?_ _));exact BK768.out) Try.underlying25 rfl (by kernel_rfl) (.tmp (.tmp (.tmp .nil))))) rfl ?_
 exact ⟨_,_,Y0,by (with_reducible repeat (first | apply Kd.jfa | apply Kd.jea | apply Kd.jga));exact Kd.jF (Kd.jhc (p:=⟨gb768,0,none⟩) (Kd.jYa HO774.out BK768.out (by decide)) (fun _ hk=>hk.2) (.slice Ao9 t772.length co9)) (fun _ hk=>trivial),by (with_reducible repeat (first | apply Kd.jWb | apply Kd.jUb | apply Kd.jVb));exact Kd.jOc (Kd.Q_far (p:=⟨gb768,0,none⟩) (Kd.jbd HO777.out BK768.out (by decide)) (fun _ hk=>hk.2) (.slice Ao9 t772.length co9)) (fun _ hk=>trivial),Y115⟩
def jta.l0 : Nat → List Int → Int → Int → Int → Option (Int)
 | 0,_,_,_,_=>none
 | k+1,x0,x1,x7,x8=>if x8<x7 then (if 0≤x8 then (if x8<(x0.length:Int) then (if x1=(rd x0 x8) then (some x8) else (jta.l0 k x0 x1 x7 (wrap64 (x8+1)))) else (none)) else (none)) else (some (-1))
def jta.f (k : Nat) (l0 : List Int) (a1 : Int) : Option (Int) := jta.l0 k l0 a1 (l0.length : Int) 0
set_option maxHeartbeats 8000000 in
set_option maxRecDepth 100000 in
theorem jta.calls (k : Nat) (A0 : Option Addr) (c0 : Nat) (l0 : List Int) (a1 : Int) (r : Int) (w : World) (hr0 : Kd.C (Kd.int .i64) w A0 l0.length l0) (hc0 : l0.length ≤ c0) (h : jta.f k l0 a1 = some r) :
  Calls Try.prog 89 #[.slice A0 l0.length c0, .int .i64 a1] w fun e w'=>e=.returned (.int .i64 r)∧jwb w w':=by
 have HR0:=am hr0
 have HC0:=am hc0
 clear hr0 hc0
 have H:(jta.l0 k l0 a1 (l0.length:Int) 0)=some r:=h
 clear h
 have H':=am H
 clear H
 go_enter Try.func89,Try.ntmps89
 go_wp2
 go_loopg [8] k (fun kq v8 w'=>∃ (x8_1:Int),v8=.int .i64 x8_1∧jo (jta.l0 kq l0 a1 (l0.length:Int) x8_1=some r)∧jo (kq≤k)∧jwb w w')
 case atStart=>exact ⟨(0),(sq),H',⟨Nat.le_refl _⟩,Y4⟩
 case round =>
  clear H'
  try clear p2
  obtain ⟨x8_1,rfl,HA,HK1,⟨m1,rfl⟩⟩:=hrel
  cases gk with
  | zero=>exact absurd HA.out (by simp [jta.l0])
  | succ k1 =>
   have H:=HA.out
   clear HA
   simp only [jta.l0] at H
   by_cases c3:x8_1<(l0.length:Int)
   ·rw [if_pos c3] at H
    have c3b0:decide (x8_1<(l0.length:Int))=true:=dzT c3
    clear c3
    by_cases c4:0≤x8_1
    ·rw [if_pos c4] at H
     have c4b0:decide (0≤x8_1)=true:=dzT c4
     clear c4
     by_cases c5:x8_1<(l0.length:Int)
     ·rw [if_pos c5] at H
      have c5b0:decide (x8_1<(l0.length:Int))=true:=dzT c5
      clear c5
      by_cases c6:a1=(rd l0 x8_1)
      ·rw [if_pos c6] at H
       have c6b0:(a1 == (rd l0 x8_1))=true:=beq_iff_eq.mpr c6
       have c6b1:(a1 != (rd l0 x8_1))=false:=bne_eq_false_iff_eq.mpr c6
       clear c6
       obtain rfl:=Option.some.inj H
       have p783:0≤(x8_1:Int):=ozD (uq)
       have q783:x8_1<(l0.length:Int):=ozD (uq)
       obtain ⟨ad783,e783,hx783_0⟩:=Kd.jXa HR0.out x8_1 p783 q783
       cases e783
       replace p783:=ezT p783
       replace q783:=ezT q783
       go_wp2
       go_ret
       exact ⟨sq,Y4⟩
      ·rw [if_neg c6] at H
       have c6b0:(a1 == (rd l0 x8_1))=false:=beq_eq_false_iff_ne.mpr c6
       have c6b1:(a1 != (rd l0 x8_1))=true:=bne_iff_ne.mpr c6
       have H':=am H
       clear H
       have p783:0≤(x8_1:Int):=ozD (uq)
       have q783:x8_1<(l0.length:Int):=ozD (uq)
       obtain ⟨ad783,e783,hx783_0⟩:=Kd.jXa HR0.out x8_1 p783 q783
       cases e783
       replace p783:=ezT p783
       replace q783:=ezT q783
       go_wp2
       go_roundg k1
       case measure=>have:=HK1.out;omega
       case rel=>exact ⟨(wrap64 (x8_1+1)),(sq),H',⟨by have:=HK1.out;omega⟩,Y4⟩
     ·rw [if_neg c5] at H
      exact absurd H (by simp)
    ·rw [if_neg c4] at H
     exact absurd H (by simp)
   ·rw [if_neg c3] at H
    have c3b0:decide (x8_1<(l0.length:Int))=false:=dzF c3
    clear c3
    obtain rfl:=Option.some.inj H
    go_wp2
    go_ret
    exact ⟨sq,Y4⟩
def jcb.f (k : Nat) (l0 : List Int) (a1 : Int) : Option (Bool) := (jta.f k l0 a1).bind fun t784 => (some (decide (t784 ≥ 0)))
set_option maxHeartbeats 8000000 in
set_option maxRecDepth 100000 in
theorem jcb.calls (k : Nat) (A0 : Option Addr) (c0 : Nat) (l0 : List Int) (a1 : Int) (r : Bool) (w : World) (hr0 : Kd.C (Kd.int .i64) w A0 l0.length l0) (hc0 : l0.length ≤ c0) (h : jcb.f k l0 a1 = some r) :
  Calls Try.prog 75 #[.slice A0 l0.length c0, .int .i64 a1] w fun e w'=>e=.returned (.bool r)∧jwb w w':=by
 have HR0:=am hr0
 have HC0:=am hc0
 clear hr0 hc0
 have H:((jta.f k l0 a1).bind fun t784=>(some (decide (t784≥0))))=some r:=h
 clear h
 replace H:=bzS H
 obtain ⟨t784,A30,H⟩:=H
 replace H:(some (decide (t784≥0)))=some r:=H
 have A3:=am A30
 clear A30
 obtain rfl:=Option.some.inj H
 go_enter Try.func75,Try.ntmps75
 go_wp2_with (first |((with_reducible refine jc (f:=89) rfl ?_);refine gL (some 7) Try.func89 #[.slice A0 l0.length c0, .int .i64 a1] ?_;(with_reducible refine (jta.calls k _ _ l0 a1 t784 _ ?side1 ?side2 A3.out).mono ?_);(case side1=>exact Y35);(case side2=>exact HC0.out);rintro e w' ⟨rfl,⟨nd,rfl⟩⟩;refine ⟨_,rfl,?_⟩))
 go_ret
 exact ⟨sq,Y4⟩
end Go.Proofs.Ytkedkinojeoeaaa.P
end
