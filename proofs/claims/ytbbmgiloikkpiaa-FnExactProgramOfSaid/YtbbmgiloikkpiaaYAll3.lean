/- One part of the proofs on this program: functions of the program as plain functions, that the code comes to them, and facts on them. -/
import Derived.Test.YtbbmgiloikkpiaaYAll1
import Derived.Test.YtbbmgiloikkpiaaYAll2
import Derived.Test.YtbbmgiloikkpiaaYWAuto
section
namespace Go.Proofs.Ytbbmgiloikkpiaa.P
open Go.RowKit Go.Proofs.YtbbmgiloikkpiaaW.PrintWords Go.Proofs.YtbbmgiloikkpiaaW.PrintLast Go.Proofs.YtbbmgiloikkpiaaW.PrintMore
attribute [local go_sem] jaa jY joa jna jR jQ jZ jX jh
set_option linter.unusedVariables false
set_option linter.unusedSimpArgs false
def jo.inB (a lo hi : Int) : Bool := decide (lo ≤ a) && decide (a ≤ hi)
theorem jXb (a lo hi : Int) : jy.f a lo hi = some (jo.inB a lo hi) := by
 unfold jy.f jo.inB
 by_cases h:lo≤a
 ·rw [if_pos h];simp [h]
 ·rw [if_neg h];simp [h]
theorem spec_opens_eq (a : Int) : jFc.f a = some (jo.inB a 7 12) := by
 unfold jFc.f
 rw [jXb];rfl
theorem spec_follows_eq (a : Int) : jkb.f a = some (jo.inB a 8 10) := by
 unfold jkb.f
 rw [jXb];rfl
def jo.off (p : List S51) (i : Int) (x : S51) : Bool :=
 if (if i=0 then decide (x.f0≠0) else if (wrap64 ((jd p (i - 1)).f0+1))<x.f0 then true else (jo.inB (jd p (i - 1)).f1 7 12 != (x.f0 == wrap64 ((jd p (i - 1)).f0+1)))) then true
 else decide (i+1=(p.length:Int)) && jo.inB x.f1 7 12
def jo.f (k : Nat) (l0_0 : List S75) (l1 : List S51) (a2 : Int) : Option Bool :=
 if 0≤a2 then if a2<(l1.length:Int) then
  (jma.f k l0_0 (jd l1 a2).f0 (jd l1 a2).f1 (jd l1 a2).f2 (jd l1 a2).f3).bind fun v =>
  if v=false then some false else if jo.inB (jd l1 a2).f0 0 5=false then some false else
  if jo.off l1 a2 (jd l1 a2) then some false else
  (if (jd l1 a2).f1=7 then jC.f k l1 a2 else some true).bind fun c1=>if c1=false then some false else
  (if (jd l1 a2).f1=5∨(jd l1 a2).f1=6 then jRa.f k l1 a2 else some true).bind fun c2=>if c2=false then some false else
  if jo.inB (jd l1 a2).f1 8 10=false then some true else
  (jVa.f k l1 a2).bind fun h=>if 0≤h then if h<(l1.length:Int) then some ((jd l1 h).f1 == 7 || jo.inB (jd l1 h).f1 8 10) else none else some false
 else none else none
def VX (W : World) (BX : Nat) (x : S51) : Prop := W.heap[BX]? = some (.cells #[.int .i64 x.f0, .int .i64 x.f1, .int .i64 x.f2, .int .i64 x.f3] 51 (0, 0))
theorem VX.below {W W' : World} {BX : Nat} {x : S51} (h : VX W BX x) (hb : Below W.heap.size W W') : VX W' BX x := (hb.block _ (jza h)).trans h
theorem VX.cells {W : World} {BX : Nat} {x : S51} (h : VX W BX x) : W.cell? ⟨BX, 0, none⟩ = some (.int .i64 x.f0) ∧ W.cell? ⟨BX, 1, none⟩ = some (.int .i64 x.f1) ∧ W.cell? ⟨BX, 2, none⟩ = some (.int .i64 x.f2) ∧ W.cell? ⟨BX, 3, none⟩ = some (.int .i64 x.f3) :=
 ⟨(jr h 0).trans rfl,(jr h 1).trans rfl,(jr h 2).trans rfl,(jr h 3).trans rfl⟩
set_option maxHeartbeats 8000000 in
set_option maxRecDepth 100000 in
theorem jo.calls (k : Nat) (A0_0 : Option Addr) (c0_0 : Nat) (l0_0 : List S75) (A1 : Option Addr) (c1 : Nat) (l1 : List S51) (a2 : Int) (r : Bool) (w : World) (hr0_0 : Kd.C k75 w A0_0 l0_0.length l0_0) (hc0_0 : l0_0.length ≤ c0_0) (hr1 : Kd.C k51 w A1 l1.length l1) (hc1 : l1.length ≤ c1) (h : jo.f k l0_0 l1 a2 = some r) :
  Calls Try.prog 57 #[.agg #[.slice A0_0 l0_0.length c0_0], .slice A1 l1.length c1, .int .i64 a2] w fun e w'=>e=.returned (.bool r)∧Below w.heap.size w w':=by
 have hu35:=Try.underlying35
 have hu51:=Try.underlying51
 have hm:l1.length≤9223372036854775807:=Kd.C_max hr1
 unfold jo.f at h
 by_cases h0:0≤a2
 ·rw [if_pos h0] at h
  by_cases h1:a2<(l1.length:Int)
  ·rw [if_pos h1] at h
   obtain ⟨v,hv,h⟩:=bzS h
   have HN:=am (fun W (hb:Below w.heap.size w W)=>jma.calls k A0_0 c0_0 l0_0 _ _ _ _ v W (Kd.jF hr0_0 hb) hc0_0 hv)
   clear hv
   obtain ⟨ad,rfl,hx0,hx1,hx2,hx3⟩:=jAa hr1 a2 h0 h1
   have HR1:=am hr1
   clear hr0_0 hr1
   generalize hgx:jd l1 a2=x at h HN hx0 hx1 hx2 hx3
   clear hgx
   have X1:=am (show VX ((w.alloc (.cells #[.slice A0_0 l0_0.length c0_0] 35)).alloc (.cells #[.int .i64 x.f0, .int .i64 x.f1, .int .i64 x.f2, .int .i64 x.f3] 51)) (w.heap.size+1) x by have:=heap_alloc_new (w.alloc (.cells #[.slice A0_0 l0_0.length c0_0] 35)) (.cells #[.int .i64 x.f0, .int .i64 x.f1, .int .i64 x.f2, .int .i64 x.f3] 51);simpa [VX] using this)
   have HB1:=am (((Below.refl w.heap.size w).alloc (Nat.le_refl _) (.cells #[.slice A0_0 l0_0.length c0_0] 35)).alloc (by simp) (.cells #[.int .i64 x.f0, .int .i64 x.f1, .int .i64 x.f2, .int .i64 x.f3] 51))
   have hbt:=(Below.refl w.heap.size w).alloc (Nat.le_refl _) (.cells #[.slice A0_0 l0_0.length c0_0] 35)
   replace hx0:=jha hbt hx0
   replace hx1:=jha hbt hx1
   replace hx2:=jha hbt hx2
   replace hx3:=jha hbt hx3
   clear hbt
   have p0:=ezT h0
   have p1:=ezT h1
   cases v with
   | false =>
    obtain rfl:false=r:=by simpa using h
    clear h
    go_enter Try.func57,Try.ntmps57
    go_wp2_with (first |(go_at_call 68;refine (HN.out _ HB1.out).mono ?_;rintro e w2 ⟨rfl,hb2⟩;have X2:=am (VX.below X1.out hb2);have HB2:=am (jU HB1.out HB1.out.size hb2);clear hb2;obtain ⟨e0,e1,e2,e3⟩:=VX.cells X2.out))
    go_ret
    exact ⟨rfl,HB2.out⟩
   | true =>
    simp only [Bool.true_eq_false,if_false] at h
    cases h5:jo.inB x.f0 0 5 with
    | false =>
     have H5:=am h5
     rw [h5,if_pos rfl] at h
     obtain rfl:false=r:=by simpa using h
     clear h h5
     go_enter Try.func57,Try.ntmps57
     go_wp2_with (first |(go_at_call 68;refine (HN.out _ HB1.out).mono ?_;rintro e w2 ⟨rfl,hb2⟩;have X2:=am (VX.below X1.out hb2);have HB2:=am (jU HB1.out HB1.out.size hb2);clear hb2;obtain ⟨e0,e1,e2,e3⟩:=VX.cells X2.out) |(go_at_call 55;refine (jy.calls _ _ _ _ _ (jXb _ _ _)).mono ?_;rintro e w3 ⟨rfl,hd3⟩;have hb3:=hd3.below;clear hd3;have X3:=am (VX.below X2.out hb3);have HB3:=am (jU HB2.out HB2.out.size hb3);clear hb3 e0 e1 e2 e3;obtain ⟨e0,e1,e2,e3⟩:=VX.cells X3.out;rw [H5.out]))
     go_ret
     exact ⟨rfl,HB3.out⟩
    | true =>
     have H5:=am h5
     rw [h5] at h
     simp only [Bool.true_eq_false,if_false] at h
     clear h5
     have HH:=am h
     clear h
     go_enter Try.func57,Try.ntmps57
     go_upto_region 4 with (first |(go_at_call 68;refine (HN.out _ HB1.out).mono ?_;rintro e w2 ⟨rfl,hb2⟩;have X2:=am (VX.below X1.out hb2);have HB2:=am (jU HB1.out HB1.out.size hb2);clear hb2;obtain ⟨e0,e1,e2,e3⟩:=VX.cells X2.out) |(go_at_call 55;refine (jy.calls _ _ _ _ _ (jXb _ _ _)).mono ?_;rintro e w3 ⟨rfl,hd3⟩;have hb3:=hd3.below;clear hd3;have X3:=am (VX.below X2.out hb3);have HB3:=am (jU HB2.out HB2.out.size hb3);clear hb3 e0 e1 e2 e3;obtain ⟨e0,e1,e2,e3⟩:=VX.cells X3.out;rw [H5.out]))
     go_cut [77] (fun v77 wc=>v77=.bool (jo.off l1 a2 x)∧jq (VX wc (w.heap.size+1) x)∧jq (Below w.heap.size w wc))
     case first =>
      clear HH
      have HO:=am (fun (a:Int) (b:Bool) (hb:jo.inB a 7 12=b) W=>(jFc.calls a b W (by rw [spec_opens_eq,hb])).mono fun e w' h=>(⟨h.1,h.2.out⟩:e=.returned (.bool b)∧∃ m,w'=W.drewN m))
      have hw2:IntKind.i64.wrap (a2+1)=a2+1:=IntWalk.i64_in _ (by omega)
      by_cases z0:a2=0
      ·have b0:(a2 == 0)=true:=beq_iff_eq.2 z0
       have b0':decide (0<a2)=false:=dzF (by omega)
       by_cases zx:x.f0=0
       ·have b1:(x.f0 != 0)=false:=by simpa using zx
        have HE:=am (by unfold jo.off;rw [if_pos z0];simp [zx]:jo.off l1 a2 x=(decide (a2+1=(l1.length:Int)) && jo.inB x.f1 7 12))
        clear z0
        clear zx
        by_cases zl:a2+1=(l1.length:Int)
        ·have b3:(a2+1 == (l1.length:Int))=true:=by rw [beq_iff_eq];omega
         cases hx:jo.inB x.f1 7 12 with
         | true =>
          have HX:=am hx
          have HF:=am (by rw [HE.out,hx,dzT zl];rfl:jo.off l1 a2 x=true)
          clear zl hx HE
          go_big_quiet ((go_at_call 69;exact Calls.quiet_of (HO.out x.f1 _ HX.out _)))
          go_wp2
          go_meet
          case rel=>exact ⟨by rw [HF.out],X3,⟨jf HB3.out _⟩⟩
         | false =>
          have HX:=am hx
          have HF:=am (by rw [HE.out,hx];simp:jo.off l1 a2 x=false)
          clear zl hx HE
          go_big_quiet ((go_at_call 69;exact Calls.quiet_of (HO.out x.f1 _ HX.out _)))
          go_wp2
          go_meet
          case rel=>exact ⟨by rw [HF.out],X3,⟨jf HB3.out _⟩⟩
        ·have b3:(a2+1 == (l1.length:Int))=false:=by rw [beq_eq_false_iff_ne];omega
         have HF:=am (by rw [HE.out,dzF zl];rfl:jo.off l1 a2 x=false)
         clear zl HE
         go_big_quiet (fail)
         go_wp2
         go_meet
         case rel=>exact ⟨by rw [HF.out],X3,⟨jf HB3.out _⟩⟩
       ·have b1:(x.f0 != 0)=true:=by simpa using zx
        have HF:=am (by unfold jo.off;rw [if_pos z0];simp [zx]:jo.off l1 a2 x=true)
        clear zx z0
        go_big_quiet (fail)
        go_wp2
        go_meet
        case rel=>exact ⟨by rw [HF.out],X3,⟨jf HB3.out _⟩⟩
      ·have b0:(a2 == 0)=false:=beq_eq_false_iff_ne.2 z0
       have b0':decide (0<a2)=true:=dzT (by omega)
       have q0:0≤a2 - 1:=by omega
       have q1:a2 - 1<(l1.length:Int):=by omega
       obtain ⟨j,hj⟩:∃ j,a2 - 1=j:=⟨_,rfl⟩
       rw [hj] at q0 q1
       obtain ⟨ad',he,y0,y1,y2,y3⟩:=jAa HR1.out j q0 q1
       cases he
       replace y0:=jha HB3.out y0
       replace y1:=jha HB3.out y1
       clear y2 y3
       replace q0:=ezT q0
       replace q1:=ezT q1
       have HD:=am (by unfold jo.off;rw [if_neg z0]:jo.off l1 a2 x=if (if (wrap64 ((jd l1 (a2 - 1)).f0+1))<x.f0 then true else (jo.inB (jd l1 (a2 - 1)).f1 7 12 != (x.f0 == wrap64 ((jd l1 (a2 - 1)).f0+1)))) then true else decide (a2+1=(l1.length:Int)) && jo.inB x.f1 7 12)
       clear z0
       rw [hj] at HD
       generalize jd l1 j=y at HD y0 y1
       generalize hz:wrap64 (y.f0+1)=z at HD
       have HZ:=am hz
       by_cases zt:z<x.f0
       ·have b4:decide (z<x.f0)=true:=dzT zt
        have HF:=am (by rw [HD.out];simp [zt]:jo.off l1 a2 x=true)
        clear zt HD
        go_big_quiet (fail)
        go_wp2
        go_meet
        case rel=>exact ⟨by rw [HF.out],X3,⟨jf HB3.out _⟩⟩
       ·have b4:decide (z<x.f0)=false:=dzF zt
        cases hy:jo.inB y.f1 7 12 with
        | true =>
         have HY:=am hy
         by_cases ze:x.f0=z
         ·have b5:(x.f0 == z)=true:=beq_iff_eq.2 ze
          have HE:=am (by rw [HD.out,hy,b5];simp [zt]:jo.off l1 a2 x=(decide (a2+1=(l1.length:Int)) && jo.inB x.f1 7 12))
          clear zt HD hy ze
          by_cases zl:a2+1=(l1.length:Int)
          ·have b3:(a2+1 == (l1.length:Int))=true:=by rw [beq_iff_eq];omega
           cases hx:jo.inB x.f1 7 12 with
           | true =>
            have HX:=am hx
            have HF:=am (by rw [HE.out,hx,dzT zl];rfl:jo.off l1 a2 x=true)
            clear zl hx HE
            go_big_quiet (first |(go_at_call 69;exact Calls.quiet_of (HO.out y.f1 _ HY.out _)) |(go_at_call 69;exact Calls.quiet_of (HO.out x.f1 _ HX.out _)))
            go_wp2
            go_meet
            case rel=>exact ⟨by rw [HF.out],X3,⟨jf HB3.out _⟩⟩
           | false =>
            have HX:=am hx
            have HF:=am (by rw [HE.out,hx];simp:jo.off l1 a2 x=false)
            clear zl hx HE
            go_big_quiet (first |(go_at_call 69;exact Calls.quiet_of (HO.out y.f1 _ HY.out _)) |(go_at_call 69;exact Calls.quiet_of (HO.out x.f1 _ HX.out _)))
            go_wp2
            go_meet
            case rel=>exact ⟨by rw [HF.out],X3,⟨jf HB3.out _⟩⟩
          ·have b3:(a2+1 == (l1.length:Int))=false:=by rw [beq_eq_false_iff_ne];omega
           have HF:=am (by rw [HE.out,dzF zl];rfl:jo.off l1 a2 x=false)
           clear zl HE
           go_big_quiet ((go_at_call 69;exact Calls.quiet_of (HO.out y.f1 _ HY.out _)))
           go_wp2
           go_meet
           case rel=>exact ⟨by rw [HF.out],X3,⟨jf HB3.out _⟩⟩
         ·have b5:(x.f0 == z)=false:=beq_eq_false_iff_ne.2 ze
          have HF:=am (by rw [HD.out,hy,b5];simp:jo.off l1 a2 x=true)
          clear zt HD hy ze
          go_big_quiet ((go_at_call 69;exact Calls.quiet_of (HO.out y.f1 _ HY.out _)))
          go_wp2
          go_meet
          case rel=>exact ⟨by rw [HF.out],X3,⟨jf HB3.out _⟩⟩
        | false =>
         have HY:=am hy
         by_cases ze:x.f0=z
         ·have b5:(x.f0 == z)=true:=beq_iff_eq.2 ze
          have HF:=am (by rw [HD.out,hy,b5];simp:jo.off l1 a2 x=true)
          clear zt HD hy ze
          go_big_quiet ((go_at_call 69;exact Calls.quiet_of (HO.out y.f1 _ HY.out _)))
          go_wp2
          go_meet
          case rel=>exact ⟨by rw [HF.out],X3,⟨jf HB3.out _⟩⟩
         ·have b5:(x.f0 == z)=false:=beq_eq_false_iff_ne.2 ze
          have HE:=am (by rw [HD.out,hy,b5];simp [zt]:jo.off l1 a2 x=(decide (a2+1=(l1.length:Int)) && jo.inB x.f1 7 12))
          clear zt HD hy ze
          by_cases zl:a2+1=(l1.length:Int)
          ·have b3:(a2+1 == (l1.length:Int))=true:=by rw [beq_iff_eq];omega
           cases hx:jo.inB x.f1 7 12 with
           | true =>
            have HX:=am hx
            have HF:=am (by rw [HE.out,hx,dzT zl];rfl:jo.off l1 a2 x=true)
            clear zl hx HE
            go_big_quiet (first |(go_at_call 69;exact Calls.quiet_of (HO.out y.f1 _ HY.out _)) |(go_at_call 69;exact Calls.quiet_of (HO.out x.f1 _ HX.out _)))
            go_wp2
            go_meet
            case rel=>exact ⟨by rw [HF.out],X3,⟨jf HB3.out _⟩⟩
           | false =>
            have HX:=am hx
            have HF:=am (by rw [HE.out,hx];simp:jo.off l1 a2 x=false)
            clear zl hx HE
            go_big_quiet (first |(go_at_call 69;exact Calls.quiet_of (HO.out y.f1 _ HY.out _)) |(go_at_call 69;exact Calls.quiet_of (HO.out x.f1 _ HX.out _)))
            go_wp2
            go_meet
            case rel=>exact ⟨by rw [HF.out],X3,⟨jf HB3.out _⟩⟩
          ·have b3:(a2+1 == (l1.length:Int))=false:=by rw [beq_eq_false_iff_ne];omega
           have HF:=am (by rw [HE.out,dzF zl];rfl:jo.off l1 a2 x=false)
           clear zl HE
           go_big_quiet ((go_at_call 69;exact Calls.quiet_of (HO.out y.f1 _ HY.out _)))
           go_wp2
           go_meet
           case rel=>exact ⟨by rw [HF.out],X3,⟨jf HB3.out _⟩⟩
     case rest =>
      obtain ⟨rfl,X4,HB4⟩:=hcut
      clear X1 HB1
      have h:=HH.out
      clear HH
      obtain ⟨e0,e1,e2,e3⟩:=VX.cells X4.out
      have tok:True:=trivial
      have HO:=am (fun (a:Int) (b:Bool) (hb:jo.inB a 8 10=b) W=>jkb.calls a b W (by rw [spec_follows_eq,hb]))
      cases ho:jo.off l1 a2 x with
      | true =>
       rw [ho,if_pos rfl] at h
       obtain rfl:false=r:=by simpa using h
       clear h ho
       go_wp2
       go_ret
       exact ⟨rfl,HB4.out⟩
      | false =>
       rw [ho] at h
       simp only [Bool.false_eq_true,if_false] at h
       clear ho
       obtain ⟨c,hc,h⟩:=bzS h
       by_cases z7:x.f1=7
       ·rw [if_pos z7] at hc
        have HC:=am (fun W (hb:Below w.heap.size w W)=>jC.calls k _ c1 l1 a2 c W (Kd.jF HR1.out hb) hc1 hc)
        have b7:(x.f1 == 7)=true:=beq_iff_eq.2 z7
        have b5:(x.f1 == 5)=false:=beq_eq_false_iff_ne.2 (by omega)
        have b6:(x.f1 == 6)=false:=beq_eq_false_iff_ne.2 (by omega)
        cases c with
        | false =>
         obtain rfl:false=r:=by simpa using h
         clear h hc z7
         go_wp2_with (first |(go_at_call 70;refine (HC.out _ HB4.out).mono ?_;rintro e w5 ⟨rfl,hb5⟩;have X5:=am (VX.below X4.out hb5);have HB5:=am (jU HB4.out HB4.out.size hb5);clear hb5 e0 e1 e2 e3;obtain ⟨e0,e1,e2,e3⟩:=VX.cells X5.out))
         go_ret
         exact ⟨rfl,HB5.out⟩
        | true =>
         have hx:jo.inB x.f1 8 10=false:=by unfold jo.inB;rw [z7];rfl
         have HX:=am hx
         obtain rfl:true=r:=by simpa [z7,show jo.inB 7 8 10=false from rfl] using h
         clear h hc z7 hx
         go_wp2_with (first |(go_at_call 70;refine (HC.out _ HB4.out).mono ?_;rintro e w5 ⟨rfl,hb5⟩;have X5:=am (VX.below X4.out hb5);have HB5:=am (jU HB4.out HB4.out.size hb5);clear hb5 e0 e1 e2 e3;obtain ⟨e0,e1,e2,e3⟩:=VX.cells X5.out) |(go_at_call 72;have tk:=tok;clear tok;refine (HO.out x.f1 _ HX.out _).mono ?_;rintro e w6 ⟨rfl,hd6⟩;have hb6:=hd6.below;clear hd6;have X6:=am (VX.below X5.out hb6);have HB6:=am (jU HB5.out HB5.out.size hb6);clear hb6 e0 e1 e2 e3;obtain ⟨e0,e1,e2,e3⟩:=VX.cells X6.out))
         go_ret
         exact ⟨rfl,HB6.out⟩
       ·rw [if_neg z7] at hc
        obtain rfl:true=c:=by simpa using hc
        clear hc
        have b7:(x.f1 == 7)=false:=beq_eq_false_iff_ne.2 z7
        simp only [Bool.true_eq_false,if_false] at h
        obtain ⟨c,hc,h⟩:=bzS h
        by_cases z56:x.f1=5∨x.f1=6
        ·rw [if_pos z56] at hc
         have HC:=am (fun W (hb:Below w.heap.size w W)=>jRa.calls k _ c1 l1 a2 c W (Kd.jF HR1.out hb) hc1 hc)
         have hx:jo.inB x.f1 8 10=false:=by rcases z56 with z | z <;> (unfold jo.inB;rw [z];rfl)
         have HX:=am hx
         cases c with
         | false =>
          obtain rfl:false=r:=by simpa using h
          clear h hc hx
          rcases z56 with z | z
          ·have b5:(x.f1 == 5)=true:=beq_iff_eq.2 z
           clear z z7
           go_wp2_with (first |(go_at_call 71;refine (HC.out _ HB4.out).mono ?_;rintro e w5 ⟨rfl,hd5⟩;have hb5:=hd5.below;clear hd5;have X5:=am (VX.below X4.out hb5);have HB5:=am (jU HB4.out HB4.out.size hb5);clear hb5 e0 e1 e2 e3;obtain ⟨e0,e1,e2,e3⟩:=VX.cells X5.out))
           go_ret
           exact ⟨rfl,HB5.out⟩
          ·have b5:(x.f1 == 5)=false:=beq_eq_false_iff_ne.2 (by omega)
           have b6:(x.f1 == 6)=true:=beq_iff_eq.2 z
           clear z z7
           go_wp2_with (first |(go_at_call 71;refine (HC.out _ HB4.out).mono ?_;rintro e w5 ⟨rfl,hd5⟩;have hb5:=hd5.below;clear hd5;have X5:=am (VX.below X4.out hb5);have HB5:=am (jU HB4.out HB4.out.size hb5);clear hb5 e0 e1 e2 e3;obtain ⟨e0,e1,e2,e3⟩:=VX.cells X5.out))
           go_ret
           exact ⟨rfl,HB5.out⟩
         | true =>
          obtain rfl:true=r:=by simpa [hx] using h
          clear h hc hx
          rcases z56 with z | z
          ·have b5:(x.f1 == 5)=true:=beq_iff_eq.2 z
           clear z z7
           go_wp2_with (first |(go_at_call 71;refine (HC.out _ HB4.out).mono ?_;rintro e w5 ⟨rfl,hd5⟩;have hb5:=hd5.below;clear hd5;have X5:=am (VX.below X4.out hb5);have HB5:=am (jU HB4.out HB4.out.size hb5);clear hb5 e0 e1 e2 e3;obtain ⟨e0,e1,e2,e3⟩:=VX.cells X5.out) |(go_at_call 72;have tk:=tok;clear tok;refine (HO.out x.f1 _ HX.out _).mono ?_;rintro e w6 ⟨rfl,hd6⟩;have hb6:=hd6.below;clear hd6;have X6:=am (VX.below X5.out hb6);have HB6:=am (jU HB5.out HB5.out.size hb6);clear hb6 e0 e1 e2 e3;obtain ⟨e0,e1,e2,e3⟩:=VX.cells X6.out))
           go_ret
           exact ⟨rfl,HB6.out⟩
          ·have b5:(x.f1 == 5)=false:=beq_eq_false_iff_ne.2 (by omega)
           have b6:(x.f1 == 6)=true:=beq_iff_eq.2 z
           clear z z7
           go_wp2_with (first |(go_at_call 71;refine (HC.out _ HB4.out).mono ?_;rintro e w5 ⟨rfl,hd5⟩;have hb5:=hd5.below;clear hd5;have X5:=am (VX.below X4.out hb5);have HB5:=am (jU HB4.out HB4.out.size hb5);clear hb5 e0 e1 e2 e3;obtain ⟨e0,e1,e2,e3⟩:=VX.cells X5.out) |(go_at_call 72;have tk:=tok;clear tok;refine (HO.out x.f1 _ HX.out _).mono ?_;rintro e w6 ⟨rfl,hd6⟩;have hb6:=hd6.below;clear hd6;have X6:=am (VX.below X5.out hb6);have HB6:=am (jU HB5.out HB5.out.size hb6);clear hb6 e0 e1 e2 e3;obtain ⟨e0,e1,e2,e3⟩:=VX.cells X6.out))
           go_ret
           exact ⟨rfl,HB6.out⟩
        ·rw [if_neg z56] at hc
         obtain rfl:true=c:=by simpa using hc
         clear hc
         have b5:(x.f1 == 5)=false:=beq_eq_false_iff_ne.2 (fun z=>z56 (.inl z))
         have b6:(x.f1 == 6)=false:=beq_eq_false_iff_ne.2 (fun z=>z56 (.inr z))
         simp only [Bool.true_eq_false,if_false] at h
         clear z7 z56
         cases hx:jo.inB x.f1 8 10 with
         | false =>
          have HX:=am hx
          rw [hx,if_pos rfl] at h
          obtain rfl:true=r:=by simpa using h
          clear h hx
          go_wp2_with (first |(go_at_call 72;have tk:=tok;clear tok;refine (HO.out x.f1 _ HX.out _).mono ?_;rintro e w6 ⟨rfl,hd6⟩;have hb6:=hd6.below;clear hd6;have X6:=am (VX.below X4.out hb6);have HB6:=am (jU HB4.out HB4.out.size hb6);clear hb6 e0 e1 e2 e3;obtain ⟨e0,e1,e2,e3⟩:=VX.cells X6.out))
          go_ret
          exact ⟨rfl,HB6.out⟩
         | true =>
          have HX:=am hx
          rw [hx] at h
          simp only [Bool.true_eq_false,if_false] at h
          clear hx
          obtain ⟨q,hq,h⟩:=bzS h
          have HQ:=am (fun W (hb:Below w.heap.size w W)=>jVa.calls k _ c1 l1 a2 q W (Kd.jF HR1.out hb) hc1 hq)
          clear hq
          by_cases q0:0≤q
          ·rw [if_pos q0] at h
           have q0b:=dzT q0
           by_cases q1:q<(l1.length:Int)
           ·rw [if_pos q1] at h
            obtain ⟨ad',he,y0,y1,y2,y3⟩:=jAa HR1.out q q0 q1
            cases he
            generalize jd l1 q=y at h y0 y1
            have HK:=am y1
            clear y0 y1 y2 y3
            have q0:=ezT q0
            have q1:=ezT q1
            by_cases zy:y.f1=7
            ·have by7:(y.f1 == 7)=true:=beq_iff_eq.2 zy
             obtain rfl:true=r:=by simpa [zy] using h
             clear h zy
             go_wp2_with (first |(go_at_call 72;have tk:=tok;clear tok;refine (HO.out x.f1 _ HX.out _).mono ?_;rintro e w6 ⟨rfl,hd6⟩;have hb6:=hd6.below;clear hd6;have X6:=am (VX.below X4.out hb6);have HB6:=am (jU HB4.out HB4.out.size hb6);clear hb6 e0 e1 e2 e3;obtain ⟨e0,e1,e2,e3⟩:=VX.cells X6.out) |(go_at_call 73;refine (HQ.out _ HB6.out).mono ?_;rintro e w7 ⟨rfl,hd7⟩;have hb7:=hd7.below;clear hd7;have X7:=am (VX.below X6.out hb7);have HB7:=am (jU HB6.out HB6.out.size hb7);clear hb7 e0 e1 e2 e3;obtain ⟨e0,e1,e2,e3⟩:=VX.cells X7.out;have y1:=jha HB7.out HK.out))
             go_ret
             exact ⟨rfl,HB7.out⟩
            ·have by7:(y.f1 == 7)=false:=beq_eq_false_iff_ne.2 zy
             cases hy:jo.inB y.f1 8 10 with
             | true =>
              have HY:=am hy
              obtain rfl:true=r:=by rw [hy,by7] at h;simpa using h
              clear h hy zy
              go_wp2_with (first |(go_at_call 72;have tk:=tok;clear tok;refine (HO.out x.f1 _ HX.out _).mono ?_;rintro e w6 ⟨rfl,hd6⟩;have hb6:=hd6.below;clear hd6;have X6:=am (VX.below X4.out hb6);have HB6:=am (jU HB4.out HB4.out.size hb6);clear hb6 e0 e1 e2 e3;obtain ⟨e0,e1,e2,e3⟩:=VX.cells X6.out) |(go_at_call 73;refine (HQ.out _ HB6.out).mono ?_;rintro e w7 ⟨rfl,hd7⟩;have hb7:=hd7.below;clear hd7;have X7:=am (VX.below X6.out hb7);have HB7:=am (jU HB6.out HB6.out.size hb7);clear hb7 e0 e1 e2 e3;obtain ⟨e0,e1,e2,e3⟩:=VX.cells X7.out;have y1:=jha HB7.out HK.out) |(go_at_call 72;refine (HO.out y.f1 _ HY.out _).mono ?_;rintro e w8 ⟨rfl,hd8⟩;have hb8:=hd8.below;clear hd8;have X8:=am (VX.below X7.out hb8);have HB8:=am (jU HB7.out HB7.out.size hb8);clear hb8 e0 e1 e2 e3;obtain ⟨e0,e1,e2,e3⟩:=VX.cells X8.out))
              go_ret
              exact ⟨rfl,HB8.out⟩
             | false =>
              have HY:=am hy
              obtain rfl:false=r:=by rw [hy,by7] at h;simpa using h
              clear h hy zy
              go_wp2_with (first |(go_at_call 72;have tk:=tok;clear tok;refine (HO.out x.f1 _ HX.out _).mono ?_;rintro e w6 ⟨rfl,hd6⟩;have hb6:=hd6.below;clear hd6;have X6:=am (VX.below X4.out hb6);have HB6:=am (jU HB4.out HB4.out.size hb6);clear hb6 e0 e1 e2 e3;obtain ⟨e0,e1,e2,e3⟩:=VX.cells X6.out) |(go_at_call 73;refine (HQ.out _ HB6.out).mono ?_;rintro e w7 ⟨rfl,hd7⟩;have hb7:=hd7.below;clear hd7;have X7:=am (VX.below X6.out hb7);have HB7:=am (jU HB6.out HB6.out.size hb7);clear hb7 e0 e1 e2 e3;obtain ⟨e0,e1,e2,e3⟩:=VX.cells X7.out;have y1:=jha HB7.out HK.out) |(go_at_call 72;refine (HO.out y.f1 _ HY.out _).mono ?_;rintro e w8 ⟨rfl,hd8⟩;have hb8:=hd8.below;clear hd8;have X8:=am (VX.below X7.out hb8);have HB8:=am (jU HB7.out HB7.out.size hb8);clear hb8 e0 e1 e2 e3;obtain ⟨e0,e1,e2,e3⟩:=VX.cells X8.out))
              go_ret
              exact ⟨rfl,HB8.out⟩
           ·rw [if_neg q1] at h
            cases h
          ·rw [if_neg q0] at h
           have q0b:=dzF q0
           obtain rfl:false=r:=by simpa using h
           clear h q0
           go_wp2_with (first |(go_at_call 72;have tk:=tok;clear tok;refine (HO.out x.f1 _ HX.out _).mono ?_;rintro e w6 ⟨rfl,hd6⟩;have hb6:=hd6.below;clear hd6;have X6:=am (VX.below X4.out hb6);have HB6:=am (jU HB4.out HB4.out.size hb6);clear hb6 e0 e1 e2 e3;obtain ⟨e0,e1,e2,e3⟩:=VX.cells X6.out) |(go_at_call 73;refine (HQ.out _ HB6.out).mono ?_;rintro e w7 ⟨rfl,hd7⟩;have hb7:=hd7.below;clear hd7;have X7:=am (VX.below X6.out hb7);have HB7:=am (jU HB6.out HB6.out.size hb7);clear hb7 e0 e1 e2 e3;obtain ⟨e0,e1,e2,e3⟩:=VX.cells X7.out))
           go_ret
           exact ⟨rfl,HB7.out⟩
  ·rw [if_neg h1] at h
   cases h
 ·rw [if_neg h0] at h
  cases h
def jO.l0 : Nat → List (S51) → Int → List (S75) → Option (Bool)
 | 0,_,_,_=>none
 | k+1,x1,x5,x231000=>if x5<(x1.length:Int) then ((jo.f k x231000 x1 x5).bind fun t232=>(if t232=true then (jO.l0 k x1 (wrap64 (x5+1)) x231000) else (some false))) else ((jG.f k x231000).bind fun t231=>(if t231=true then (some (decide ((x1.length:Int)≤24))) else (some false)))
def jO.f (k : Nat) (l0_0 : List (S75)) (l1 : List (S51)) : Option (Bool) := jO.l0 k l1 0 l0_0
set_option maxHeartbeats 8000000 in
set_option maxRecDepth 100000 in
theorem jO.calls (k : Nat) (A0_0 : Option Addr) (c0_0 : Nat) (l0_0 : List (S75)) (A1 : Option Addr) (c1 : Nat) (l1 : List (S51)) (r : Bool) (w : World) (hr0_0 : Kd.C k75 w A0_0 l0_0.length l0_0) (hc0_0 : l0_0.length ≤ c0_0) (hr1 : Kd.C k51 w A1 l1.length l1) (hc1 : l1.length ≤ c1) (h : jO.f k l0_0 l1 = some r) :
  Calls Try.prog 37 #[.agg #[.slice A0_0 l0_0.length c0_0], .slice A1 l1.length c1] w fun e w'=>e=.returned (.bool r)∧Below w.heap.size w w':=by
 have hu35:=Try.underlying35
 have HR0_0:=am hr0_0
 have HC0_0:=am hc0_0
 clear hr0_0 hc0_0
 have HR1:=am hr1
 have HC1:=am hc1
 clear hr1 hc1
 have HB:=am (Below.refl w.heap.size w)
 have H:(jO.l0 k l1 0 l0_0)=some r:=h
 clear h
 have H':=am H
 clear H
 go_enter Try.func37,Try.ntmps37
 go_wp2_with (first |((with_reducible refine jB (N:=2) rfl ?_);(try (refine gate_guard (by rfl) ?_;dsimp only));refine box_event ?hg (N:=2) ?hd (cs:=#[.slice A0_0 l0_0.length c0_0]) (t:=35) ?hr ?_;(case hd=>rfl);(case hg=>rfl);(case hr=>exact Y4);intro gb230 hg w3 hbox hb;have BK230:=am (hbox);have GW230:=am ((Y1:w.heap.size≤gb230));have GE230:=am ((Y1:w.heap.size≤gb230));replace HB:=am (jc (bq) hb);clear hb hbox hg))
 go_loopg [5] k (fun kq v5 w'=>∃ (x5_1:Int),v5=.int .i64 x5_1∧jq (jO.l0 kq l1 x5_1 l0_0=some r)∧jq (kq≤k)∧jq (w'.heap[gb230]?=some (.cells #[(.slice A0_0 l0_0.length c0_0)] 35 (0,0)))∧jq (Below w.heap.size w w'))
 case atStart=>exact ⟨(0),(sq),H',⟨Nat.le_refl _⟩,⟨kq BK230.out⟩,⟨Y19⟩⟩
 case round =>
  clear H'
  try clear c1
  try clear p2
  try clear c3
  obtain ⟨x5_1,rfl,HA,HK1,BK230,HB⟩:=hrel
  cases gk with
  | zero=>exact absurd HA.out (by simp [jO.l0])
  | succ k1 =>
   have H:=HA.out
   clear HA
   simp only [jO.l0] at H
   by_cases c4:x5_1<(l1.length:Int)
   ·rw [if_pos c4] at H
    have c4b0:decide (x5_1<(l1.length:Int))=true:=dzT c4
    clear c4
    replace H:=bzS H
    obtain ⟨t232,A50,H⟩:=H
    replace H:(if t232=true then (jO.l0 k1 l1 (wrap64 (x5_1+1)) l0_0) else (some false))=some r:=H
    have A5:=am A50
    clear A50
    by_cases c6:t232=true
    ·subst c6
     have H1:(jO.l0 k1 l1 (wrap64 (x5_1+1)) l0_0)=some r:=by rw [if_pos rfl] at H;exact H
     clear H
     have H:=H1
     clear H1
     have H':=am H
     clear H
     have hcz7_0:=bc0 BK230.out
     have hfz7_0:=ja BK230.out 0
     go_wp2_with (first |((with_reducible refine jg (f:=57) rfl ?_);refine gL (some 15) Try.func57 #[.agg #[.slice A0_0 l0_0.length c0_0], .slice A1 l1.length c1, .int .i64 x5_1] ?_;(with_reducible refine (jo.calls k1 _ _ l0_0 _ _ l1 x5_1 true _ ?side1 ?side2 ?side3 ?side4 A5.out).mono ?_);(case side1=>exact cq (Kd.jF HR0_0.out HB.out));(case side2=>exact HC0_0.out);(case side3=>exact cq (Kd.jF HR1.out HB.out));(case side4=>exact HC1.out);rintro e w8 ⟨rfl,hb⟩;refine ⟨_,rfl,?_⟩;replace BK230:=am (je (g:=gb230) (o:=.cells #[.slice A0_0 l0_0.length c0_0] 35 (0,0)) (kq BK230.out) hb);replace HB:=am (jc (Y19) hb);(try clear hb);(try clear hb2);(try clear hk);(try clear hi)))
     go_roundg k1
     case measure=>have:=HK1.out;omega
     case rel=>exact ⟨(wrap64 (x5_1+1)),(sq),H',⟨by have:=HK1.out;omega⟩,⟨kq BK230.out⟩,⟨Y19⟩⟩
    ·replace c6:=Bool.eq_false_iff.mpr c6
     subst c6
     have H1:(some false)=some r:=by rw [if_neg (show ¬ (false=true) by decide)] at H;exact H
     clear H
     have H:=H1
     clear H1
     obtain rfl:=Option.some.inj H
     have hcz9_0:=bc0 BK230.out
     have hfz9_0:=ja BK230.out 0
     go_wp2_with (first |((with_reducible refine jg (f:=57) rfl ?_);refine gL (some 15) Try.func57 #[.agg #[.slice A0_0 l0_0.length c0_0], .slice A1 l1.length c1, .int .i64 x5_1] ?_;(with_reducible refine (jo.calls k1 _ _ l0_0 _ _ l1 x5_1 false _ ?side1 ?side2 ?side3 ?side4 A5.out).mono ?_);(case side1=>exact cq (Kd.jF HR0_0.out HB.out));(case side2=>exact HC0_0.out);(case side3=>exact cq (Kd.jF HR1.out HB.out));(case side4=>exact HC1.out);rintro e w10 ⟨rfl,hb⟩;refine ⟨_,rfl,?_⟩;replace BK230:=am (je (g:=gb230) (o:=.cells #[.slice A0_0 l0_0.length c0_0] 35 (0,0)) (kq BK230.out) hb);replace HB:=am (jc (Y19) hb);(try clear hb);(try clear hb2);(try clear hk);(try clear hi)))
     go_ret
     exact ⟨Y0,Y19⟩
   ·rw [if_neg c4] at H
    have c4b0:decide (x5_1<(l1.length:Int))=false:=dzF c4
    clear c4
    replace H:=bzS H
    obtain ⟨t231,A110,H⟩:=H
    replace H:(if t231=true then (some (decide ((l1.length:Int)≤24))) else (some false))=some r:=H
    have A11:=am A110
    clear A110
    by_cases c12:t231=true
    ·subst c12
     have H1:(some (decide ((l1.length:Int)≤24)))=some r:=by rw [if_pos rfl] at H;exact H
     clear H
     have H:=H1
     clear H1
     obtain rfl:=Option.some.inj H
     have hcz13_0:=bc0 BK230.out
     have hfz13_0:=ja BK230.out 0
     go_wp2_with (first |((with_reducible refine jg (f:=53) rfl ?_);refine gL (some 18) Try.func53 #[.agg #[.slice A0_0 l0_0.length c0_0]] ?_;(with_reducible refine (jG.calls k1 _ _ l0_0 true _ ?side1 ?side2 A11.out).mono ?_);(case side1=>exact cq (Kd.jF HR0_0.out HB.out));(case side2=>exact HC0_0.out);rintro e w14 ⟨rfl,hb⟩;refine ⟨_,rfl,?_⟩;replace BK230:=am (je (g:=gb230) (o:=.cells #[.slice A0_0 l0_0.length c0_0] 35 (0,0)) (kq BK230.out) hb);replace HB:=am (jc (Y19) hb);(try clear hb);(try clear hb2);(try clear hk);(try clear hi)))
     go_ret
     exact ⟨Y0,Y19⟩
    ·replace c12:=Bool.eq_false_iff.mpr c12
     subst c12
     have H1:(some false)=some r:=by rw [if_neg (show ¬ (false=true) by decide)] at H;exact H
     clear H
     have H:=H1
     clear H1
     obtain rfl:=Option.some.inj H
     have hcz15_0:=bc0 BK230.out
     have hfz15_0:=ja BK230.out 0
     go_wp2_with (first |((with_reducible refine jg (f:=53) rfl ?_);refine gL (some 18) Try.func53 #[.agg #[.slice A0_0 l0_0.length c0_0]] ?_;(with_reducible refine (jG.calls k1 _ _ l0_0 false _ ?side1 ?side2 A11.out).mono ?_);(case side1=>exact cq (Kd.jF HR0_0.out HB.out));(case side2=>exact HC0_0.out);rintro e w16 ⟨rfl,hb⟩;refine ⟨_,rfl,?_⟩;replace BK230:=am (je (g:=gb230) (o:=.cells #[.slice A0_0 l0_0.length c0_0] 35 (0,0)) (kq BK230.out) hb);replace HB:=am (jc (Y19) hb);(try clear hb);(try clear hb2);(try clear hk);(try clear hi)))
     go_ret
     exact ⟨Y0,Y19⟩
def jeb.f (k : Nat) (l0_0 : List (S75)) (l1 : List (S51)) : Option ((List (S51)) × Bool) := (jO.f k l0_0 l1).bind fun t234 => (if t234 = true then (some (l1, true)) else (some (([] : List (S51)), false)))
set_option maxHeartbeats 8000000 in
set_option maxRecDepth 100000 in
theorem jeb.calls (k : Nat) (A0_0 : Option Addr) (c0_0 : Nat) (l0_0 : List (S75)) (P1_ : Nat → Prop) (u9000_ : Value) (l1 : List (S51)) (r1 : List (S51)) (r2 : Bool) (w0 w : World) (hB : Below w0.heap.size w0 w) (hr0_0 : ∀ W_, Kept w W_ (fun k_ => P1_ k_) → Kd.C k75 W_ A0_0 l0_0.length l0_0) (hc0_0 : l0_0.length ≤ c0_0) (ho1 : Kd.R k51 51 w w0.heap.size P1_ u9000_ l1) (h : jeb.f k l0_0 l1 = some (r1, r2)) :
  Calls Try.prog 21 #[.agg #[.slice A0_0 l0_0.length c0_0],u9000_] w fun e w'=>∃ v0_:Value,e=.returned (.tuple #[v0_, .bool r2])∧Kd.R k51 51 w' w0.heap.size (fun k_=>(P1_ k_∨w.heap.size≤k_)) v0_ r1∧Below w0.heap.size w0 w'∧Kept w w' (fun k_=>P1_ k_):=by
 have hu35:=Try.underlying35
 have HR0_0:=am hr0_0
 have HC0_0:=am hc0_0
 clear hr0_0 hc0_0
 have HO1:=am (show Kd.R k51 51 w w0.heap.size (fun k_=>(P1_ k_∨w.heap.size≤k_)) u9000_ l1 from Kd.jca ho1 (fun k_ hk=>(.inl hk)))
 have HK:=am (Kept.refl w (fun k_=>P1_ k_))
 have HW0:=am hB.size
 have HB:=am hB
 clear hB
 have H:((jO.f k l0_0 l1).bind fun t234=>(if t234=true then (some (l1,true)) else (some (([]:List (S51)),false))))=some (r1,r2):=h
 clear h
 replace H:=bzS H
 obtain ⟨t234,A30,H⟩:=H
 replace H:(if t234=true then (some (l1,true)) else (some (([]:List (S51)),false)))=some (r1,r2):=H
 have A3:=am A30
 clear A30
 by_cases c4:t234=true
 ·subst c4
  have H1:(some (l1,true))=some (r1,r2):=by rw [if_pos rfl] at H;exact H
  clear H
  have H:=H1
  clear H1
  simp only [Option.some.injEq,Prod.mk.injEq] at H
  obtain ⟨rfl,rfl⟩:=H
  go_enter Try.func21,Try.ntmps21
  go_wp2_with (first |((with_reducible refine jB (N:=2) rfl ?_);refine bE (N:=2) (cs:=#[.slice A0_0 l0_0.length c0_0]) (t:=35) ?_;intro gb233 hg w5 hbox hb;have BK233:=am (hbox);have GW233:=am ((Y43:w.heap.size≤gb233));have GE233:=am ((Y1:w0.heap.size≤gb233));replace HO1:=am (Kd.jH (rq HO1.out) hb);replace HK:=am (Kept.below (S:=(fun k_=>P1_ k_)) (Y7) hb);replace HB:=am (jc (bq) hb);clear hb hbox hg;have hcz6_0:=bc0 BK233.out;have hfz6_0:=ja BK233.out 0;obtain ⟨Ao7,co7,eo7⟩:=Kd.jga HO1.out;subst eo7) |((with_reducible refine jg (f:=37) rfl ?_);refine gL (some 8) Try.func37 #[.agg #[.slice A0_0 l0_0.length c0_0], .slice Ao7 l1.length co7] ?_;(with_reducible refine (jO.calls k _ _ l0_0 _ _ l1 true _ ?side1 ?side2 ?side3 ?side4 A3.out).mono ?_);(case side1=>exact Kd.C_kept_now HR0_0.out (Y24));(case side2=>exact HC0_0.out);(case side3=>exact cq (Kd.jw HO1.out).2.2);(case side4=>exact (Kd.jw HO1.out).2.1);rintro e w8 ⟨rfl,hb⟩;refine ⟨_,rfl,?_⟩;replace HO1:=am (Kd.jH (rq HO1.out) hb);replace BK233:=am (je (g:=gb233) (o:=.cells #[.slice A0_0 l0_0.length c0_0] 35 (0,0)) (kq BK233.out) hb);replace HK:=am (Kept.below (S:=(fun k_=>P1_ k_)) (Y24) hb);replace HB:=am (jc (Y44) hb);(try clear hb);(try clear hb2);(try clear hk);(try clear hi)))
  go_ret2
  exact ⟨_,Y0,rq HO1.out,Y44,Y24⟩
 ·replace c4:=Bool.eq_false_iff.mpr c4
  subst c4
  have H1:(some (([]:List (S51)),false))=some (r1,r2):=by rw [if_neg (show ¬ (false=true) by decide)] at H;exact H
  clear H
  have H:=H1
  clear H1
  simp only [Option.some.injEq,Prod.mk.injEq] at H
  obtain ⟨rfl,rfl⟩:=H
  go_enter Try.func21,Try.ntmps21
  go_wp2_with (first |((with_reducible refine jB (N:=2) rfl ?_);refine bE (N:=2) (cs:=#[.slice A0_0 l0_0.length c0_0]) (t:=35) ?_;intro gb233 hg w9 hbox hb;have BK233:=am (hbox);have GW233:=am ((Y43:w.heap.size≤gb233));have GE233:=am ((Y1:w0.heap.size≤gb233));replace HO1:=am (Kd.jH (rq HO1.out) hb);replace HK:=am (Kept.below (S:=(fun k_=>P1_ k_)) (Y7) hb);replace HB:=am (jc (bq) hb);clear hb hbox hg;have hcz10_0:=bc0 BK233.out;have hfz10_0:=ja BK233.out 0;obtain ⟨Ao11,co11,eo11⟩:=Kd.jga HO1.out;subst eo11) |((with_reducible refine jg (f:=37) rfl ?_);refine gL (some 8) Try.func37 #[.agg #[.slice A0_0 l0_0.length c0_0], .slice Ao11 l1.length co11] ?_;(with_reducible refine (jO.calls k _ _ l0_0 _ _ l1 false _ ?side1 ?side2 ?side3 ?side4 A3.out).mono ?_);(case side1=>exact Kd.C_kept_now HR0_0.out (Y24));(case side2=>exact HC0_0.out);(case side3=>exact cq (Kd.jw HO1.out).2.2);(case side4=>exact (Kd.jw HO1.out).2.1);rintro e w12 ⟨rfl,hb⟩;refine ⟨_,rfl,?_⟩;replace HO1:=am (Kd.jH (rq HO1.out) hb);replace BK233:=am (je (g:=gb233) (o:=.cells #[.slice A0_0 l0_0.length c0_0] 35 (0,0)) (kq BK233.out) hb);replace HK:=am (Kept.below (S:=(fun k_=>P1_ k_)) (Y24) hb);replace HB:=am (jc (Y44) hb);(try clear hb);(try clear hb2);(try clear hk);(try clear hi)))
  go_ret2
  exact ⟨_,Y0,Y57,Y44,Y24⟩
mutual
def jJ.j0 : Nat → List (S54) → List (S51) → List (S75) → Option ((List (S51)) × Bool)
 | 0,_,_,_=>none
 | k+1,x1,x8,x236000=>jJ.l0 k x1 x8 (wrap64 ((x1.length:Int) - 1)) x236000
def jJ.l0 : Nat → List (S54) → List (S51) → Int → List (S75) → Option ((List (S51)) × Bool)
 | 0,_,_,_,_=>none
 | k+1,x1,x8,x9,x236000=>if x9≥0 then (if 0≤x9 then (if x9<(x1.length:Int) then ((jDb.f k x8 ((jN x1 x9).f0) ((jN x1 x9).f1) ((jN x1 x9).f2)).bind fun t245=>(jJ.l0 k x1 t245 (wrap64 (x9 - 1)) x236000)) else (none)) else (none)) else ((jeb.f k x236000 x8).bind fun bt248=>(some (bt248.1,bt248.2)))
end
def jJ.f (k : Nat) (l0_0 : List (S75)) (l1 : List (S54)) (a2_0 : Bool) (a2_1 : Int) (a2_2 : Int) : Option ((List (S51)) × Bool) := (jtb.f k l0_0 l1 a2_0 a2_1 a2_2).bind fun t237 => (if t237 = true then (if a2_0 = true then (jJ.j0 k l1 (([(⟨0, 2, a2_1, a2_2⟩ : S51)] : List (S51))) l0_0) else (jJ.j0 k l1 (([(⟨0, 0, 0, 0⟩ : S51)] : List (S51))) l0_0)) else (some (([] : List (S51)), false)))
set_option maxHeartbeats 8000000 in
set_option maxRecDepth 100000 in
theorem jJ.calls (k : Nat) (A0_0 : Option Addr) (c0_0 : Nat) (l0_0 : List (S75)) (A1 : Option Addr) (c1 : Nat) (l1 : List (S54)) (a2_0 : Bool) (a2_1 : Int) (a2_2 : Int) (r1 : List (S51)) (r2 : Bool) (w : World) (hr0_0 : Kd.C k75 w A0_0 l0_0.length l0_0) (hc0_0 : l0_0.length ≤ c0_0) (hr1 : Kd.C k54 w A1 l1.length l1) (hc1 : l1.length ≤ c1) (h : jJ.f k l0_0 l1 a2_0 a2_1 a2_2 = some (r1, r2)) :
  Calls Try.prog 6 #[.agg #[.slice A0_0 l0_0.length c0_0], .slice A1 l1.length c1, .agg #[.bool a2_0, .int .i64 a2_1, .int .i64 a2_2]] w fun e w'=>∃ v0_:Value,e=.returned (.tuple #[v0_, .bool r2])∧Kd.R k51 51 w' w.heap.size (fun _=>True) v0_ r1∧Below w.heap.size w w':=by
 have hu35:=Try.underlying35
 have hu39:=Try.underlying39
 have hu51:=Try.underlying51
 have hu54:=Try.underlying54
 have HR0_0:=am hr0_0
 have HC0_0:=am hc0_0
 clear hr0_0 hc0_0
 have HR1:=am hr1
 have HC1:=am hc1
 clear hr1 hc1
 have HB:=am (Below.refl w.heap.size w)
 have H:((jtb.f k l0_0 l1 a2_0 a2_1 a2_2).bind fun t237=>(if t237=true then (if a2_0=true then (jJ.j0 k l1 (([(⟨0,2,a2_1,a2_2⟩:S51)]:List (S51))) l0_0) else (jJ.j0 k l1 (([(⟨0,0,0,0⟩:S51)]:List (S51))) l0_0)) else (some (([]:List (S51)),false))))=some (r1,r2):=h
 clear h
 replace H:=bzS H
 obtain ⟨t237,A40,H⟩:=H
 replace H:(if t237=true then (if a2_0=true then (jJ.j0 k l1 (([(⟨0,2,a2_1,a2_2⟩:S51)]:List (S51))) l0_0) else (jJ.j0 k l1 (([(⟨0,0,0,0⟩:S51)]:List (S51))) l0_0)) else (some (([]:List (S51)),false)))=some (r1,r2):=H
 have A4:=am A40
 clear A40
 by_cases c5:t237=true
 ·subst c5
  have H1:(if a2_0=true then (jJ.j0 k l1 (([(⟨0,2,a2_1,a2_2⟩:S51)]:List (S51))) l0_0) else (jJ.j0 k l1 (([(⟨0,0,0,0⟩:S51)]:List (S51))) l0_0))=some (r1,r2):=by rw [if_pos rfl] at H;exact H
  clear H
  have H:=H1
  clear H1
  obtain ⟨y238,hy238⟩:∃ y_:List (S51),y_=(([(⟨0,0,0,0⟩:S51)]:List (S51))):=⟨_,rfl⟩
  replace H:(if a2_0=true then (jJ.j0 k l1 (([(⟨0,2,a2_1,a2_2⟩:S51)]:List (S51))) l0_0) else (jJ.j0 k l1 y238 l0_0))=some (r1,r2):=by first |(rw [hy238];with_reducible exact H) |(have H2_:=(Option.bind_some _ _).symm.trans H;rw [hy238];with_reducible exact H2_) |(have H2_:=(Option.bind_some _ _).symm.trans H;with_reducible exact H2_) | with_reducible exact H |(rw [hy238];exact H) | exact H
  have Ny238:=am hy238
  clear hy238
  have HC6:=am H
  clear H
  go_enter Try.func6,Try.ntmps6
  go_upto_if 18 with (first |((with_reducible refine jB (N:=3) rfl ?_);refine bE (N:=3) (cs:=#[.slice A0_0 l0_0.length c0_0]) (t:=35) ?_;intro gb235 hg w7 hbox hb;have BK235:=am (hbox);have GW235:=am ((Y1:w.heap.size≤gb235));have GE235:=am ((Y1:w.heap.size≤gb235));replace HB:=am (jc (bq) hb);clear hb hbox hg) |((with_reducible refine jB (N:=5) rfl ?_);refine bE (N:=5) (cs:=#[.bool a2_0, .int .i64 a2_1, .int .i64 a2_2]) (t:=39) ?_;intro gb236 hg w8 hbox hb;have BK236:=am (hbox);have GW236:=am ((Y45:w.heap.size≤gb236));have GE236:=am ((Y45:w.heap.size≤gb236));have NB235_236:=am ((by rw [hg];exact Nat.ne_of_lt (jza (g:=gb235) (o:=.cells #[.slice A0_0 l0_0.length c0_0] 35 (0,0)) (kq BK235.out)):gb235≠gb236));have NB236_235:=am ((by rw [hg];exact Nat.ne_of_gt (jza (g:=gb235) (o:=.cells #[.slice A0_0 l0_0.length c0_0] 35 (0,0)) (kq BK235.out)):gb236≠gb235));replace BK235:=am (je (g:=gb235) (o:=.cells #[.slice A0_0 l0_0.length c0_0] 35 (0,0)) (kq BK235.out) hb);replace HB:=am (jc (Y72) hb);clear hb hbox hg;have hnb9:=NB235_236.out;have hnc9:=NB236_235.out;have hcz10_0:=bc0 BK235.out;have hfz10_0:=ja BK235.out 0;have hcz11_0:=bc0 BK236.out;have hcz11_1:=bc1 BK236.out;have hcz11_2:=bc2 BK236.out;have hfz11_0:=ja BK236.out 0;have hfz11_1:=ja BK236.out 1;have hfz11_2:=ja BK236.out 2) |((with_reducible refine jg (f:=19) rfl ?_);refine gL (some 13) Try.func19 #[.agg #[.slice A0_0 l0_0.length c0_0], .slice A1 l1.length c1, .agg #[.bool a2_0, .int .i64 a2_1, .int .i64 a2_2]] ?_;(with_reducible refine (jtb.calls k _ _ l0_0 _ _ l1 a2_0 a2_1 a2_2 true _ ?side1 ?side2 ?side3 ?side4 A4.out).mono ?_);(case side1=>exact cq (Kd.jF HR0_0.out HB.out));(case side2=>exact HC0_0.out);(case side3=>exact cq (Kd.jF HR1.out HB.out));(case side4=>exact HC1.out);rintro e w12 ⟨rfl,hb⟩;refine ⟨_,rfl,?_⟩;replace BK235:=am (je (g:=gb235) (o:=.cells #[.slice A0_0 l0_0.length c0_0] 35 (0,0)) (kq BK235.out) hb);replace BK236:=am (je (g:=gb236) (o:=.cells #[.bool a2_0, .int .i64 a2_1, .int .i64 a2_2] 39 (0,0)) (kq BK236.out) hb);replace HB:=am (jc (Y11) hb);(try clear hb);(try clear hb2);(try clear hk);(try clear hi)) |((with_reducible refine jB (N:=16) rfl ?_);refine Kd.R_lit k51 _ 51 ?hg (N:=16) ?hd (xs:=([(⟨0,0,0,0⟩:S51)]:List (S51))) (inner:=[.int .i64 0, .int .i64 0, .int .i64 0, .int .i64 0]) (ok:=fun _=>True) (okp:=fun _=>True) ?hr ?hp (fun _ hk=>hk) trivial (Below.refl _ _) (Nat.le_refl _) (by simp) ?_;(case hd=>rfl);(case hg=>rfl);(case hr=>exact Y4);(case hp=>exact (Reps.c4 (show Kd.M k51 _ _ _ (⟨0,0,0,0⟩:S51) [.int .i64 0, .int .i64 0, .int .i64 0, .int .i64 0] from (jfb _ _ _ (⟨0,0,0,0⟩:S51) )) (Reps.none _ _)));intro v239 w13 ho14 hb hg_ hnew_;clear hg_ hnew_;(first | rw [← Ny238.out] at ho14 |(simp only [Int.reduceToNat] at ho14;rw [← Ny238.out] at ho14));have HO240:=am (Kd.jra ho14 (jv (Y11)));replace BK235:=am (je (g:=gb235) (o:=.cells #[.slice A0_0 l0_0.length c0_0] 35 (0,0)) (kq BK235.out) hb);replace BK236:=am (je (g:=gb236) (o:=.cells #[.bool a2_0, .int .i64 a2_1, .int .i64 a2_2] 39 (0,0)) (kq BK236.out) hb);replace HB:=am (jc (Y11) hb);clear hb ho14;have hcz15_0:=bc0 BK236.out;have hcz15_1:=bc1 BK236.out;have hcz15_2:=bc2 BK236.out;have hfz15_0:=ja BK236.out 0;have hfz15_1:=ja BK236.out 1;have hfz15_2:=ja BK236.out 2))
  (try simp only [Act.put,List.setIfInBounds_toArray,List.set_cons_zero,List.set_cons_succ])
  go_cut [8] (fun v8 wc=>∃ (kq:Nat) (x8_5:List (S51)),jq (jJ.j0 kq l1 x8_5 l0_0=some (r1,r2))∧jq (kq≤k)∧jq (Kd.R k51 51 wc w.heap.size (fun _=>True) v8 x8_5)∧jq (wc.heap[gb235]?=some (.cells #[(.slice A0_0 l0_0.length c0_0)] 35 (0,0)))∧jq (wc.heap[gb236]?=some (.cells #[.bool a2_0, .int .i64 a2_1, .int .i64 a2_2] 39 (0,0)))∧jq (Below w.heap.size w wc))
  case first =>
   have H:=HC6.out
   clear HC6
   by_cases c16:a2_0=true
   ·subst c16
    have H1:(jJ.j0 k l1 (([(⟨0,2,a2_1,a2_2⟩:S51)]:List (S51))) l0_0)=some (r1,r2):=by rw [if_pos rfl] at H;exact H
    clear H
    have H:=H1
    clear H1
    obtain ⟨y241,hy241⟩:∃ y_:List (S51),y_=(([(⟨0,2,a2_1,a2_2⟩:S51)]:List (S51))):=⟨_,rfl⟩
    replace H:(jJ.j0 k l1 y241 l0_0)=some (r1,r2):=by first |(rw [hy241];with_reducible exact H) |(have H2_:=(Option.bind_some _ _).symm.trans H;rw [hy241];with_reducible exact H2_) |(have H2_:=(Option.bind_some _ _).symm.trans H;with_reducible exact H2_) | with_reducible exact H |(rw [hy241];exact H) | exact H
    have Ny241:=am hy241
    clear hy241
    have H':=am H
    clear H
    have hnb17:=NB236_235.out
    have hnc17:=NB235_236.out
    have hcz18_0:=bc0 BK236.out
    have hcz18_1:=bc1 BK236.out
    have hcz18_2:=bc2 BK236.out
    have hfz18_0:=ja BK236.out 0
    have hfz18_1:=ja BK236.out 1
    have hfz18_2:=ja BK236.out 2
    go_wp2_with (first |((with_reducible refine jB (N:=24) rfl ?_);refine Kd.R_lit k51 _ 51 ?hg (N:=24) ?hd (xs:=([(⟨0,2,a2_1,a2_2⟩:S51)]:List (S51))) (inner:=[.int .i64 0, .int .i64 2, .int .i64 a2_1, .int .i64 a2_2]) (ok:=fun _=>True) (okp:=fun _=>True) ?hr ?hp (fun _ hk=>hk) trivial (Below.refl _ _) (Nat.le_refl _) (by simp) ?_;(case hd=>rfl);(case hg=>rfl);(case hr=>exact Y4);(case hp=>exact (Reps.c4 (show Kd.M k51 _ _ _ (⟨0,2,a2_1,a2_2⟩:S51) [.int .i64 0, .int .i64 2, .int .i64 a2_1, .int .i64 a2_2] from (jfb _ _ _ (⟨0,2,a2_1,a2_2⟩:S51) )) (Reps.none _ _)));intro v242 w19 ho20 hb hg_ hnew_;clear hg_ hnew_;(first | rw [← Ny241.out] at ho20 |(simp only [Int.reduceToNat] at ho20;rw [← Ny241.out] at ho20));have HO243:=am (Kd.jra (Kd.jBb ho20 (Kd.R_lt (rq HO240.out))) (jv (Y11)));replace HO240:=am (Kd.jYa (rq HO240.out) (Kd.jlb ho20) hb);replace BK235:=am (je (g:=gb235) (o:=.cells #[.slice A0_0 l0_0.length c0_0] 35 (0,0)) (kq BK235.out) hb);replace BK236:=am (je (g:=gb236) (o:=.cells #[.bool true, .int .i64 a2_1, .int .i64 a2_2] 39 (0,0)) (kq BK236.out) hb);replace HB:=am (jc (Y11) hb);clear hb ho20))
    go_meet
    case rel=>exact ⟨_,(y241),H',⟨Y15⟩,⟨by (with_reducible repeat (first | apply Kd.jGa | apply Kd.jKa | apply Kd.jLa));exact Kd.jca HO243.out (fun _ hk=>trivial)⟩,⟨kq BK235.out⟩,⟨kq BK236.out⟩,⟨Y11⟩⟩
   ·replace c16:=Bool.eq_false_iff.mpr c16
    subst c16
    have H1:(jJ.j0 k l1 y238 l0_0)=some (r1,r2):=by rw [if_neg (show ¬ (false=true) by decide)] at H;exact H
    clear H
    have H:=H1
    clear H1
    have H':=am H
    clear H
    go_wp2
    go_meet
    case rel=>exact ⟨_,(y238),H',⟨Y15⟩,⟨rq HO240.out⟩,⟨kq BK235.out⟩,⟨kq BK236.out⟩,⟨Y11⟩⟩
  case rest =>
   clear HC6
   try clear c1
   try clear p2
   try clear c4
   try clear c5
   try clear c6
   try clear c9
   try clear c16
   try clear c17
   try clear c19
   try clear hcz10_0
   try clear hcz11_0
   try clear hcz11_1
   try clear hcz11_2
   try clear hcz15_0
   try clear hcz15_1
   try clear hcz15_2
   try clear hcz18_0
   try clear hcz18_1
   try clear hcz18_2
   try clear hfz10_0
   try clear hfz11_0
   try clear hfz11_1
   try clear hfz11_2
   try clear hfz15_0
   try clear hfz15_1
   try clear hfz15_2
   try clear hfz18_0
   try clear hfz18_1
   try clear hfz18_2
   obtain ⟨kq,x8_5,HA,HJ5,HO_8,BK235,BK236,HB⟩:=hcut
   cases kq with
   | zero=>exact absurd HA.out (by simp [jJ.j0])
   | succ kj5 =>
    have H:=HA.out
    clear HA
    simp only [jJ.j0] at H
    have H':=am H
    clear H
    go_wp2
    go_loopg [8,9] kj5 (fun kq v8 v9 w'=>∃ (x8_2:List (S51)) (x9_2:Int),v9=.int .i64 x9_2∧jq (jJ.l0 kq l1 x8_2 x9_2 l0_0=some (r1,r2))∧jq (kq≤kj5)∧jq (Kd.R k51 51 w' w.heap.size (fun _=>True) v8 x8_2)∧jq (w'.heap[gb235]?=some (.cells #[(.slice A0_0 l0_0.length c0_0)] 35 (0,0)))∧jq (w'.heap[gb236]?=some (.cells #[.bool a2_0, .int .i64 a2_1, .int .i64 a2_2] 39 (0,0)))∧jq (Below w.heap.size w w'))
    case atStart=>exact ⟨(x8_5),(wrap64 ((l1.length:Int) - 1)),(sq),H',⟨Nat.le_refl _⟩,⟨rq HO_8.out⟩,⟨kq BK235.out⟩,⟨kq BK236.out⟩,⟨Y11⟩⟩
    case round =>
     clear H'
     try clear c1
     try clear p2
     try clear c4
     try clear c5
     try clear c6
     try clear p6
     try clear c9
     try clear c16
     try clear c17
     try clear c19
     try clear hcz10_0
     try clear hcz11_0
     try clear hcz11_1
     try clear hcz11_2
     try clear hcz15_0
     try clear hcz15_1
     try clear hcz15_2
     try clear hcz18_0
     try clear hcz18_1
     try clear hcz18_2
     try clear hfz10_0
     try clear hfz11_0
     try clear hfz11_1
     try clear hfz11_2
     try clear hfz15_0
     try clear hfz15_1
     try clear hfz15_2
     try clear hfz18_0
     try clear hfz18_1
     try clear hfz18_2
     try clear p2
     obtain ⟨x8_2,x9_2,rfl,HA,HK2,HO_8,BK235,BK236,HB⟩:=hrel
     cases gk with
     | zero=>exact absurd HA.out (by simp [jJ.l0])
     | succ k2 =>
      have H:=HA.out
      clear HA
      simp only [jJ.l0] at H
      by_cases c21:x9_2≥0
      ·rw [if_pos c21] at H
       have c21b0:decide (0≤x9_2)=true:=dzT c21
       clear c21
       by_cases c22:0≤x9_2
       ·rw [if_pos c22] at H
        have c22b0:decide (0≤x9_2)=true:=dzT c22
        clear c22
        by_cases c23:x9_2<(l1.length:Int)
        ·rw [if_pos c23] at H
         have c23b0:decide (x9_2<(l1.length:Int))=true:=dzT c23
         clear c23
         replace H:=bzS H
         obtain ⟨t245,A240,H⟩:=H
         replace H:(jJ.l0 k2 l1 t245 (wrap64 (x9_2 - 1)) l0_0)=some (r1,r2):=H
         have A24:=am A240
         clear A240
         have H':=am H
         clear H
         have p244:0≤(x9_2:Int):=ozD (uq)
         have q244:x9_2<(l1.length:Int):=ozD (uq)
         obtain ⟨ad244,e244,hx244_0,hx244_1,hx244_2⟩:=at_T54 HR1.out x9_2 p244 q244
         cases e244
         replace hx244_0:=cb HB.out hx244_0
         replace hx244_1:=cb HB.out hx244_1
         replace hx244_2:=cb HB.out hx244_2
         replace p244:=ezT p244
         replace q244:=ezT q244
         obtain ⟨Ao25,co25,eo25⟩:=Kd.jga HO_8.out
         subst eo25
         go_wp2_with (first |((with_reducible refine jg (f:=20) rfl ?_);refine gL (some 37) Try.func20 #[.slice Ao25 x8_2.length co25, .agg #[.int .i64 ((jN l1 x9_2).f0), .int .i64 ((jN l1 x9_2).f1), .int .i64 ((jN l1 x9_2).f2)]] ?_;(with_reducible refine (jDb.calls k2 _ _ x8_2 ((jN l1 x9_2).f0) ((jN l1 x9_2).f1) ((jN l1 x9_2).f2) t245 _ ?side1 ?side2 A24.out).mono ?_);(case side1=>exact cq (Kd.jw HO_8.out).2.2);(case side2=>exact (Kd.jw HO_8.out).2.1);rintro e w26 ⟨v246,rfl,ho0,hb⟩;refine ⟨_,rfl,?_⟩;have HO247:=am (Kd.jra (Kd.jBb ho0 (Kd.R_lt (rq HO_8.out))) (jv (Y11)));replace HO_8:=am (Kd.jYa (rq HO_8.out) (Kd.jlb ho0) hb);replace BK235:=am (je (g:=gb235) (o:=.cells #[.slice A0_0 l0_0.length c0_0] 35 (0,0)) (kq BK235.out) hb);replace BK236:=am (je (g:=gb236) (o:=.cells #[.bool a2_0, .int .i64 a2_1, .int .i64 a2_2] 39 (0,0)) (kq BK236.out) hb);replace HB:=am (jc (Y11) hb);(try clear hb);(try clear hb2);(try clear hk);(try clear hi);(try clear ho0)))
         go_roundg k2
         case measure=>have:=HJ5.out;have:=HK2.out;omega
         case rel=>exact ⟨(t245),(wrap64 (x9_2 - 1)),(sq),H',⟨by have:=HJ5.out;have:=HK2.out;omega⟩,⟨by (with_reducible repeat (first | apply Kd.jGa | apply Kd.jKa | apply Kd.jLa));exact Kd.jca HO247.out (fun _ hk=>trivial)⟩,⟨kq BK235.out⟩,⟨kq BK236.out⟩,⟨Y11⟩⟩
        ·rw [if_neg c23] at H
         exact absurd H (by simp)
       ·rw [if_neg c22] at H
        exact absurd H (by simp)
      ·rw [if_neg c21] at H
       have c21b0:decide (0≤x9_2)=false:=dzF c21
       clear c21
       replace H:=bzS H
       obtain ⟨⟨t248,t251⟩,A270,H⟩:=H
       replace H:(some (t248,t251))=some (r1,r2):=H
       have A27:=am A270
       clear A270
       simp only [Option.some.injEq,Prod.mk.injEq] at H
       obtain ⟨rfl,rfl⟩:=H
       have hnb28:=NB235_236.out
       have hnc28:=NB236_235.out
       have hcz29_0:=bc0 BK235.out
       have hfz29_0:=ja BK235.out 0
       obtain ⟨Ao30,co30,eo30⟩:=Kd.jga HO_8.out
       subst eo30
       go_wp2_with (first |((with_reducible refine jg (f:=21) rfl ?_);refine gL (some 40) Try.func21 #[.agg #[.slice A0_0 l0_0.length c0_0], .slice Ao30 x8_2.length co30] ?_;(with_reducible refine (jeb.calls k2 _ _ l0_0 (fun k_=>some k_=(.slice Ao30 x8_2.length co30:Value).ownBlock) (.slice Ao30 x8_2.length co30) x8_2 t248 t251 w _ ?side1 ?side2 ?side3 ?side4 A27.out).mono ?_);(case side1=>exact Y11);(case side2=>exact Kd.C_kept_came k75_heap HR0_0.out (Y11) (fun k_ hs_=>(fun e_=>Kd.jlb HO_8.out k_ e_.symm) hs_));(case side3=>exact HC0_0.out);(case side4=>exact Kd.R_tight rfl HO_8.out);rintro e w31 ⟨v249,rfl,ho0,hb,hkp⟩;refine ⟨_,rfl,?_⟩;have n0_:=am (jOb (kq BK235.out) hkp (fun hs_=>(fun e_=>(Kd.R_ne HO_8.out BK235.out (by decide)) e_) hs_));have n1_:=am (jOb (kq BK236.out) hkp (fun hs_=>(fun e_=>(Kd.R_ne HO_8.out BK236.out (by decide)) e_) hs_));have n2_:=am (Kd.jca (ok':=fun k_=>True) ho0 (fun k_ hk_=>trivial));have n3_:=am (hb);clear BK235 BK236 HB HO_8;have BK235:=n0_;have BK236:=n1_;have HO250:=n2_;have HB:=n3_;clear n0_ n1_ n2_ n3_;(try clear hb);(try clear hkp);(try clear ho0)))
       go_ret2
       exact ⟨_,Y0,rq HO250.out,Y11⟩
 ·replace c5:=Bool.eq_false_iff.mpr c5
  subst c5
  have H1:(some (([]:List (S51)),false))=some (r1,r2):=by rw [if_neg (show ¬ (false=true) by decide)] at H;exact H
  clear H
  have H:=H1
  clear H1
  simp only [Option.some.injEq,Prod.mk.injEq] at H
  obtain ⟨rfl,rfl⟩:=H
  go_enter Try.func6,Try.ntmps6
  go_wp2_with (first |((with_reducible refine jB (N:=3) rfl ?_);refine bE (N:=3) (cs:=#[.slice A0_0 l0_0.length c0_0]) (t:=35) ?_;intro gb235 hg w32 hbox hb;have BK235:=am (hbox);have GW235:=am ((Y1:w.heap.size≤gb235));have GE235:=am ((Y1:w.heap.size≤gb235));replace HB:=am (jc (bq) hb);clear hb hbox hg) |((with_reducible refine jB (N:=5) rfl ?_);refine bE (N:=5) (cs:=#[.bool a2_0, .int .i64 a2_1, .int .i64 a2_2]) (t:=39) ?_;intro gb236 hg w33 hbox hb;have BK236:=am (hbox);have GW236:=am ((Y45:w.heap.size≤gb236));have GE236:=am ((Y45:w.heap.size≤gb236));have NB235_236:=am ((by rw [hg];exact Nat.ne_of_lt (jza (g:=gb235) (o:=.cells #[.slice A0_0 l0_0.length c0_0] 35 (0,0)) (kq BK235.out)):gb235≠gb236));have NB236_235:=am ((by rw [hg];exact Nat.ne_of_gt (jza (g:=gb235) (o:=.cells #[.slice A0_0 l0_0.length c0_0] 35 (0,0)) (kq BK235.out)):gb236≠gb235));replace BK235:=am (je (g:=gb235) (o:=.cells #[.slice A0_0 l0_0.length c0_0] 35 (0,0)) (kq BK235.out) hb);replace HB:=am (jc (Y72) hb);clear hb hbox hg;have hnb34:=NB235_236.out;have hnc34:=NB236_235.out;have hcz35_0:=bc0 BK235.out;have hfz35_0:=ja BK235.out 0;have hcz36_0:=bc0 BK236.out;have hcz36_1:=bc1 BK236.out;have hcz36_2:=bc2 BK236.out;have hfz36_0:=ja BK236.out 0;have hfz36_1:=ja BK236.out 1;have hfz36_2:=ja BK236.out 2) |((with_reducible refine jg (f:=19) rfl ?_);refine gL (some 13) Try.func19 #[.agg #[.slice A0_0 l0_0.length c0_0], .slice A1 l1.length c1, .agg #[.bool a2_0, .int .i64 a2_1, .int .i64 a2_2]] ?_;(with_reducible refine (jtb.calls k _ _ l0_0 _ _ l1 a2_0 a2_1 a2_2 false _ ?side1 ?side2 ?side3 ?side4 A4.out).mono ?_);(case side1=>exact cq (Kd.jF HR0_0.out HB.out));(case side2=>exact HC0_0.out);(case side3=>exact cq (Kd.jF HR1.out HB.out));(case side4=>exact HC1.out);rintro e w37 ⟨rfl,hb⟩;refine ⟨_,rfl,?_⟩;replace BK235:=am (je (g:=gb235) (o:=.cells #[.slice A0_0 l0_0.length c0_0] 35 (0,0)) (kq BK235.out) hb);replace BK236:=am (je (g:=gb236) (o:=.cells #[.bool a2_0, .int .i64 a2_1, .int .i64 a2_2] 39 (0,0)) (kq BK236.out) hb);replace HB:=am (jc (Y11) hb);(try clear hb);(try clear hb2);(try clear hk);(try clear hi)))
  go_ret2
  exact ⟨_,Y0,Y57,Y11⟩
def jlc.f (a0_0 : ByteArray) (a0_1 : Int) : Option (ByteArray × Int) := some (a0_0, a0_1)
set_option maxHeartbeats 8000000 in
set_option maxRecDepth 100000 in
theorem jlc.calls (a0_0 : ByteArray) (a0_1 : Int) (r1 : ByteArray) (r2 : Int) (w : World) (h : jlc.f a0_0 a0_1 = some (r1, r2)) :
  Calls Try.prog 38 #[.agg #[.string a0_0, .int .i64 a0_1]] w fun e w'=>e=.returned (.agg #[.string r1, .int .i64 r2])∧Below w.heap.size w w':=by
 have hu71:=Try.underlying71
 have hu75:=Try.underlying75
 have HB:=am (Below.refl w.heap.size w)
 have H:(some (a0_0,a0_1))=some (r1,r2):=h
 clear h
 simp only [Option.some.injEq,Prod.mk.injEq] at H
 obtain ⟨rfl,rfl⟩:=H
 go_enter Try.func38,Try.ntmps38
 go_wp2_with (first |((with_reducible refine jB (N:=1) rfl ?_);refine bE (N:=1) (cs:=#[.string a0_0, .int .i64 a0_1]) (t:=71) ?_;intro gb252 hg w2 hbox hb;have BK252:=am (hbox);have GW252:=am ((Y1:w.heap.size≤gb252));have GE252:=am ((Y1:w.heap.size≤gb252));replace HB:=am (jc (bq) hb);clear hb hbox hg) |((with_reducible refine jB (N:=2) rfl ?_);refine bE (N:=2) (cs:=#[.string (⟨#[]⟩:ByteArray), .int .i64 0]) (t:=75) ?_;intro gb253 hg w3 hbox hb;have BK253:=am (hbox);have GW253:=am ((Y73:w.heap.size≤gb253));have GE253:=am ((Y73:w.heap.size≤gb253));have NB252_253:=am ((by rw [hg];exact Nat.ne_of_lt (jza (g:=gb252) (o:=.cells #[.string a0_0, .int .i64 a0_1] 71 (0,0)) (kq BK252.out)):gb252≠gb253));have NB253_252:=am ((by rw [hg];exact Nat.ne_of_gt (jza (g:=gb252) (o:=.cells #[.string a0_0, .int .i64 a0_1] 71 (0,0)) (kq BK252.out)):gb253≠gb252));replace BK252:=am (je (g:=gb252) (o:=.cells #[.string a0_0, .int .i64 a0_1] 71 (0,0)) (kq BK252.out) hb);replace HB:=am (jc (by repeat (first |(with_reducible first | exact HB.out | apply jk | apply jf | apply jm | refine jl ?_ GE252.out) | exact HB.out)) hb);clear hb hbox hg) |((with_reducible refine jB (N:=3) rfl ?_);refine bE (N:=3) (cs:=#[.string (⟨#[]⟩:ByteArray), .int .i64 0]) (t:=75) ?_;intro gb254 hg w4 hbox hb;have BK254:=am (hbox);have GW254:=am ((Y74:w.heap.size≤gb254));have GE254:=am ((Y74:w.heap.size≤gb254));have NB252_254:=am ((by rw [hg];exact Nat.ne_of_lt (jza (g:=gb252) (o:=.cells #[.string a0_0, .int .i64 a0_1] 71 (0,0)) (kq BK252.out)):gb252≠gb254));have NB254_252:=am ((by rw [hg];exact Nat.ne_of_gt (jza (g:=gb252) (o:=.cells #[.string a0_0, .int .i64 a0_1] 71 (0,0)) (kq BK252.out)):gb254≠gb252));have NB253_254:=am ((by rw [hg];exact Nat.ne_of_lt (jza (g:=gb253) (o:=.cells #[.string (⟨#[]⟩:ByteArray), .int .i64 0] 75 (0,0)) (kq BK253.out)):gb253≠gb254));have NB254_253:=am ((by rw [hg];exact Nat.ne_of_gt (jza (g:=gb253) (o:=.cells #[.string (⟨#[]⟩:ByteArray), .int .i64 0] 75 (0,0)) (kq BK253.out)):gb254≠gb253));replace BK252:=am (je (g:=gb252) (o:=.cells #[.string a0_0, .int .i64 a0_1] 71 (0,0)) (kq BK252.out) hb);replace BK253:=am (je (g:=gb253) (o:=.cells #[.string (⟨#[]⟩:ByteArray), .int .i64 0] 75 (0,0)) (kq BK253.out) hb);replace HB:=am (jc (by repeat (first |(with_reducible first | exact HB.out | apply jk | apply jf | apply jm | refine jl ?_ GE252.out | refine jl ?_ GE253.out) | exact HB.out)) hb);clear hb hbox hg;have hnb5:=NB252_253.out;have hnc5:=NB253_252.out;have hnb6:=NB252_254.out;have hnc6:=NB254_252.out;have hcz7_0:=bc0 BK252.out;have hcz7_1:=bc1 BK252.out;have hfz7_0:=ja BK252.out 0;have hfz7_1:=ja BK252.out 1;have hnb8:=NB254_253.out;have hnc8:=NB253_254.out;have hcz9_0:=bc0 BK254.out;have hcz9_1:=bc1 BK254.out;have hfz9_0:=ja BK254.out 0;have hfz9_1:=ja BK254.out 1;have hcz10_0:=bc0 BK253.out;have hcz10_1:=bc1 BK253.out;have hfz10_0:=ja BK253.out 0;have hfz10_1:=ja BK253.out 1))
 refine bodyPost_ret (results_cell_row rfl _ _ gb253 75 #[.string a0_0, .int .i64 a0_1] (0,0) _ rfl (by (with_reducible repeat (first | refine jL ?_ _ | refine jS ?_ | refine jT ?_ _));refine jub (cs:=#[.string a0_0, .int .i64 0]) ?_ 1 _ rfl;(with_reducible repeat (first | refine jL ?_ _ | refine jS ?_ | refine jT ?_ _));refine jub (cs:=#[.string (⟨#[]⟩:ByteArray), .int .i64 0]) ?_ 0 _ rfl;(with_reducible repeat (first | refine jL ?_ _ | refine jS ?_ | refine jT ?_ _));refine jKb ?_ NB253_254.out _;(with_reducible repeat (first | refine jL ?_ _ | refine jS ?_ | refine jT ?_ _));refine jKb ?_ NB253_254.out _;(with_reducible repeat (first | refine jL ?_ _ | refine jS ?_ | refine jT ?_ _));exact BK253.out) Try.underlying75 rfl (by kernel_rfl)) rfl ?_
 exact ⟨Y0,by repeat (first |(with_reducible first | exact HB.out | apply jk | apply jf | apply jm | refine jl ?_ GE252.out | refine jl ?_ GE253.out | refine jl ?_ GE254.out) | exact HB.out)⟩
def jCa.l0 : Nat → List (S71) → List (S75) → Int → Option ((List (S75)))
 | 0,_,_,_=>none
 | k+1,x0,x3,x4=>if x4<(x0.length:Int) then (if 0≤x4 then ((jlc.f ((jQb x0 x4).f0) ((jQb x0 x4).f1)).bind fun bt259=>(if x4<(x3.length:Int) then (jCa.l0 k x0 (x3.set (x4:Int).toNat (⟨bt259.1,bt259.2⟩:S75)) (wrap64 (x4+1))) else (none))) else (none)) else (some x3)
def jCa.f (k : Nat) (l0 : List (S71)) : Option ((List (S75))) := if 0 ≤ (l0.length : Int) then (if ((l0.length : Int) : Int).toNat ≤ 11728124029610 then (jCa.l0 k l0 (List.replicate ((l0.length : Int) : Int).toNat z75) 0) else (none)) else (none)
set_option maxHeartbeats 8000000 in
set_option maxRecDepth 100000 in
theorem jCa.calls (k : Nat) (A0 : Option Addr) (c0 : Nat) (l0 : List (S71)) (r : List (S75)) (w : World) (hr0 : Kd.C k71 w A0 l0.length l0) (hc0 : l0.length ≤ c0) (h : jCa.f k l0 = some r) :
  Calls Try.prog 22 #[.slice A0 l0.length c0] w fun e w'=>∃ v0_:Value,e=.returned (v0_)∧Kd.R k75 75 w' w.heap.size (fun _=>True) v0_ r∧Below w.heap.size w w':=by
 have hu71:=Try.underlying71
 have hu75:=Try.underlying75
 have HR0:=am hr0
 have HC0:=am hc0
 clear hr0 hc0
 have HB:=am (Below.refl w.heap.size w)
 have H:(if 0≤(l0.length:Int) then (if ((l0.length:Int):Int).toNat≤11728124029610 then (jCa.l0 k l0 (List.replicate ((l0.length:Int):Int).toNat z75) 0) else (none)) else (none))=some r:=h
 clear h
 by_cases c2:0≤(l0.length:Int)
 ·rw [if_pos c2] at H
  have c2b0:=ezT c2
  have c2b1:decide (0≤(l0.length:Int))=true:=dzT c2
  clear c2
  by_cases c3:((l0.length:Int):Int).toNat≤11728124029610
  ·rw [if_pos c3] at H
   have c3b0:=ezT c3
   have c3b1:decide (((l0.length:Int):Int).toNat≤11728124029610)=true:=dzT c3
   clear c3
   obtain ⟨y255,hy255⟩:∃ y_:List (S75),y_=(List.replicate ((l0.length:Int):Int).toNat z75):=⟨_,rfl⟩
   replace H:(jCa.l0 k l0 y255 0)=some r:=by first |(rw [hy255];with_reducible exact H) |(have H2_:=(Option.bind_some _ _).symm.trans H;rw [hy255];with_reducible exact H2_) |(have H2_:=(Option.bind_some _ _).symm.trans H;with_reducible exact H2_) | with_reducible exact H |(rw [hy255];exact H) | exact H
   have Ny255:=am hy255
   clear hy255
   have H':=am H
   clear H
   go_enter Try.func22,Try.ntmps22
   go_wp2_with (first |((with_reducible refine jB (N:=7) rfl ?_);refine Kd.R_make k75 _ 75 rfl (N:=7) rfl 33 _ _ rfl (l0.length:Int) rfl rfl Try.underlying33 (.agg #[(.string ⟨#[]⟩),(.int .i64 0)]) 24 info75 rfl (by decide) (by omega) z75 (ok:=fun _=>True) (okp:=fun _=>True) (k75_mkM _ _ _ z75 ) (fun _ hk=>hk) trivial (ozD (uq)) (Nat.le_trans (Nat.mul_le_mul_right _ (ozD (uq):(l0.length:Int).toNat≤11728124029610)) (by omega)) (Below.refl _ _) (Nat.le_refl _) ?_;intro v256 w4 ho5 hb hg_ hnew_;clear hg_ hnew_;(first | rw [← Ny255.out] at ho5 |(simp only [Int.reduceToNat] at ho5;rw [← Ny255.out] at ho5));have HO257:=am (Kd.jra ho5 (jv (bq)));replace HB:=am (jc (bq) hb);clear hb ho5))
   go_loopg [4] k (fun kq v4 w'=>∃ (x3_1:List (S75)) (x4_1:Int),v4=.int .i64 x4_1∧jq (jCa.l0 kq l0 x3_1 x4_1=some r)∧jq (kq≤k)∧jq (Kd.R k75 75 w' w.heap.size (fun _=>True) v256 x3_1)∧jq (Below w.heap.size w w'))
   case atStart=>exact ⟨(y255),(0),(sq),H',⟨Nat.le_refl _⟩,⟨rq HO257.out⟩,⟨bq⟩⟩
   case round =>
    clear H'
    try clear c2
    try clear c2b0
    try clear c2b1
    try clear p2
    try clear c3
    try clear c3b0
    try clear c3b1
    obtain ⟨x3_1,x4_1,rfl,HA,HK1,HO_3,HB⟩:=hrel
    cases gk with
    | zero=>exact absurd HA.out (by simp [jCa.l0])
    | succ k1 =>
     have H:=HA.out
     clear HA
     simp only [jCa.l0] at H
     by_cases c6:x4_1<(l0.length:Int)
     ·rw [if_pos c6] at H
      have c6b0:decide (x4_1<(l0.length:Int))=true:=dzT c6
      clear c6
      by_cases c7:0≤x4_1
      ·rw [if_pos c7] at H
       have c7b0:decide (0≤x4_1)=true:=dzT c7
       clear c7
       replace H:=bzS H
       obtain ⟨⟨t259,t260⟩,A80,H⟩:=H
       replace H:(if x4_1<(x3_1.length:Int) then (jCa.l0 k1 l0 (x3_1.set (x4_1:Int).toNat (⟨t259,t260⟩:S75)) (wrap64 (x4_1+1))) else (none))=some r:=H
       have A8:=am A80
       clear A80
       by_cases c9:x4_1<(x3_1.length:Int)
       ·rw [if_pos c9] at H
        have c9b0:decide (x4_1<(x3_1.length:Int))=true:=dzT c9
        clear c9
        obtain ⟨y261,hy261⟩:∃ y_:List (S75),y_=(x3_1.set (x4_1:Int).toNat (⟨t259,t260⟩:S75)):=⟨_,rfl⟩
        replace H:(jCa.l0 k1 l0 y261 (wrap64 (x4_1+1)))=some r:=by first |(rw [hy261];with_reducible exact H) |(have H2_:=(Option.bind_some _ _).symm.trans H;rw [hy261];with_reducible exact H2_) |(have H2_:=(Option.bind_some _ _).symm.trans H;with_reducible exact H2_) | with_reducible exact H |(rw [hy261];exact H) | exact H
        have Ny261:=am hy261
        clear hy261
        have H':=am H
        clear H
        have p258:0≤(x4_1:Int):=ozD (uq)
        have q258:x4_1<(l0.length:Int):=ozD (uq)
        obtain ⟨ad258,e258,hx258_0,hx258_1⟩:=at_T71 HR0.out x4_1 p258 q258
        cases e258
        replace hx258_0:=cb HB.out hx258_0
        replace hx258_1:=cb HB.out hx258_1
        replace p258:=ezT p258
        replace q258:=ezT q258
        go_wp2_with (first |((with_reducible refine jg (f:=38) rfl ?_);refine gL (some 20) Try.func38 #[.agg #[.string ((jQb l0 x4_1).f0), .int .i64 ((jQb l0 x4_1).f1)]] ?_;(with_reducible refine (jlc.calls ((jQb l0 x4_1).f0) ((jQb l0 x4_1).f1) t259 t260 _ A8.out).mono ?_);rintro e w11 ⟨rfl,hb⟩;refine ⟨_,rfl,?_⟩;replace HO_3:=am (Kd.jH (rq HO_3.out) hb);replace HB:=am (jc (bq) hb);(try clear hb);(try clear hb2);(try clear hk);(try clear hi);have p10:0≤(x4_1:Int):=ozD (uq);have q10:(x4_1:Int)<((x3_1.length:Int):Int):=ozD (uq);obtain ⟨go10,co10,eo10,gb10,gl10,cl10,HG10⟩:=Kd.R_form HO_3.out (by omega);(first | cases eo10 |(injection eo10 with ea_ en_ ec_;(first | subst ea_ |(injection ea_ with ea_;subst ea_));subst ec_;clear en_));have GB10:=am gb10;have GG10:=am HG10;clear gb10 gl10 HG10;obtain ⟨ce10,hcl10,hM10,hcc10,hfr10⟩:=Kd.jFb HO_3.out z75 (x4_1:Int) p10 q10;obtain rfl:=jGc hM10;have hx10_0:w11.cell? ⟨go10,(x4_1:Int).toNat * 2,none⟩=some (.string ((jM x3_1 x4_1).f0)):=hcc10 0 _ rfl;have hx10_1:w11.cell? ⟨go10,(x4_1:Int).toNat * 2+1,none⟩=some (.int .i64 ((jM x3_1 x4_1).f1)):=hcc10 1 _ rfl;have hf10_0:w11.frozen? ⟨go10,(x4_1:Int).toNat * 2,none⟩=false:=hfr10 0;have hf10_1:w11.frozen? ⟨go10,(x4_1:Int).toNat * 2+1,none⟩=false:=hfr10 1;clear hcl10 hcc10 hfr10 hM10;replace p10:=ezT p10;replace q10:=ezT q10;have HX12:=am (show Kd.R k75 75 w11 w.heap.size (fun _=>True) (.slice (some ⟨go10,0,none⟩) x3_1.length co10) x3_1 from (rq HO_3.out));obtain ⟨ce12,hcl12,hM12,hcc12,hfr12⟩:=Kd.jFb HX12.out z75 (x4_1:Int) (ozD (uq)) (by have h_:(x4_1:Int)<((x3_1.length:Int):Int):=ozD (uq);first | exact h_ |(have e_:=(Kd.jw HO_3.out).1;omega) | simpa using h_);obtain rfl:=jGc hM12;have HP12:=Kd.R_seg HX12.out (x4_1:Int) (ozD (uq)) (by have h_:(x4_1:Int)<((x3_1.length:Int):Int):=ozD (uq);first | exact h_ |(have e_:=(Kd.jw HO_3.out).1;omega) | simpa using h_) (seg:=[.string t259, .int .i64 t260]) (j:=0) hcl12 hcc12 (show 2≤2 from by decide) (x':=(⟨t259,t260⟩:S75)) (k75_mkM _ _ _ (⟨t259,t260⟩:S75) ) (fun _ hk=>hk);have hx12_0:=hcc12 0 _ rfl;(try simp only [show (k75).sz=2 from rfl,Nat.mul_one,Nat.add_zero] at hx12_0);have hf12_0:=hfr12 0;(try simp only [show (k75).sz=2 from rfl,Nat.mul_one,Nat.add_zero] at hf12_0);have hx12_1:=hcc12 1 _ rfl;(try simp only [show (k75).sz=2 from rfl,Nat.mul_one,Nat.add_zero] at hx12_1);have hf12_1:=hfr12 1;(try simp only [show (k75).sz=2 from rfl,Nat.mul_one,Nat.add_zero] at hf12_1);clear hcl12 hcc12 hfr12 hM12) |((with_reducible refine jpb (t:=75) (p:=21) rfl ?_);refine jhb (t:=75) (p:=21) (v:=?vo_w13) (w1:=((w11.setCell ⟨go10,(x4_1:Int).toNat * 2,none⟩ (.string t259)).setCell ⟨go10,(x4_1:Int).toNat * 2+1,none⟩ (.int .i64 t260))) ?hg ?ho ?hn ?hr ?_;(case ho=>rfl);(case hg=>rfl);(case hn=>rfl);(case hr=>exact Y4);intro w13 hw;have hg:w11.grownBy w13 (some go10):=(by rw [hw];exact HP12.2);have hp_:Kd.R k75 75 w13 w.heap.size (fun _=>True) (.slice (some ⟨go10,0,none⟩) x3_1.length co10) y261:=(by rw [hw,Ny261.out];exact HP12.1);clear HP12;replace HO_3:=am (hp_);replace HB:=am ((by rw [hw];exact jl (jl (HB.out) GB10.out) GB10.out:Below w.heap.size w w13));clear hg hw hp_))
        go_roundg k1
        case measure=>have:=HK1.out;omega
        case rel=>exact ⟨(y261),(wrap64 (x4_1+1)),(sq),H',⟨by have:=HK1.out;omega⟩,⟨rq HO_3.out⟩,⟨bq⟩⟩
       ·rw [if_neg c9] at H
        exact absurd H (by simp)
      ·rw [if_neg c7] at H
       exact absurd H (by simp)
     ·rw [if_neg c6] at H
      have c6b0:decide (x4_1<(l0.length:Int))=false:=dzF c6
      clear c6
      obtain rfl:=Option.some.inj H
      go_wp2
      go_ret
      exact ⟨_,Y0,rq HO_3.out,bq⟩
  ·rw [if_neg c3] at H
   exact absurd H (by simp)
 ·rw [if_neg c2] at H
  exact absurd H (by simp)
def jFa.f (k : Nat) (l0_0 : List (S71)) : Option ((List (S75))) := (jCa.f k l0_0).bind fun t265 => (some t265)
set_option maxHeartbeats 8000000 in
set_option maxRecDepth 100000 in
theorem jFa.calls (k : Nat) (A0_0 : Option Addr) (c0_0 : Nat) (l0_0 : List (S71)) (r : List (S75)) (w : World) (hr0_0 : Kd.C k71 w A0_0 l0_0.length l0_0) (hc0_0 : l0_0.length ≤ c0_0) (h : jFa.f k l0_0 = some r) :
  Calls Try.prog 7 #[.agg #[.slice A0_0 l0_0.length c0_0]] w fun e w'=>∃ v0_:Value,e=.returned (.agg #[v0_])∧Kd.R k75 75 w' w.heap.size (fun _=>True) v0_ r∧Below w.heap.size w w':=by
 have hu24:=Try.underlying24
 have hu35:=Try.underlying35
 have HR0_0:=am hr0_0
 have HC0_0:=am hc0_0
 clear hr0_0 hc0_0
 have HB:=am (Below.refl w.heap.size w)
 have H:((jCa.f k l0_0).bind fun t265=>(some t265))=some r:=h
 clear h
 replace H:=bzS H
 obtain ⟨t265,A20,H⟩:=H
 replace H:(some t265)=some r:=H
 have A2:=am A20
 clear A20
 obtain rfl:=Option.some.inj H
 go_enter Try.func7,Try.ntmps7
 go_wp2_with (first |((with_reducible refine jB (N:=1) rfl ?_);refine bE (N:=1) (cs:=#[.slice A0_0 l0_0.length c0_0]) (t:=24) ?_;intro gb262 hg w3 hbox hb;have BK262:=am (hbox);have GW262:=am ((Y1:w.heap.size≤gb262));have GE262:=am ((Y1:w.heap.size≤gb262));replace HB:=am (jc (bq) hb);clear hb hbox hg) |((with_reducible refine jB (N:=2) rfl ?_);refine bE (N:=2) (cs:=#[.slice none 0 0]) (t:=35) ?_;intro gb263 hg w4 hbox hb;have BK263:=am (hbox);have GW263:=am ((Y75:w.heap.size≤gb263));have GE263:=am ((Y75:w.heap.size≤gb263));have NB262_263:=am ((by rw [hg];exact Nat.ne_of_lt (jza (g:=gb262) (o:=.cells #[.slice A0_0 l0_0.length c0_0] 24 (0,0)) (kq BK262.out)):gb262≠gb263));have NB263_262:=am ((by rw [hg];exact Nat.ne_of_gt (jza (g:=gb262) (o:=.cells #[.slice A0_0 l0_0.length c0_0] 24 (0,0)) (kq BK262.out)):gb263≠gb262));replace BK262:=am (je (g:=gb262) (o:=.cells #[.slice A0_0 l0_0.length c0_0] 24 (0,0)) (kq BK262.out) hb);replace HB:=am (jc (by repeat (first |(with_reducible first | exact HB.out | apply jk | apply jf | apply jm | refine jl ?_ GE262.out) | exact HB.out)) hb);clear hb hbox hg) |((with_reducible refine jB (N:=3) rfl ?_);refine bE (N:=3) (cs:=#[.slice none 0 0]) (t:=35) ?_;intro gb264 hg w5 hbox hb;have BK264:=am (hbox);have GW264:=am ((Y76:w.heap.size≤gb264));have GE264:=am ((Y76:w.heap.size≤gb264));have NB262_264:=am ((by rw [hg];exact Nat.ne_of_lt (jza (g:=gb262) (o:=.cells #[.slice A0_0 l0_0.length c0_0] 24 (0,0)) (kq BK262.out)):gb262≠gb264));have NB264_262:=am ((by rw [hg];exact Nat.ne_of_gt (jza (g:=gb262) (o:=.cells #[.slice A0_0 l0_0.length c0_0] 24 (0,0)) (kq BK262.out)):gb264≠gb262));have NB263_264:=am ((by rw [hg];exact Nat.ne_of_lt (jza (g:=gb263) (o:=.cells #[.slice none 0 0] 35 (0,0)) (kq BK263.out)):gb263≠gb264));have NB264_263:=am ((by rw [hg];exact Nat.ne_of_gt (jza (g:=gb263) (o:=.cells #[.slice none 0 0] 35 (0,0)) (kq BK263.out)):gb264≠gb263));replace BK262:=am (je (g:=gb262) (o:=.cells #[.slice A0_0 l0_0.length c0_0] 24 (0,0)) (kq BK262.out) hb);replace BK263:=am (je (g:=gb263) (o:=.cells #[.slice none 0 0] 35 (0,0)) (kq BK263.out) hb);replace HB:=am (jc (by repeat (first |(with_reducible first | exact HB.out | apply jk | apply jf | apply jm | refine jl ?_ GE262.out | refine jl ?_ GE263.out) | exact HB.out)) hb);clear hb hbox hg;have hnb6:=NB262_263.out;have hnc6:=NB263_262.out;have hnb7:=NB262_264.out;have hnc7:=NB264_262.out;have hcz8_0:=bc0 BK262.out;have hfz8_0:=ja BK262.out 0) |((with_reducible refine jg (f:=22) rfl ?_);refine gL (some 6) Try.func22 #[.slice A0_0 l0_0.length c0_0] ?_;(with_reducible refine (jCa.calls k _ _ l0_0 t265 _ ?side1 ?side2 A2.out).mono ?_);(case side1=>exact cq (Kd.jF HR0_0.out HB.out));(case side2=>exact HC0_0.out);rintro e w9 ⟨v266,rfl,ho0,hb⟩;refine ⟨_,rfl,?_⟩;have HO267:=am (Kd.jra ho0 (jv (Y58)));replace BK262:=am (je (g:=gb262) (o:=.cells #[.slice A0_0 l0_0.length c0_0] 24 (0,0)) (kq BK262.out) hb);replace BK263:=am (je (g:=gb263) (o:=.cells #[.slice none 0 0] 35 (0,0)) (kq BK263.out) hb);replace BK264:=am (je (g:=gb264) (o:=.cells #[.slice none 0 0] 35 (0,0)) (kq BK264.out) hb);replace HB:=am (jc (Y58) hb);(try clear hb);(try clear hb2);(try clear hk);(try clear hi);(try clear ho0);obtain ⟨Ao10,co10,eo10⟩:=Kd.jga HO267.out;subst eo10;have hnb11:=NB264_263.out;have hnc11:=NB263_264.out;have hcz12_0:=bc0 BK264.out;have hfz12_0:=ja BK264.out 0;have hcz13_0:=bc0 BK263.out;have hfz13_0:=ja BK263.out 0))
 refine bodyPost_ret (results_cell_row rfl _ _ gb263 35 #[.slice Ao10 t265.length co10] (0,0) _ rfl (by (with_reducible repeat (first | refine jL ?_ _ | refine jS ?_ | refine jT ?_ _));refine jub (cs:=#[.slice none 0 0]) ?_ 0 _ rfl;(with_reducible repeat (first | refine jL ?_ _ | refine jS ?_ | refine jT ?_ _));refine jKb ?_ NB263_264.out _;(with_reducible repeat (first | refine jL ?_ _ | refine jS ?_ | refine jT ?_ _));exact BK263.out) Try.underlying35 rfl (by kernel_rfl)) rfl ?_
 exact ⟨_,Y0,by (with_reducible repeat (first | apply Kd.jGa | apply Kd.jKa | apply Kd.jLa));exact Kd.jca (Kd.R_far (p:=⟨gb263,0,none⟩) (Kd.R_far (p:=⟨gb264,0,none⟩) (Kd.R_types (Kd.R_types HO267.out BK264.out (by decide)) BK263.out (by decide)) (fun _ hk=>hk.1.2) (.slice Ao10 t265.length co10)) (fun _ hk=>hk.2) (.slice Ao10 t265.length co10)) (fun _ hk=>trivial),Y58⟩
def juc.f (a0_0 : Int) (a0_1 : Int) (a0_2 : Int) : Option (Int × Int × Int) := some (a0_0, a0_1, a0_2)
set_option maxHeartbeats 8000000 in
set_option maxRecDepth 100000 in
theorem juc.calls (a0_0 : Int) (a0_1 : Int) (a0_2 : Int) (r1 : Int) (r2 : Int) (r3 : Int) (w : World) (h : juc.f a0_0 a0_1 a0_2 = some (r1, r2, r3)) :
  Calls Try.prog 23 #[.agg #[.int .i64 a0_0, .int .i64 a0_1, .int .i64 a0_2]] w fun e w'=>e=.returned (.agg #[.int .i64 r1, .int .i64 r2, .int .i64 r3])∧Below w.heap.size w w':=by
 have hu58:=Try.underlying58
 have hu54:=Try.underlying54
 have HB:=am (Below.refl w.heap.size w)
 have H:(some (a0_0,a0_1,a0_2))=some (r1,r2,r3):=h
 clear h
 simp only [Option.some.injEq,Prod.mk.injEq] at H
 obtain ⟨rfl,rfl,rfl⟩:=H
 go_enter Try.func23,Try.ntmps23
 go_wp2_with (first |((with_reducible refine jB (N:=1) rfl ?_);refine bE (N:=1) (cs:=#[.int .i64 a0_0, .int .i64 a0_1, .int .i64 a0_2]) (t:=58) ?_;intro gb268 hg w2 hbox hb;have BK268:=am (hbox);have GW268:=am ((Y1:w.heap.size≤gb268));have GE268:=am ((Y1:w.heap.size≤gb268));replace HB:=am (jc (bq) hb);clear hb hbox hg) |((with_reducible refine jB (N:=2) rfl ?_);refine bE (N:=2) (cs:=#[.int .i64 0, .int .i64 0, .int .i64 0]) (t:=54) ?_;intro gb269 hg w3 hbox hb;have BK269:=am (hbox);have GW269:=am ((Y77:w.heap.size≤gb269));have GE269:=am ((Y77:w.heap.size≤gb269));have NB268_269:=am ((Y78:gb268≠gb269));have NB269_268:=am ((Y79:gb269≠gb268));replace BK268:=am (je (g:=gb268) (o:=.cells #[.int .i64 a0_0, .int .i64 a0_1, .int .i64 a0_2] 58 (0,0)) (kq BK268.out) hb);replace HB:=am (jc (by repeat (first |(with_reducible first | exact HB.out | apply jk | apply jf | apply jm | refine jl ?_ GE268.out) | exact HB.out)) hb);clear hb hbox hg) |((with_reducible refine jB (N:=3) rfl ?_);refine bE (N:=3) (cs:=#[.int .i64 0, .int .i64 0, .int .i64 0]) (t:=54) ?_;intro gb270 hg w4 hbox hb;have BK270:=am (hbox);have GW270:=am ((Y80:w.heap.size≤gb270));have GE270:=am ((Y80:w.heap.size≤gb270));have NB268_270:=am ((Y78:gb268≠gb270));have NB270_268:=am ((Y79:gb270≠gb268));have NB269_270:=am ((by rw [hg];exact Nat.ne_of_lt (jza (g:=gb269) (o:=.cells #[.int .i64 0, .int .i64 0, .int .i64 0] 54 (0,0)) (kq BK269.out)):gb269≠gb270));have NB270_269:=am ((by rw [hg];exact Nat.ne_of_gt (jza (g:=gb269) (o:=.cells #[.int .i64 0, .int .i64 0, .int .i64 0] 54 (0,0)) (kq BK269.out)):gb270≠gb269));replace BK268:=am (je (g:=gb268) (o:=.cells #[.int .i64 a0_0, .int .i64 a0_1, .int .i64 a0_2] 58 (0,0)) (kq BK268.out) hb);replace BK269:=am (je (g:=gb269) (o:=.cells #[.int .i64 0, .int .i64 0, .int .i64 0] 54 (0,0)) (kq BK269.out) hb);replace HB:=am (jc (by repeat (first |(with_reducible first | exact HB.out | apply jk | apply jf | apply jm | refine jl ?_ GE268.out | refine jl ?_ GE269.out) | exact HB.out)) hb);clear hb hbox hg;have hnb5:=NB268_269.out;have hnc5:=NB269_268.out;have hnb6:=NB268_270.out;have hnc6:=NB270_268.out;have hcz7_0:=bc0 BK268.out;have hcz7_1:=bc1 BK268.out;have hcz7_2:=bc2 BK268.out;have hfz7_0:=ja BK268.out 0;have hfz7_1:=ja BK268.out 1;have hfz7_2:=ja BK268.out 2;have hnb8:=NB270_269.out;have hnc8:=NB269_270.out;have hcz9_0:=bc0 BK270.out;have hcz9_1:=bc1 BK270.out;have hcz9_2:=bc2 BK270.out;have hfz9_0:=ja BK270.out 0;have hfz9_1:=ja BK270.out 1;have hfz9_2:=ja BK270.out 2;have hcz10_0:=bc0 BK269.out;have hcz10_1:=bc1 BK269.out;have hcz10_2:=bc2 BK269.out;have hfz10_0:=ja BK269.out 0;have hfz10_1:=ja BK269.out 1;have hfz10_2:=ja BK269.out 2))
 refine bodyPost_ret (results_cell_row rfl _ _ gb269 54 #[.int .i64 a0_0, .int .i64 a0_1, .int .i64 a0_2] (0,0) _ rfl (by (with_reducible repeat (first | refine jL ?_ _ | refine jS ?_ | refine jT ?_ _));refine jub (cs:=#[.int .i64 a0_0, .int .i64 a0_1, .int .i64 0]) ?_ 2 _ rfl;(with_reducible repeat (first | refine jL ?_ _ | refine jS ?_ | refine jT ?_ _));refine jub (cs:=#[.int .i64 a0_0, .int .i64 0, .int .i64 0]) ?_ 1 _ rfl;(with_reducible repeat (first | refine jL ?_ _ | refine jS ?_ | refine jT ?_ _));refine jub (cs:=#[.int .i64 0, .int .i64 0, .int .i64 0]) ?_ 0 _ rfl;(with_reducible repeat (first | refine jL ?_ _ | refine jS ?_ | refine jT ?_ _));refine jKb ?_ NB269_270.out _;(with_reducible repeat (first | refine jL ?_ _ | refine jS ?_ | refine jT ?_ _));refine jKb ?_ NB269_270.out _;(with_reducible repeat (first | refine jL ?_ _ | refine jS ?_ | refine jT ?_ _));refine jKb ?_ NB269_270.out _;(with_reducible repeat (first | refine jL ?_ _ | refine jS ?_ | refine jT ?_ _));exact BK269.out) Try.underlying54 rfl (by kernel_rfl)) rfl ?_
 exact ⟨Y0,by repeat (first |(with_reducible first | exact HB.out | apply jk | apply jf | apply jm | refine jl ?_ GE268.out | refine jl ?_ GE269.out | refine jl ?_ GE270.out) | exact HB.out)⟩
def jK.l0 : Nat → List (S58) → List (S54) → Int → Option ((List (S54)))
 | 0,_,_,_=>none
 | k+1,x0,x3,x4=>if x4<(x0.length:Int) then (if 0≤x4 then ((juc.f ((jyc x0 x4).f0) ((jyc x0 x4).f1) ((jyc x0 x4).f2)).bind fun bt275=>(if x4<(x3.length:Int) then (jK.l0 k x0 (x3.set (x4:Int).toNat (⟨bt275.1,bt275.2.1,bt275.2.2⟩:S54)) (wrap64 (x4+1))) else (none))) else (none)) else (some x3)
def jK.f (k : Nat) (l0 : List (S58)) : Option ((List (S54))) := if 0 ≤ (l0.length : Int) then (if ((l0.length : Int) : Int).toNat ≤ 11728124029610 then (jK.l0 k l0 (List.replicate ((l0.length : Int) : Int).toNat z54) 0) else (none)) else (none)
set_option maxHeartbeats 8000000 in
set_option maxRecDepth 100000 in
theorem jK.calls (k : Nat) (A0 : Option Addr) (c0 : Nat) (l0 : List (S58)) (r : List (S54)) (w : World) (hr0 : Kd.C k58 w A0 l0.length l0) (hc0 : l0.length ≤ c0) (h : jK.f k l0 = some r) :
  Calls Try.prog 8 #[.slice A0 l0.length c0] w fun e w'=>∃ v0_:Value,e=.returned (v0_)∧Kd.R k54 54 w' w.heap.size (fun _=>True) v0_ r∧Below w.heap.size w w':=by
 have hu58:=Try.underlying58
 have hu54:=Try.underlying54
 have HR0:=am hr0
 have HC0:=am hc0
 clear hr0 hc0
 have HB:=am (Below.refl w.heap.size w)
 have H:(if 0≤(l0.length:Int) then (if ((l0.length:Int):Int).toNat≤11728124029610 then (jK.l0 k l0 (List.replicate ((l0.length:Int):Int).toNat z54) 0) else (none)) else (none))=some r:=h
 clear h
 by_cases c2:0≤(l0.length:Int)
 ·rw [if_pos c2] at H
  have c2b0:=ezT c2
  have c2b1:decide (0≤(l0.length:Int))=true:=dzT c2
  clear c2
  by_cases c3:((l0.length:Int):Int).toNat≤11728124029610
  ·rw [if_pos c3] at H
   have c3b0:=ezT c3
   have c3b1:decide (((l0.length:Int):Int).toNat≤11728124029610)=true:=dzT c3
   clear c3
   obtain ⟨y271,hy271⟩:∃ y_:List (S54),y_=(List.replicate ((l0.length:Int):Int).toNat z54):=⟨_,rfl⟩
   replace H:(jK.l0 k l0 y271 0)=some r:=by first |(rw [hy271];with_reducible exact H) |(have H2_:=(Option.bind_some _ _).symm.trans H;rw [hy271];with_reducible exact H2_) |(have H2_:=(Option.bind_some _ _).symm.trans H;with_reducible exact H2_) | with_reducible exact H |(rw [hy271];exact H) | exact H
   have Ny271:=am hy271
   clear hy271
   have H':=am H
   clear H
   go_enter Try.func8,Try.ntmps8
   go_wp2_with (first |((with_reducible refine jB (N:=7) rfl ?_);refine Kd.R_make k54 _ 54 rfl (N:=7) rfl 37 _ _ rfl (l0.length:Int) rfl rfl Try.underlying37 (.agg #[(.int .i64 0),(.int .i64 0),(.int .i64 0)]) 24 info54 rfl (by decide) (by omega) z54 (ok:=fun _=>True) (okp:=fun _=>True) (k54_mkM _ _ _ z54 ) (fun _ hk=>hk) trivial (ozD (uq)) (Nat.le_trans (Nat.mul_le_mul_right _ (ozD (uq):(l0.length:Int).toNat≤11728124029610)) (by omega)) (Below.refl _ _) (Nat.le_refl _) ?_;intro v272 w4 ho5 hb hg_ hnew_;clear hg_ hnew_;(first | rw [← Ny271.out] at ho5 |(simp only [Int.reduceToNat] at ho5;rw [← Ny271.out] at ho5));have HO273:=am (Kd.jra ho5 (jv (bq)));replace HB:=am (jc (bq) hb);clear hb ho5))
   go_loopg [4] k (fun kq v4 w'=>∃ (x3_1:List (S54)) (x4_1:Int),v4=.int .i64 x4_1∧jq (jK.l0 kq l0 x3_1 x4_1=some r)∧jq (kq≤k)∧jq (Kd.R k54 54 w' w.heap.size (fun _=>True) v272 x3_1)∧jq (Below w.heap.size w w'))
   case atStart=>exact ⟨(y271),(0),(sq),H',⟨Nat.le_refl _⟩,⟨rq HO273.out⟩,⟨bq⟩⟩
   case round =>
    clear H'
    try clear c2
    try clear c2b0
    try clear c2b1
    try clear p2
    try clear c3
    try clear c3b0
    try clear c3b1
    obtain ⟨x3_1,x4_1,rfl,HA,HK1,HO_3,HB⟩:=hrel
    cases gk with
    | zero=>exact absurd HA.out (by simp [jK.l0])
    | succ k1 =>
     have H:=HA.out
     clear HA
     simp only [jK.l0] at H
     by_cases c6:x4_1<(l0.length:Int)
     ·rw [if_pos c6] at H
      have c6b0:decide (x4_1<(l0.length:Int))=true:=dzT c6
      clear c6
      by_cases c7:0≤x4_1
      ·rw [if_pos c7] at H
       have c7b0:decide (0≤x4_1)=true:=dzT c7
       clear c7
       replace H:=bzS H
       obtain ⟨⟨t275,t276,t277⟩,A80,H⟩:=H
       replace H:(if x4_1<(x3_1.length:Int) then (jK.l0 k1 l0 (x3_1.set (x4_1:Int).toNat (⟨t275,t276,t277⟩:S54)) (wrap64 (x4_1+1))) else (none))=some r:=H
       have A8:=am A80
       clear A80
       by_cases c9:x4_1<(x3_1.length:Int)
       ·rw [if_pos c9] at H
        have c9b0:decide (x4_1<(x3_1.length:Int))=true:=dzT c9
        clear c9
        obtain ⟨y278,hy278⟩:∃ y_:List (S54),y_=(x3_1.set (x4_1:Int).toNat (⟨t275,t276,t277⟩:S54)):=⟨_,rfl⟩
        replace H:(jK.l0 k1 l0 y278 (wrap64 (x4_1+1)))=some r:=by first |(rw [hy278];with_reducible exact H) |(have H2_:=(Option.bind_some _ _).symm.trans H;rw [hy278];with_reducible exact H2_) |(have H2_:=(Option.bind_some _ _).symm.trans H;with_reducible exact H2_) | with_reducible exact H |(rw [hy278];exact H) | exact H
        have Ny278:=am hy278
        clear hy278
        have H':=am H
        clear H
        have p274:0≤(x4_1:Int):=ozD (uq)
        have q274:x4_1<(l0.length:Int):=ozD (uq)
        obtain ⟨ad274,e274,hx274_0,hx274_1,hx274_2⟩:=at_T58 HR0.out x4_1 p274 q274
        cases e274
        replace hx274_0:=cb HB.out hx274_0
        replace hx274_1:=cb HB.out hx274_1
        replace hx274_2:=cb HB.out hx274_2
        replace p274:=ezT p274
        replace q274:=ezT q274
        go_wp2_with (first |((with_reducible refine jg (f:=23) rfl ?_);refine gL (some 20) Try.func23 #[.agg #[.int .i64 ((jyc l0 x4_1).f0), .int .i64 ((jyc l0 x4_1).f1), .int .i64 ((jyc l0 x4_1).f2)]] ?_;(with_reducible refine (juc.calls ((jyc l0 x4_1).f0) ((jyc l0 x4_1).f1) ((jyc l0 x4_1).f2) t275 t276 t277 _ A8.out).mono ?_);rintro e w11 ⟨rfl,hb⟩;refine ⟨_,rfl,?_⟩;replace HO_3:=am (Kd.jH (rq HO_3.out) hb);replace HB:=am (jc (bq) hb);(try clear hb);(try clear hb2);(try clear hk);(try clear hi);have p10:0≤(x4_1:Int):=ozD (uq);have q10:(x4_1:Int)<((x3_1.length:Int):Int):=ozD (uq);obtain ⟨go10,co10,eo10,gb10,gl10,cl10,HG10⟩:=Kd.R_form HO_3.out (by omega);(first | cases eo10 |(injection eo10 with ea_ en_ ec_;(first | subst ea_ |(injection ea_ with ea_;subst ea_));subst ec_;clear en_));have GB10:=am gb10;have GG10:=am HG10;clear gb10 gl10 HG10;obtain ⟨ce10,hcl10,hM10,hcc10,hfr10⟩:=Kd.jFb HO_3.out z54 (x4_1:Int) p10 q10;obtain rfl:=jmc hM10;have hx10_0:w11.cell? ⟨go10,(x4_1:Int).toNat * 3,none⟩=some (.int .i64 ((jN x3_1 x4_1).f0)):=hcc10 0 _ rfl;have hx10_1:w11.cell? ⟨go10,(x4_1:Int).toNat * 3+1,none⟩=some (.int .i64 ((jN x3_1 x4_1).f1)):=hcc10 1 _ rfl;have hx10_2:w11.cell? ⟨go10,(x4_1:Int).toNat * 3+2,none⟩=some (.int .i64 ((jN x3_1 x4_1).f2)):=hcc10 2 _ rfl;have hf10_0:w11.frozen? ⟨go10,(x4_1:Int).toNat * 3,none⟩=false:=hfr10 0;have hf10_1:w11.frozen? ⟨go10,(x4_1:Int).toNat * 3+1,none⟩=false:=hfr10 1;have hf10_2:w11.frozen? ⟨go10,(x4_1:Int).toNat * 3+2,none⟩=false:=hfr10 2;clear hcl10 hcc10 hfr10 hM10;replace p10:=ezT p10;replace q10:=ezT q10;have HX12:=am (show Kd.R k54 54 w11 w.heap.size (fun _=>True) (.slice (some ⟨go10,0,none⟩) x3_1.length co10) x3_1 from (rq HO_3.out));obtain ⟨ce12,hcl12,hM12,hcc12,hfr12⟩:=Kd.jFb HX12.out z54 (x4_1:Int) (ozD (uq)) (by have h_:(x4_1:Int)<((x3_1.length:Int):Int):=ozD (uq);first | exact h_ |(have e_:=(Kd.jw HO_3.out).1;omega) | simpa using h_);obtain rfl:=jmc hM12;have HP12:=Kd.R_seg HX12.out (x4_1:Int) (ozD (uq)) (by have h_:(x4_1:Int)<((x3_1.length:Int):Int):=ozD (uq);first | exact h_ |(have e_:=(Kd.jw HO_3.out).1;omega) | simpa using h_) (seg:=[.int .i64 t275, .int .i64 t276, .int .i64 t277]) (j:=0) hcl12 hcc12 (show 3≤3 from by decide) (x':=(⟨t275,t276,t277⟩:S54)) (k54_mkM _ _ _ (⟨t275,t276,t277⟩:S54) ) (fun _ hk=>hk);have hx12_0:=hcc12 0 _ rfl;(try simp only [show (k54).sz=3 from rfl,Nat.mul_one,Nat.add_zero] at hx12_0);have hf12_0:=hfr12 0;(try simp only [show (k54).sz=3 from rfl,Nat.mul_one,Nat.add_zero] at hf12_0);have hx12_1:=hcc12 1 _ rfl;(try simp only [show (k54).sz=3 from rfl,Nat.mul_one,Nat.add_zero] at hx12_1);have hf12_1:=hfr12 1;(try simp only [show (k54).sz=3 from rfl,Nat.mul_one,Nat.add_zero] at hf12_1);have hx12_2:=hcc12 2 _ rfl;(try simp only [show (k54).sz=3 from rfl,Nat.mul_one,Nat.add_zero] at hx12_2);have hf12_2:=hfr12 2;(try simp only [show (k54).sz=3 from rfl,Nat.mul_one,Nat.add_zero] at hf12_2);clear hcl12 hcc12 hfr12 hM12) |((with_reducible refine jpb (t:=54) (p:=21) rfl ?_);refine jhb (t:=54) (p:=21) (v:=?vo_w13) (w1:=(((w11.setCell ⟨go10,(x4_1:Int).toNat * 3,none⟩ (.int .i64 t275)).setCell ⟨go10,(x4_1:Int).toNat * 3+1,none⟩ (.int .i64 t276)).setCell ⟨go10,(x4_1:Int).toNat * 3+2,none⟩ (.int .i64 t277))) ?hg ?ho ?hn ?hr ?_;(case ho=>rfl);(case hg=>rfl);(case hn=>rfl);(case hr=>exact Y4);intro w13 hw;have hg:w11.grownBy w13 (some go10):=(by rw [hw];exact HP12.2);have hp_:Kd.R k54 54 w13 w.heap.size (fun _=>True) (.slice (some ⟨go10,0,none⟩) x3_1.length co10) y278:=(by rw [hw,Ny278.out];exact HP12.1);clear HP12;replace HO_3:=am (hp_);replace HB:=am ((by rw [hw];exact jl (jl (jl (HB.out) GB10.out) GB10.out) GB10.out:Below w.heap.size w w13));clear hg hw hp_))
        go_roundg k1
        case measure=>have:=HK1.out;omega
        case rel=>exact ⟨(y278),(wrap64 (x4_1+1)),(sq),H',⟨by have:=HK1.out;omega⟩,⟨rq HO_3.out⟩,⟨bq⟩⟩
       ·rw [if_neg c9] at H
        exact absurd H (by simp)
      ·rw [if_neg c7] at H
       exact absurd H (by simp)
     ·rw [if_neg c6] at H
      have c6b0:decide (x4_1<(l0.length:Int))=false:=dzF c6
      clear c6
      obtain rfl:=Option.some.inj H
      go_wp2
      go_ret
      exact ⟨_,Y0,rq HO_3.out,bq⟩
  ·rw [if_neg c3] at H
   exact absurd H (by simp)
 ·rw [if_neg c2] at H
  exact absurd H (by simp)
def jia.f (a0_0 : Bool) (a0_1 : Int) (a0_2 : Int) : Option (Bool × Int × Int) := some (a0_0, a0_1, a0_2)
set_option maxHeartbeats 8000000 in
set_option maxRecDepth 100000 in
theorem jia.calls (a0_0 : Bool) (a0_1 : Int) (a0_2 : Int) (r1 : Bool) (r2 : Int) (r3 : Int) (w : World) (h : jia.f a0_0 a0_1 a0_2 = some (r1, r2, r3)) :
  Calls Try.prog 9 #[.agg #[.bool a0_0, .int .i64 a0_1, .int .i64 a0_2]] w fun e w'=>e=.returned (.agg #[.bool r1, .int .i64 r2, .int .i64 r3])∧Below w.heap.size w w':=by
 have hu27:=Try.underlying27
 have hu39:=Try.underlying39
 have HB:=am (Below.refl w.heap.size w)
 have H:(some (a0_0,a0_1,a0_2))=some (r1,r2,r3):=h
 clear h
 simp only [Option.some.injEq,Prod.mk.injEq] at H
 obtain ⟨rfl,rfl,rfl⟩:=H
 go_enter Try.func9,Try.ntmps9
 go_wp2_with (first |((with_reducible refine jB (N:=1) rfl ?_);refine bE (N:=1) (cs:=#[.bool a0_0, .int .i64 a0_1, .int .i64 a0_2]) (t:=27) ?_;intro gb279 hg w2 hbox hb;have BK279:=am (hbox);have GW279:=am ((Y1:w.heap.size≤gb279));have GE279:=am ((Y1:w.heap.size≤gb279));replace HB:=am (jc (bq) hb);clear hb hbox hg) |((with_reducible refine jB (N:=2) rfl ?_);refine bE (N:=2) (cs:=#[.bool false, .int .i64 0, .int .i64 0]) (t:=39) ?_;intro gb280 hg w3 hbox hb;have BK280:=am (hbox);have GW280:=am ((Y81:w.heap.size≤gb280));have GE280:=am ((Y81:w.heap.size≤gb280));have NB279_280:=am ((Y82:gb279≠gb280));have NB280_279:=am ((Y83:gb280≠gb279));replace BK279:=am (je (g:=gb279) (o:=.cells #[.bool a0_0, .int .i64 a0_1, .int .i64 a0_2] 27 (0,0)) (kq BK279.out) hb);replace HB:=am (jc (by repeat (first |(with_reducible first | exact HB.out | apply jk | apply jf | apply jm | refine jl ?_ GE279.out) | exact HB.out)) hb);clear hb hbox hg) |((with_reducible refine jB (N:=3) rfl ?_);refine bE (N:=3) (cs:=#[.bool false, .int .i64 0, .int .i64 0]) (t:=39) ?_;intro gb281 hg w4 hbox hb;have BK281:=am (hbox);have GW281:=am ((Y84:w.heap.size≤gb281));have GE281:=am ((Y84:w.heap.size≤gb281));have NB279_281:=am ((Y82:gb279≠gb281));have NB281_279:=am ((Y83:gb281≠gb279));have NB280_281:=am ((by rw [hg];exact Nat.ne_of_lt (jza (g:=gb280) (o:=.cells #[.bool false, .int .i64 0, .int .i64 0] 39 (0,0)) (kq BK280.out)):gb280≠gb281));have NB281_280:=am ((by rw [hg];exact Nat.ne_of_gt (jza (g:=gb280) (o:=.cells #[.bool false, .int .i64 0, .int .i64 0] 39 (0,0)) (kq BK280.out)):gb281≠gb280));replace BK279:=am (je (g:=gb279) (o:=.cells #[.bool a0_0, .int .i64 a0_1, .int .i64 a0_2] 27 (0,0)) (kq BK279.out) hb);replace BK280:=am (je (g:=gb280) (o:=.cells #[.bool false, .int .i64 0, .int .i64 0] 39 (0,0)) (kq BK280.out) hb);replace HB:=am (jc (by repeat (first |(with_reducible first | exact HB.out | apply jk | apply jf | apply jm | refine jl ?_ GE279.out | refine jl ?_ GE280.out) | exact HB.out)) hb);clear hb hbox hg;have hnb5:=NB279_280.out;have hnc5:=NB280_279.out;have hnb6:=NB279_281.out;have hnc6:=NB281_279.out;have hcz7_0:=bc0 BK279.out;have hcz7_1:=bc1 BK279.out;have hcz7_2:=bc2 BK279.out;have hfz7_0:=ja BK279.out 0;have hfz7_1:=ja BK279.out 1;have hfz7_2:=ja BK279.out 2;have hnb8:=NB281_280.out;have hnc8:=NB280_281.out;have hcz9_0:=bc0 BK281.out;have hcz9_1:=bc1 BK281.out;have hcz9_2:=bc2 BK281.out;have hfz9_0:=ja BK281.out 0;have hfz9_1:=ja BK281.out 1;have hfz9_2:=ja BK281.out 2;have hcz10_0:=bc0 BK280.out;have hcz10_1:=bc1 BK280.out;have hcz10_2:=bc2 BK280.out;have hfz10_0:=ja BK280.out 0;have hfz10_1:=ja BK280.out 1;have hfz10_2:=ja BK280.out 2))
 refine bodyPost_ret (results_cell_row rfl _ _ gb280 39 #[.bool a0_0, .int .i64 a0_1, .int .i64 a0_2] (0,0) _ rfl (by (with_reducible repeat (first | refine jL ?_ _ | refine jS ?_ | refine jT ?_ _));refine jub (cs:=#[.bool a0_0, .int .i64 a0_1, .int .i64 0]) ?_ 2 _ rfl;(with_reducible repeat (first | refine jL ?_ _ | refine jS ?_ | refine jT ?_ _));refine jub (cs:=#[.bool a0_0, .int .i64 0, .int .i64 0]) ?_ 1 _ rfl;(with_reducible repeat (first | refine jL ?_ _ | refine jS ?_ | refine jT ?_ _));refine jub (cs:=#[.bool false, .int .i64 0, .int .i64 0]) ?_ 0 _ rfl;(with_reducible repeat (first | refine jL ?_ _ | refine jS ?_ | refine jT ?_ _));refine jKb ?_ NB280_281.out _;(with_reducible repeat (first | refine jL ?_ _ | refine jS ?_ | refine jT ?_ _));refine jKb ?_ NB280_281.out _;(with_reducible repeat (first | refine jL ?_ _ | refine jS ?_ | refine jT ?_ _));refine jKb ?_ NB280_281.out _;(with_reducible repeat (first | refine jL ?_ _ | refine jS ?_ | refine jT ?_ _));exact BK280.out) Try.underlying39 rfl (by kernel_rfl)) rfl ?_
 exact ⟨Y0,by repeat (first |(with_reducible first | exact HB.out | apply jk | apply jf | apply jm | refine jl ?_ GE279.out | refine jl ?_ GE280.out | refine jl ?_ GE281.out) | exact HB.out)⟩
def jI.f (a0 : Int) (a1 : Int) (a2 : Int) : Option (Bool) := if a0 ≥ a1 then (some (decide (a0 ≤ a2))) else (some false)
set_option maxHeartbeats 8000000 in
set_option maxRecDepth 100000 in
theorem jI.calls (a0 : Int) (a1 : Int) (a2 : Int) (r : Bool) (w : World) (h : jI.f a0 a1 a2 = some r) :
  Calls Try.prog 60 #[.int .i64 a0, .int .i64 a1, .int .i64 a2] w fun e w'=>e=.returned (.bool r)∧jZa w w':=by
 have H:(if a0≥a1 then (some (decide (a0≤a2))) else (some false))=some r:=h
 clear h
 by_cases c4:a0≥a1
 ·rw [if_pos c4] at H
  have c4b0:decide (a1≤a0)=true:=dzT c4
  clear c4
  obtain rfl:=Option.some.inj H
  go_enter Try.func60,Try.ntmps60
  go_wp2
  go_ret
  exact ⟨sq,Y2⟩
 ·rw [if_neg c4] at H
  have c4b0:decide (a1≤a0)=false:=dzF c4
  clear c4
  obtain rfl:=Option.some.inj H
  go_enter Try.func60,Try.ntmps60
  go_wp2
  go_ret
  exact ⟨sq,Y2⟩
def jOa.l0 : Nat → ByteArray → Int → Int → Option (Bool)
 | 0,_,_,_=>none
 | k+1,x0,x5,x6=>if x6<x5 then (if 0≤x6 then (if x6<(x0.size:Int) then (if (bt x0 x6)<97 then (some false) else (if (bt x0 x6) > 122 then (some false) else (jOa.l0 k x0 x5 (wrap64 (x6+1))))) else (none)) else (none)) else ((jI.f (x0.size:Int) 1 6).bind fun t282=>(some t282))
def jOa.f (k : Nat) (a0 : ByteArray) : Option (Bool) := jOa.l0 k a0 (a0.size : Int) 0
set_option maxHeartbeats 8000000 in
set_option maxRecDepth 100000 in
theorem jOa.calls (k : Nat) (a0 : ByteArray) (r : Bool) (w : World) (h : jOa.f k a0 = some r) :
  Calls Try.prog 58 #[.string a0] w fun e w'=>e=.returned (.bool r)∧jZa w w':=by
 have H:(jOa.l0 k a0 (a0.size:Int) 0)=some r:=h
 clear h
 have H':=am H
 clear H
 go_enter Try.func58,Try.ntmps58
 go_wp2
 go_loopg [6] k (fun kq v6 w'=>∃ (x6_1:Int),v6=.int .i64 x6_1∧jq (jOa.l0 kq a0 (a0.size:Int) x6_1=some r)∧jq (kq≤k)∧jZa w w')
 case atStart=>exact ⟨(0),(sq),H',⟨Nat.le_refl _⟩,Y2⟩
 case round =>
  clear H'
  obtain ⟨x6_1,rfl,HA,HK1,⟨m1,rfl⟩⟩:=hrel
  cases gk with
  | zero=>exact absurd HA.out (by simp [jOa.l0])
  | succ k1 =>
   have H:=HA.out
   clear HA
   simp only [jOa.l0] at H
   by_cases c2:x6_1<(a0.size:Int)
   ·rw [if_pos c2] at H
    have c2b0:decide (x6_1<(a0.size:Int))=true:=dzT c2
    clear c2
    by_cases c3:0≤x6_1
    ·rw [if_pos c3] at H
     have c3b0:decide (0≤x6_1)=true:=dzT c3
     clear c3
     by_cases c4:x6_1<(a0.size:Int)
     ·rw [if_pos c4] at H
      have c4b0:decide (x6_1<(a0.size:Int))=true:=dzT c4
      clear c4
      by_cases c6:(bt a0 x6_1)<97
      ·rw [if_pos c6] at H
       have c6b0:decide ((bt a0 x6_1)<97)=true:=dzT c6
       clear c6
       obtain rfl:=Option.some.inj H
       have p5:0≤(x6_1:Int):=ozD (uq)
       have q5:x6_1<(a0.size:Int):=ozD (uq)
       have hx5:=bt_at a0 x6_1
       replace p5:=ezT p5
       replace q5:=ezT q5
       go_wp2
       go_ret
       exact ⟨sq,Y2⟩
      ·rw [if_neg c6] at H
       have c6b0:decide ((bt a0 x6_1)<97)=false:=dzF c6
       clear c6
       by_cases c8:(bt a0 x6_1) > 122
       ·rw [if_pos c8] at H
        have c8b0:decide (122<(bt a0 x6_1))=true:=dzT c8
        clear c8
        obtain rfl:=Option.some.inj H
        have p5:0≤(x6_1:Int):=ozD (uq)
        have q5:x6_1<(a0.size:Int):=ozD (uq)
        have hx5:=bt_at a0 x6_1
        replace p5:=ezT p5
        replace q5:=ezT q5
        have p7:0≤(x6_1:Int):=ozD (uq)
        have q7:x6_1<(a0.size:Int):=ozD (uq)
        have hx7:=bt_at a0 x6_1
        replace p7:=ezT p7
        replace q7:=ezT q7
        go_wp2
        go_ret
        exact ⟨sq,Y2⟩
       ·rw [if_neg c8] at H
        have c8b0:decide (122<(bt a0 x6_1))=false:=dzF c8
        clear c8
        have H':=am H
        clear H
        have p5:0≤(x6_1:Int):=ozD (uq)
        have q5:x6_1<(a0.size:Int):=ozD (uq)
        have hx5:=bt_at a0 x6_1
        replace p5:=ezT p5
        replace q5:=ezT q5
        have p7:0≤(x6_1:Int):=ozD (uq)
        have q7:x6_1<(a0.size:Int):=ozD (uq)
        have hx7:=bt_at a0 x6_1
        replace p7:=ezT p7
        replace q7:=ezT q7
        go_wp2
        go_roundg k1
        case measure=>have:=HK1.out;omega
        case rel=>exact ⟨(wrap64 (x6_1+1)),(sq),H',⟨by have:=HK1.out;omega⟩,Y2⟩
     ·rw [if_neg c4] at H
      exact absurd H (by simp)
    ·rw [if_neg c3] at H
     exact absurd H (by simp)
   ·rw [if_neg c2] at H
    have c2b0:decide (x6_1<(a0.size:Int))=false:=dzF c2
    clear c2
    replace H:=bzS H
    obtain ⟨t282,A90,H⟩:=H
    replace H:(some t282)=some r:=H
    have A9:=am A90
    clear A90
    obtain rfl:=Option.some.inj H
    go_wp2_with (first |((with_reducible refine jg (f:=60) rfl ?_);refine gL (some 22) Try.func60 #[.int .i64 (a0.size:Int), .int .i64 1, .int .i64 6] ?_;(with_reducible refine (jI.calls (a0.size:Int) 1 6 t282 _ A9.out).mono ?_);rintro e w' ⟨rfl,⟨nd,rfl⟩⟩;refine ⟨_,rfl,?_⟩))
    go_ret
    exact ⟨sq,Y2⟩

theorem impl_named1_calls (a b : ByteArray) (p : Int) (B : Nat) (w : World) (hB : B < w.heap.size) (hc : w.cell? ⟨B, 0, none⟩ = some (.string b)) :
  Calls Try.prog 75 #[.agg #[.string a, .int .i64 p], .pointer (some ⟨B,0,none⟩)] w fun e w'=>e=.returned (.bool (a.toList == b.toList))∧Below w.heap.size w w':=by
 have hne:B≠w.heap.size:=by omega
 go_enter Try.func75,Try.ntmps75
 go_wp2
 go_ret
 exact ⟨rfl,(Below.refl _ _).alloc (Nat.le_refl _) _⟩
set_option maxHeartbeats 8000000 in
set_option maxRecDepth 100000 in
theorem impl_named_idx (A_ : Option Addr) (c_ : Nat) (l : List (S75)) (B0_ : Nat) (p : S75 → Option Bool) (r : Int) (w : World) (hr : Kd.C k75 w A_ l.length l) (h : idxFrom p l 0 = some r)
  (hp:∀ W,Below w.heap.size w W→∀ (x:S75) (b:Bool),p x=some b→Calls Try.prog 75 #[.agg #[.string x.f0, .int .i64 x.f1], .pointer (some ⟨B0_,0,none⟩)] W fun e w'=>e=.returned (.bool b)∧Below W.heap.size W w') :
  Calls Try.prog 74 #[.slice A_ l.length c_, .func (.func 75) #[] #[.pointer (some ⟨B0_,0,none⟩)]] w fun e w'=>e=.returned (.int .i64 r)∧Below w.heap.size w w':=by
 have hm:l.length≤9223372036854775807:=Kd.C_max hr
 have HR:=am hr
 have HP:=am hp
 have H0:=am h
 clear hr hp h
 go_enter Try.func74,Try.ntmps74
 go_wp2
 go_loopw [5,8] (fun i5 i8 wr=>∃ k:Nat,k≤l.length∧i8=.int .i64 k∧jq (idxFrom p (l.drop k) k=some r)∧Below w.heap.size w wr) (fun _ i8 _=>l.length - (intOf i8).toNat)
 case atStart=>exact ⟨0,Nat.zero_le _,rfl,H0,Below.refl _ _⟩
 case round =>
  clear H0
  obtain ⟨k,hk,rfl,HA,hb⟩:=hrel
  by_cases hlt:k<l.length
  ·have HB:=am (idxFrom_step hlt HA.out)
   clear HA
   obtain ⟨ad,rfl,hx0,hx1⟩:=at_T75 HR.out (k:Int) (by omega) (by omega)
   have hrd:jM l (k:Int)=l[k]:=by simp [jM,List.getD_eq_getElem?_getD,hlt]
   replace hx0:=jha hb hx0
   replace hx1:=jha hb hx1
   rw [hrd] at hx0 hx1
   simp only [Int.toNat_natCast] at hx0 hx1
   clear hrd
   obtain ⟨b,hb1,hb0⟩:=HB.out
   have HQ:=am hb1
   clear hb1 HB
   cases b with
   | true =>
    have HZ:=am (by simpa using hb0:(k:Int)=r)
    clear hb0
    go_wp2_with (go_at_call 75;refine (HP.out _ hb _ _ HQ.out).mono ?_;rintro e w' ⟨rfl,hb2⟩)
    go_ret
    exact ⟨by rw [← HZ.out];rfl,jU hb hb.size hb2⟩
   | false =>
    have HZ:=am (by simpa using hb0:idxFrom p (l.drop (k+1)) (k+1)=some r)
    clear hb0
    go_wp2_with (go_at_call 75;refine (HP.out _ hb _ _ HQ.out).mono ?_;rintro e w' ⟨rfl,hb2⟩)
    go_roundw
    case rel=>exact ⟨k+1,hlt,by go_num,HZ,jU hb hb.size hb2⟩
    case measure=>simp [intOf];omega
  ·have HZ:=am (idxFrom_end (by omega) HA.out)
   clear HA
   go_wp2
   go_ret
   exact ⟨by rw [HZ.out];rfl,hb⟩
def jSa.f (l0_0 : List S75) (a1 : ByteArray) : Option Int := idxFrom (fun x : S75 => some (x.f0.toList == a1.toList)) l0_0 0
set_option maxHeartbeats 8000000 in
set_option maxRecDepth 100000 in
theorem jSa.calls (A0_0 : Option Addr) (c0_0 : Nat) (l0_0 : List (S75)) (a1 : ByteArray) (r : Int) (w : World) (hr0_0 : Kd.C k75 w A0_0 l0_0.length l0_0) (hc0_0 : l0_0.length ≤ c0_0) (h : jSa.f l0_0 a1 = some r) :
  Calls Try.prog 59 #[.agg #[.slice A0_0 l0_0.length c0_0], .string a1] w fun e w'=>e=.returned (.int .i64 r)∧Below w.heap.size w w':=by
 have hu35:=Try.underlying35
 have HF:=am (fun W (hb:Below w.heap.size w W) (B:Nat) (hB:B<W.heap.size) (hc:W.cell? ⟨B,0,none⟩=some (.string a1))=>impl_named_idx A0_0 c0_0 l0_0 B (fun x:S75=>some (x.f0.toList == a1.toList)) r W (Kd.jF hr0_0 hb) h (fun W' hb' x b hx=>by
  obtain rfl:=Option.some.inj hx
  exact impl_named1_calls x.f0 a1 x.f1 B W' (Nat.lt_of_lt_of_le hB hb'.size) (jha hb' hc)))
 clear h hr0_0
 go_enter Try.func59,Try.ntmps59
 go_wp2_with (go_at_call 74;refine (HF.out _ (((Below.refl _ _).alloc (Nat.le_refl _) _).alloc (by simp) _) _ (by simp) (by simp)).mono ?_;rintro e w' ⟨rfl,hb2⟩)
 go_ret
 exact ⟨rfl,(((Below.refl _ _).alloc (Nat.le_refl _) _).alloc (by simp) _).trans (hb2.mono (by simp;omega))⟩
mutual
def jA.l0 : Nat → List (S75) → Int → Int → List (S75) → Option (Bool)
 | 0,_,_,_,_=>none
 | k+1,x6,x7,x8,x284000=>if x8<x7 then (if 0≤x8 then (if x8<(x6.length:Int) then ((jOa.f k ((jM x6 x8).f0)).bind fun t287=>(if t287=true then ((jSa.f x284000 ((jM x6 x8).f0)).bind fun t288=>(if t288=x8 then (if x8=0 then (if ((jM x6 x8).f1)=(-1) then (if x8 > 0 then ((jI.f ((jM x6 x8).f1) 0 (wrap64 (x8 - 1))).bind fun t289=>(jA.j1 k x6 x7 x8 (!t289) x284000)) else (jA.j1 k x6 x7 x8 false x284000)) else (jA.j1 k x6 x7 x8 true x284000)) else (if x8 > 0 then ((jI.f ((jM x6 x8).f1) 0 (wrap64 (x8 - 1))).bind fun t290=>(jA.j1 k x6 x7 x8 (!t290) x284000)) else (jA.j1 k x6 x7 x8 false x284000))) else (jA.j1 k x6 x7 x8 true x284000))) else (jA.j1 k x6 x7 x8 true x284000))) else (none)) else (none)) else ((jI.f (x284000.length:Int) 1 8).bind fun t284=>(some t284))
def jA.j1 : Nat → List (S75) → Int → Int → Bool → List (S75) → Option (Bool)
 | 0,_,_,_,_,_=>none
 | k+1,x6,x7,x8,x45,x284000=>if x45=true then (some false) else (jA.l0 k x6 x7 (wrap64 (x8+1)) x284000)
end
def jA.f (k : Nat) (l0_0 : List (S75)) : Option (Bool) := jA.l0 k l0_0 (l0_0.length : Int) 0 l0_0
set_option maxHeartbeats 8000000 in
set_option maxRecDepth 100000 in
theorem jA.calls (k : Nat) (A0_0 : Option Addr) (c0_0 : Nat) (l0_0 : List (S75)) (r : Bool) (w : World) (hr0_0 : Kd.C k75 w A0_0 l0_0.length l0_0) (hc0_0 : l0_0.length ≤ c0_0) (h : jA.f k l0_0 = some r) :
  Calls Try.prog 39 #[.agg #[.slice A0_0 l0_0.length c0_0]] w fun e w'=>e=.returned (.bool r)∧Below w.heap.size w w':=by
 have hu35:=Try.underlying35
 have hu75:=Try.underlying75
 have HR0_0:=am hr0_0
 have HC0_0:=am hc0_0
 clear hr0_0 hc0_0
 have HB:=am (Below.refl w.heap.size w)
 have H:(jA.l0 k l0_0 (l0_0.length:Int) 0 l0_0)=some r:=h
 clear h
 have H':=am H
 clear H
 go_enter Try.func39,Try.ntmps39
 go_wp2_with (first |((with_reducible refine jB (N:=1) rfl ?_);refine bE (N:=1) (cs:=#[.slice A0_0 l0_0.length c0_0]) (t:=35) ?_;intro gb283 hg w2 hbox hb;have BK283:=am (hbox);have GW283:=am ((Y1:w.heap.size≤gb283));have GE283:=am ((Y1:w.heap.size≤gb283));replace HB:=am (jc (bq) hb);clear hb hbox hg;have hcz3_0:=bc0 BK283.out;have hfz3_0:=ja BK283.out 0))
 go_loopg [8] k (fun kq v8 w'=>∃ (x8_1:Int),v8=.int .i64 x8_1∧jq (jA.l0 kq l0_0 (l0_0.length:Int) x8_1 l0_0=some r)∧jq (kq≤k)∧jq (w'.heap[gb283]?=some (.cells #[(.slice A0_0 l0_0.length c0_0)] 35 (0,0)))∧jq (Below w.heap.size w w'))
 case atStart=>exact ⟨(0),(sq),H',⟨Nat.le_refl _⟩,⟨kq BK283.out⟩,⟨Y59⟩⟩
 case round =>
  clear H'
  try clear p2
  try clear c3
  try clear hcz3_0
  try clear hfz3_0
  obtain ⟨x8_1,rfl,HA,HK1,BK283,HB⟩:=hrel
  cases gk with
  | zero=>exact absurd HA.out (by simp [jA.l0])
  | succ k1 =>
   have H:=HA.out
   clear HA
   simp only [jA.l0] at H
   by_cases c4:x8_1<(l0_0.length:Int)
   ·rw [if_pos c4] at H
    have c4b0:decide (x8_1<(l0_0.length:Int))=true:=dzT c4
    clear c4
    by_cases c5:0≤x8_1
    ·rw [if_pos c5] at H
     have c5b0:decide (0≤x8_1)=true:=dzT c5
     clear c5
     by_cases c6:x8_1<(l0_0.length:Int)
     ·rw [if_pos c6] at H
      have c6b0:decide (x8_1<(l0_0.length:Int))=true:=dzT c6
      clear c6
      have HC7:=am H
      clear H
      have p285:0≤(x8_1:Int):=ozD (uq)
      have q285:x8_1<(l0_0.length:Int):=ozD (uq)
      obtain ⟨ad285,e285,hx285_0,hx285_1⟩:=at_T75 HR0_0.out x8_1 p285 q285
      cases e285
      replace hx285_0:=cb HB.out hx285_0
      replace hx285_1:=cb HB.out hx285_1
      replace p285:=ezT p285
      replace q285:=ezT q285
      go_upto_region 4 with (first |((with_reducible refine jB (N:=4) rfl ?_);refine bE (N:=4) (cs:=#[.string (⟨#[]⟩:ByteArray), .int .i64 0]) (t:=75) ?_;intro gb286 hg w8 hbox hb;have BK286:=am (hbox);have GW286:=am ((Y85:w.heap.size≤gb286));have GE286:=am ((Y85:w.heap.size≤gb286));have NB283_286:=am ((by rw [hg];exact Nat.ne_of_lt (jza (g:=gb283) (o:=.cells #[.slice (some ad285) l0_0.length c0_0] 35 (0,0)) (kq BK283.out)):gb283≠gb286));have NB286_283:=am ((by rw [hg];exact Nat.ne_of_gt (jza (g:=gb283) (o:=.cells #[.slice (some ad285) l0_0.length c0_0] 35 (0,0)) (kq BK283.out)):gb286≠gb283));replace BK283:=am (je (g:=gb283) (o:=.cells #[.slice (some ad285) l0_0.length c0_0] 35 (0,0)) (kq BK283.out) hb);replace HB:=am (jc (Y59) hb);clear hb hbox hg;have hnb9:=NB286_283.out;have hnc9:=NB283_286.out;have hcz10_0:=bc0 BK286.out;have hcz10_1:=bc1 BK286.out;have hfz10_0:=ja BK286.out 0;have hfz10_1:=ja BK286.out 1))
      (try simp only [Act.put,List.setIfInBounds_toArray,List.set_cons_zero,List.set_cons_succ])
      go_cut [45] (fun v45 wc=>∃ (kq:Nat) (x45_6:Bool),v45=.bool x45_6∧jq (jA.j1 kq l0_0 (l0_0.length:Int) x8_1 x45_6 l0_0=some r)∧jq (kq≤k1)∧jq (wc.heap[gb283]?=some (.cells #[(.slice (some ad285) l0_0.length c0_0)] 35 (0,0)))∧jq (wc.heap[gb286]?=some (.cells #[.string ((jM l0_0 x8_1).f0), .int .i64 ((jM l0_0 x8_1).f1)] 75 (0,0)))∧jq (Below w.heap.size w wc))
      case first =>
       have H:=HC7.out
       clear HC7
       replace H:=bzS H
       obtain ⟨t287,A110,H⟩:=H
       replace H:(if t287=true then ((jSa.f l0_0 ((jM l0_0 x8_1).f0)).bind fun t288=>(if t288=x8_1 then (if x8_1=0 then (if ((jM l0_0 x8_1).f1)=(-1) then (if x8_1 > 0 then ((jI.f ((jM l0_0 x8_1).f1) 0 (wrap64 (x8_1 - 1))).bind fun t289=>(jA.j1 k1 l0_0 (l0_0.length:Int) x8_1 (!t289) l0_0)) else (jA.j1 k1 l0_0 (l0_0.length:Int) x8_1 false l0_0)) else (jA.j1 k1 l0_0 (l0_0.length:Int) x8_1 true l0_0)) else (if x8_1 > 0 then ((jI.f ((jM l0_0 x8_1).f1) 0 (wrap64 (x8_1 - 1))).bind fun t290=>(jA.j1 k1 l0_0 (l0_0.length:Int) x8_1 (!t290) l0_0)) else (jA.j1 k1 l0_0 (l0_0.length:Int) x8_1 false l0_0))) else (jA.j1 k1 l0_0 (l0_0.length:Int) x8_1 true l0_0))) else (jA.j1 k1 l0_0 (l0_0.length:Int) x8_1 true l0_0))=some r:=H
       have A11:=am A110
       clear A110
       by_cases c12:t287=true
       ·subst c12
        have H1:((jSa.f l0_0 ((jM l0_0 x8_1).f0)).bind fun t288=>(if t288=x8_1 then (if x8_1=0 then (if ((jM l0_0 x8_1).f1)=(-1) then (if x8_1 > 0 then ((jI.f ((jM l0_0 x8_1).f1) 0 (wrap64 (x8_1 - 1))).bind fun t289=>(jA.j1 k1 l0_0 (l0_0.length:Int) x8_1 (!t289) l0_0)) else (jA.j1 k1 l0_0 (l0_0.length:Int) x8_1 false l0_0)) else (jA.j1 k1 l0_0 (l0_0.length:Int) x8_1 true l0_0)) else (if x8_1 > 0 then ((jI.f ((jM l0_0 x8_1).f1) 0 (wrap64 (x8_1 - 1))).bind fun t290=>(jA.j1 k1 l0_0 (l0_0.length:Int) x8_1 (!t290) l0_0)) else (jA.j1 k1 l0_0 (l0_0.length:Int) x8_1 false l0_0))) else (jA.j1 k1 l0_0 (l0_0.length:Int) x8_1 true l0_0)))=some r:=by rw [if_pos rfl] at H;exact H
        clear H
        have H:=H1
        clear H1
        replace H:=bzS H
        obtain ⟨t288,A130,H⟩:=H
        replace H:(if t288=x8_1 then (if x8_1=0 then (if ((jM l0_0 x8_1).f1)=(-1) then (if x8_1 > 0 then ((jI.f ((jM l0_0 x8_1).f1) 0 (wrap64 (x8_1 - 1))).bind fun t289=>(jA.j1 k1 l0_0 (l0_0.length:Int) x8_1 (!t289) l0_0)) else (jA.j1 k1 l0_0 (l0_0.length:Int) x8_1 false l0_0)) else (jA.j1 k1 l0_0 (l0_0.length:Int) x8_1 true l0_0)) else (if x8_1 > 0 then ((jI.f ((jM l0_0 x8_1).f1) 0 (wrap64 (x8_1 - 1))).bind fun t290=>(jA.j1 k1 l0_0 (l0_0.length:Int) x8_1 (!t290) l0_0)) else (jA.j1 k1 l0_0 (l0_0.length:Int) x8_1 false l0_0))) else (jA.j1 k1 l0_0 (l0_0.length:Int) x8_1 true l0_0))=some r:=H
        have A13:=am A130
        clear A130
        by_cases c14:t288=x8_1
        ·rw [if_pos c14] at H
         have c14b0:(t288 == x8_1)=true:=beq_iff_eq.mpr c14
         have c14b1:(t288 != x8_1)=false:=bne_eq_false_iff_eq.mpr c14
         clear c14
         (first | rw [c14b0] |(simp only [jcb,jdb];rw [c14b0]) | skip)
         by_cases c15:x8_1=0
         ·rw [if_pos c15] at H
          have c15b0:(x8_1 == 0)=true:=beq_iff_eq.mpr c15
          have c15b1:(x8_1 != 0)=false:=bne_eq_false_iff_eq.mpr c15
          clear c15
          by_cases c16:((jM l0_0 x8_1).f1)=(-1)
          ·rw [if_pos c16] at H
           have c16b0:(((jM l0_0 x8_1).f1) == (-1))=true:=beq_iff_eq.mpr c16
           have c16b1:(((jM l0_0 x8_1).f1) != (-1))=false:=bne_eq_false_iff_eq.mpr c16
           clear c16
           by_cases c17:x8_1 > 0
           ·rw [if_pos c17] at H
            have c17b0:decide (0<x8_1)=true:=dzT c17
            clear c17
            replace H:=bzS H
            obtain ⟨t289,A180,H⟩:=H
            replace H:(jA.j1 k1 l0_0 (l0_0.length:Int) x8_1 (!t289) l0_0)=some r:=H
            have A18:=am A180
            clear A180
            have H':=am H
            clear H
            have hnb19:=NB286_283.out
            have hnc19:=NB283_286.out
            have hcz20_0:=bc0 BK286.out
            have hcz20_1:=bc1 BK286.out
            have hfz20_0:=ja BK286.out 0
            have hfz20_1:=ja BK286.out 1
            go_wp2_with (first |((with_reducible refine jg (f:=58) rfl ?_);refine gL (some 15) Try.func58 #[.string ((jM l0_0 x8_1).f0)] ?_;(with_reducible refine (jOa.calls k1 ((jM l0_0 x8_1).f0) true _ A11.out).mono ?_);rintro e w' ⟨rfl,⟨nd,rfl⟩⟩;refine ⟨_,rfl,?_⟩;have hcz21_0:=bc0 BK283.out;have hfz21_0:=ja BK283.out 0) |(go_at_call 59;(with_reducible refine (jSa.calls _ _ l0_0 ((jM l0_0 x8_1).f0) t288 _ ?side1 ?side2 A13.out).mono ?_);(case side1=>exact Kd.jF HR0_0.out (Y8));(case side2=>exact HC0_0.out);rintro e w22 ⟨rfl,hb⟩;replace BK283:=am (je (g:=gb283) (o:=.cells #[.slice (some ad285) l0_0.length c0_0] 35 (0,0)) (Y25) hb);replace BK286:=am (je (g:=gb286) (o:=.cells #[.string ((jM l0_0 x8_1).f0), .int .i64 ((jM l0_0 x8_1).f1)] 75 (0,0)) (Y26) hb);replace HB:=am (jc (Y8) hb);(try clear hb);(try clear hb2);(try clear hk);(try clear hi);have hcz23_0:=bc0 BK286.out;have hcz23_1:=bc1 BK286.out;have hfz23_0:=ja BK286.out 0;have hfz23_1:=ja BK286.out 1) |(go_at_call 60;(with_reducible refine (jI.calls ((jM l0_0 x8_1).f1) 0 (wrap64 (x8_1 - 1)) t289 _ A18.out).mono ?_);rintro e w' ⟨rfl,⟨nd,rfl⟩⟩))
            go_meet
            case rel=>exact ⟨_,(!t289),(sq),H',⟨by have:=HK1.out;first | omega | exact Nat.le_refl _⟩,⟨kq BK283.out⟩,⟨kq BK286.out⟩,⟨Y8⟩⟩
           ·rw [if_neg c17] at H
            have c17b0:decide (0<x8_1)=false:=dzF c17
            clear c17
            have H':=am H
            clear H
            have hnb24:=NB286_283.out
            have hnc24:=NB283_286.out
            have hcz25_0:=bc0 BK286.out
            have hcz25_1:=bc1 BK286.out
            have hfz25_0:=ja BK286.out 0
            have hfz25_1:=ja BK286.out 1
            go_wp2_with (first |((with_reducible refine jg (f:=58) rfl ?_);refine gL (some 15) Try.func58 #[.string ((jM l0_0 x8_1).f0)] ?_;(with_reducible refine (jOa.calls k1 ((jM l0_0 x8_1).f0) true _ A11.out).mono ?_);rintro e w' ⟨rfl,⟨nd,rfl⟩⟩;refine ⟨_,rfl,?_⟩;have hcz26_0:=bc0 BK283.out;have hfz26_0:=ja BK283.out 0) |(go_at_call 59;(with_reducible refine (jSa.calls _ _ l0_0 ((jM l0_0 x8_1).f0) t288 _ ?side1 ?side2 A13.out).mono ?_);(case side1=>exact Kd.jF HR0_0.out (Y8));(case side2=>exact HC0_0.out);rintro e w27 ⟨rfl,hb⟩;replace BK283:=am (je (g:=gb283) (o:=.cells #[.slice (some ad285) l0_0.length c0_0] 35 (0,0)) (Y25) hb);replace BK286:=am (je (g:=gb286) (o:=.cells #[.string ((jM l0_0 x8_1).f0), .int .i64 ((jM l0_0 x8_1).f1)] 75 (0,0)) (Y26) hb);replace HB:=am (jc (Y8) hb);(try clear hb);(try clear hb2);(try clear hk);(try clear hi);have hcz28_0:=bc0 BK286.out;have hcz28_1:=bc1 BK286.out;have hfz28_0:=ja BK286.out 0;have hfz28_1:=ja BK286.out 1))
            go_meet
            case rel=>exact ⟨_,(false),(sq),H',⟨by have:=HK1.out;first | omega | exact Nat.le_refl _⟩,⟨kq BK283.out⟩,⟨kq BK286.out⟩,⟨Y8⟩⟩
          ·rw [if_neg c16] at H
           have c16b0:(((jM l0_0 x8_1).f1) == (-1))=false:=beq_eq_false_iff_ne.mpr c16
           have c16b1:(((jM l0_0 x8_1).f1) != (-1))=true:=bne_iff_ne.mpr c16
           have H':=am H
           clear H
           have hnb29:=NB286_283.out
           have hnc29:=NB283_286.out
           have hcz30_0:=bc0 BK286.out
           have hcz30_1:=bc1 BK286.out
           have hfz30_0:=ja BK286.out 0
           have hfz30_1:=ja BK286.out 1
           go_wp2_with (first |((with_reducible refine jg (f:=58) rfl ?_);refine gL (some 15) Try.func58 #[.string ((jM l0_0 x8_1).f0)] ?_;(with_reducible refine (jOa.calls k1 ((jM l0_0 x8_1).f0) true _ A11.out).mono ?_);rintro e w' ⟨rfl,⟨nd,rfl⟩⟩;refine ⟨_,rfl,?_⟩;have hcz31_0:=bc0 BK283.out;have hfz31_0:=ja BK283.out 0) |(go_at_call 59;(with_reducible refine (jSa.calls _ _ l0_0 ((jM l0_0 x8_1).f0) t288 _ ?side1 ?side2 A13.out).mono ?_);(case side1=>exact Kd.jF HR0_0.out (Y8));(case side2=>exact HC0_0.out);rintro e w32 ⟨rfl,hb⟩;replace BK283:=am (je (g:=gb283) (o:=.cells #[.slice (some ad285) l0_0.length c0_0] 35 (0,0)) (Y25) hb);replace BK286:=am (je (g:=gb286) (o:=.cells #[.string ((jM l0_0 x8_1).f0), .int .i64 ((jM l0_0 x8_1).f1)] 75 (0,0)) (Y26) hb);replace HB:=am (jc (Y8) hb);(try clear hb);(try clear hb2);(try clear hk);(try clear hi);have hcz33_0:=bc0 BK286.out;have hcz33_1:=bc1 BK286.out;have hfz33_0:=ja BK286.out 0;have hfz33_1:=ja BK286.out 1))
           go_meet
           case rel=>exact ⟨_,(true),(sq),H',⟨by have:=HK1.out;first | omega | exact Nat.le_refl _⟩,⟨kq BK283.out⟩,⟨kq BK286.out⟩,⟨Y8⟩⟩
         ·rw [if_neg c15] at H
          have c15b0:(x8_1 == 0)=false:=beq_eq_false_iff_ne.mpr c15
          have c15b1:(x8_1 != 0)=true:=bne_iff_ne.mpr c15
          by_cases c34:x8_1 > 0
          ·rw [if_pos c34] at H
           have c34b0:decide (0<x8_1)=true:=dzT c34
           clear c34
           replace H:=bzS H
           obtain ⟨t290,A350,H⟩:=H
           replace H:(jA.j1 k1 l0_0 (l0_0.length:Int) x8_1 (!t290) l0_0)=some r:=H
           have A35:=am A350
           clear A350
           have H':=am H
           clear H
           have hnb36:=NB286_283.out
           have hnc36:=NB283_286.out
           have hcz37_0:=bc0 BK286.out
           have hcz37_1:=bc1 BK286.out
           have hfz37_0:=ja BK286.out 0
           have hfz37_1:=ja BK286.out 1
           go_wp2_with (first |((with_reducible refine jg (f:=58) rfl ?_);refine gL (some 15) Try.func58 #[.string ((jM l0_0 x8_1).f0)] ?_;(with_reducible refine (jOa.calls k1 ((jM l0_0 x8_1).f0) true _ A11.out).mono ?_);rintro e w' ⟨rfl,⟨nd,rfl⟩⟩;refine ⟨_,rfl,?_⟩;have hcz38_0:=bc0 BK283.out;have hfz38_0:=ja BK283.out 0) |(go_at_call 59;(with_reducible refine (jSa.calls _ _ l0_0 ((jM l0_0 x8_1).f0) t288 _ ?side1 ?side2 A13.out).mono ?_);(case side1=>exact Kd.jF HR0_0.out (Y8));(case side2=>exact HC0_0.out);rintro e w39 ⟨rfl,hb⟩;replace BK283:=am (je (g:=gb283) (o:=.cells #[.slice (some ad285) l0_0.length c0_0] 35 (0,0)) (Y25) hb);replace BK286:=am (je (g:=gb286) (o:=.cells #[.string ((jM l0_0 x8_1).f0), .int .i64 ((jM l0_0 x8_1).f1)] 75 (0,0)) (Y26) hb);replace HB:=am (jc (Y8) hb);(try clear hb);(try clear hb2);(try clear hk);(try clear hi);have hcz40_0:=bc0 BK286.out;have hcz40_1:=bc1 BK286.out;have hfz40_0:=ja BK286.out 0;have hfz40_1:=ja BK286.out 1) |(go_at_call 60;(with_reducible refine (jI.calls ((jM l0_0 x8_1).f1) 0 (wrap64 (x8_1 - 1)) t290 _ A35.out).mono ?_);rintro e w' ⟨rfl,⟨nd,rfl⟩⟩))
           go_meet
           case rel=>exact ⟨_,(!t290),(sq),H',⟨by have:=HK1.out;first | omega | exact Nat.le_refl _⟩,⟨kq BK283.out⟩,⟨kq BK286.out⟩,⟨Y8⟩⟩
          ·rw [if_neg c34] at H
           have c34b0:decide (0<x8_1)=false:=dzF c34
           clear c34
           have H':=am H
           clear H
           have hnb41:=NB286_283.out
           have hnc41:=NB283_286.out
           have hcz42_0:=bc0 BK286.out
           have hcz42_1:=bc1 BK286.out
           have hfz42_0:=ja BK286.out 0
           have hfz42_1:=ja BK286.out 1
           go_wp2_with (first |((with_reducible refine jg (f:=58) rfl ?_);refine gL (some 15) Try.func58 #[.string ((jM l0_0 x8_1).f0)] ?_;(with_reducible refine (jOa.calls k1 ((jM l0_0 x8_1).f0) true _ A11.out).mono ?_);rintro e w' ⟨rfl,⟨nd,rfl⟩⟩;refine ⟨_,rfl,?_⟩;have hcz43_0:=bc0 BK283.out;have hfz43_0:=ja BK283.out 0) |(go_at_call 59;(with_reducible refine (jSa.calls _ _ l0_0 ((jM l0_0 x8_1).f0) t288 _ ?side1 ?side2 A13.out).mono ?_);(case side1=>exact Kd.jF HR0_0.out (Y8));(case side2=>exact HC0_0.out);rintro e w44 ⟨rfl,hb⟩;replace BK283:=am (je (g:=gb283) (o:=.cells #[.slice (some ad285) l0_0.length c0_0] 35 (0,0)) (Y25) hb);replace BK286:=am (je (g:=gb286) (o:=.cells #[.string ((jM l0_0 x8_1).f0), .int .i64 ((jM l0_0 x8_1).f1)] 75 (0,0)) (Y26) hb);replace HB:=am (jc (Y8) hb);(try clear hb);(try clear hb2);(try clear hk);(try clear hi)))
           go_meet
           case rel=>exact ⟨_,(false),(sq),H',⟨by have:=HK1.out;first | omega | exact Nat.le_refl _⟩,⟨kq BK283.out⟩,⟨kq BK286.out⟩,⟨Y8⟩⟩
        ·rw [if_neg c14] at H
         have c14b0:(t288 == x8_1)=false:=beq_eq_false_iff_ne.mpr c14
         have c14b1:(t288 != x8_1)=true:=bne_iff_ne.mpr c14
         (first | rw [c14b0] |(simp only [jcb,jdb];rw [c14b0]) | skip)
         have H':=am H
         clear H
         have hnb45:=NB286_283.out
         have hnc45:=NB283_286.out
         have hcz46_0:=bc0 BK286.out
         have hcz46_1:=bc1 BK286.out
         have hfz46_0:=ja BK286.out 0
         have hfz46_1:=ja BK286.out 1
         go_wp2_with (first |((with_reducible refine jg (f:=58) rfl ?_);refine gL (some 15) Try.func58 #[.string ((jM l0_0 x8_1).f0)] ?_;(with_reducible refine (jOa.calls k1 ((jM l0_0 x8_1).f0) true _ A11.out).mono ?_);rintro e w' ⟨rfl,⟨nd,rfl⟩⟩;refine ⟨_,rfl,?_⟩;have hcz47_0:=bc0 BK283.out;have hfz47_0:=ja BK283.out 0) |(go_at_call 59;(with_reducible refine (jSa.calls _ _ l0_0 ((jM l0_0 x8_1).f0) t288 _ ?side1 ?side2 A13.out).mono ?_);(case side1=>exact Kd.jF HR0_0.out (Y8));(case side2=>exact HC0_0.out);rintro e w48 ⟨rfl,hb⟩;replace BK283:=am (je (g:=gb283) (o:=.cells #[.slice (some ad285) l0_0.length c0_0] 35 (0,0)) (Y25) hb);replace BK286:=am (je (g:=gb286) (o:=.cells #[.string ((jM l0_0 x8_1).f0), .int .i64 ((jM l0_0 x8_1).f1)] 75 (0,0)) (Y26) hb);replace HB:=am (jc (Y8) hb);(try clear hb);(try clear hb2);(try clear hk);(try clear hi)))
         go_meet
         case rel=>exact ⟨_,(true),(sq),H',⟨by have:=HK1.out;first | omega | exact Nat.le_refl _⟩,⟨kq BK283.out⟩,⟨kq BK286.out⟩,⟨Y8⟩⟩
       ·replace c12:=Bool.eq_false_iff.mpr c12
        subst c12
        have H1:(jA.j1 k1 l0_0 (l0_0.length:Int) x8_1 true l0_0)=some r:=by rw [if_neg (show ¬ (false=true) by decide)] at H;exact H
        clear H
        have H:=H1
        clear H1
        have H':=am H
        clear H
        have hnb49:=NB286_283.out
        have hnc49:=NB283_286.out
        have hcz50_0:=bc0 BK286.out
        have hcz50_1:=bc1 BK286.out
        have hfz50_0:=ja BK286.out 0
        have hfz50_1:=ja BK286.out 1
        go_wp2_with (first |((with_reducible refine jg (f:=58) rfl ?_);refine gL (some 15) Try.func58 #[.string ((jM l0_0 x8_1).f0)] ?_;(with_reducible refine (jOa.calls k1 ((jM l0_0 x8_1).f0) false _ A11.out).mono ?_);rintro e w' ⟨rfl,⟨nd,rfl⟩⟩;refine ⟨_,rfl,?_⟩))
        go_meet
        case rel=>exact ⟨_,(true),(sq),H',⟨by have:=HK1.out;first | omega | exact Nat.le_refl _⟩,⟨by (with_reducible repeat (first | refine jL ?_ _ | refine jS ?_ | refine jT ?_ _));refine jKb ?_ NB283_286.out _;(with_reducible repeat (first | refine jL ?_ _ | refine jS ?_ | refine jT ?_ _));refine jKb ?_ NB283_286.out _;(with_reducible repeat (first | refine jL ?_ _ | refine jS ?_ | refine jT ?_ _));exact BK283.out⟩,⟨by (with_reducible repeat (first | refine jL ?_ _ | refine jS ?_ | refine jT ?_ _));refine jub (cs:=#[.string ((jM l0_0 x8_1).f0), .int .i64 0]) ?_ 1 _ rfl;(with_reducible repeat (first | refine jL ?_ _ | refine jS ?_ | refine jT ?_ _));refine jub (cs:=#[.string (⟨#[]⟩:ByteArray), .int .i64 0]) ?_ 0 _ rfl;(with_reducible repeat (first | refine jL ?_ _ | refine jS ?_ | refine jT ?_ _));exact BK286.out⟩,⟨Y8⟩⟩
      case rest =>
       clear HC7
       try clear c1
       try clear c2
       try clear p2
       try clear q2
       try clear hx2
       try clear c3
       try clear c4
       try clear c4b0
       try clear c5
       try clear c5b0
       try clear c6
       try clear c6b0
       try clear p6
       try clear c9
       try clear c12
       try clear c14
       try clear c14b0
       try clear c14b1
       try clear c15
       try clear c15b0
       try clear c15b1
       try clear c16
       try clear c16b0
       try clear c16b1
       try clear c17
       try clear c17b0
       try clear c19
       try clear c24
       try clear p28
       try clear q28
       try clear hx28
       try clear c29
       try clear c34
       try clear c34b0
       try clear c36
       try clear c39
       try clear c41
       try clear c45
       try clear c49
       try clear hcz10_0
       try clear hcz10_1
       try clear hcz20_0
       try clear hcz20_1
       try clear hcz21_0
       try clear hcz23_0
       try clear hcz23_1
       try clear hcz25_0
       try clear hcz25_1
       try clear hcz26_0
       try clear hcz28_0
       try clear hcz28_1
       try clear hcz30_0
       try clear hcz30_1
       try clear hcz31_0
       try clear hcz33_0
       try clear hcz33_1
       try clear hcz37_0
       try clear hcz37_1
       try clear hcz38_0
       try clear hcz3_0
       try clear hcz40_0
       try clear hcz40_1
       try clear hcz42_0
       try clear hcz42_1
       try clear hcz43_0
       try clear hcz46_0
       try clear hcz46_1
       try clear hcz47_0
       try clear hcz50_0
       try clear hcz50_1
       try clear hfz10_0
       try clear hfz10_1
       try clear hfz20_0
       try clear hfz20_1
       try clear hfz21_0
       try clear hfz23_0
       try clear hfz23_1
       try clear hfz25_0
       try clear hfz25_1
       try clear hfz26_0
       try clear hfz28_0
       try clear hfz28_1
       try clear hfz30_0
       try clear hfz30_1
       try clear hfz31_0
       try clear hfz33_0
       try clear hfz33_1
       try clear hfz37_0
       try clear hfz37_1
       try clear hfz38_0
       try clear hfz3_0
       try clear hfz40_0
       try clear hfz40_1
       try clear hfz42_0
       try clear hfz42_1
       try clear hfz43_0
       try clear hfz46_0
       try clear hfz46_1
       try clear hfz47_0
       try clear hfz50_0
       try clear hfz50_1
       try clear hx285_0
       try clear hx285_1
       try clear p2
       try clear p285
       try clear q285
       obtain ⟨kq,x45_6,rfl,HA,HJ6,BK283,BK286,HB⟩:=hcut
       cases kq with
       | zero=>exact absurd HA.out (by simp [jA.j1])
       | succ kj6 =>
        have H:=HA.out
        clear HA
        simp only [jA.j1] at H
        by_cases c51:x45_6=true
        ·subst c51
         have H1:(some false)=some r:=by rw [if_pos rfl] at H;exact H
         clear H
         have H:=H1
         clear H1
         obtain rfl:=Option.some.inj H
         go_wp2
         go_ret
         exact ⟨Y0,Y8⟩
        ·replace c51:=Bool.eq_false_iff.mpr c51
         subst c51
         have H1:(jA.l0 kj6 l0_0 (l0_0.length:Int) (wrap64 (x8_1+1)) l0_0)=some r:=by rw [if_neg (show ¬ (false=true) by decide)] at H;exact H
         clear H
         have H:=H1
         clear H1
         have H':=am H
         clear H
         go_wp2
         go_roundg kj6
         case measure=>have:=HK1.out;have:=HJ6.out;omega
         case rel=>exact ⟨(wrap64 (x8_1+1)),(sq),H',⟨by have:=HK1.out;have:=HJ6.out;omega⟩,⟨kq BK283.out⟩,⟨Y8⟩⟩
     ·rw [if_neg c6] at H
      exact absurd H (by simp)
    ·rw [if_neg c5] at H
     exact absurd H (by simp)
   ·rw [if_neg c4] at H
    have c4b0:decide (x8_1<(l0_0.length:Int))=false:=dzF c4
    clear c4
    replace H:=bzS H
    obtain ⟨t284,A520,H⟩:=H
    replace H:(some t284)=some r:=H
    have A52:=am A520
    clear A520
    obtain rfl:=Option.some.inj H
    have hcz53_0:=bc0 BK283.out
    have hfz53_0:=ja BK283.out 0
    go_wp2_with (first |((with_reducible refine jg (f:=60) rfl ?_);refine gL (some 50) Try.func60 #[.int .i64 (l0_0.length:Int), .int .i64 1, .int .i64 8] ?_;(with_reducible refine (jI.calls (l0_0.length:Int) 1 8 t284 _ A52.out).mono ?_);rintro e w' ⟨rfl,⟨nd,rfl⟩⟩;refine ⟨_,rfl,?_⟩))
    go_ret
    exact ⟨Y0,Y59⟩
end Go.Proofs.Ytbbmgiloikkpiaa.P
end
