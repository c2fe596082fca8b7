/- One part of the proofs on this program: functions of the program as plain functions, that the code comes to them, and facts on them. -/
import Derived.Test.YtkhiiiddbmgiaaaYAll1
import Derived.Test.YtkhiiiddbmgiaaaYWAuto
section
namespace Go.Proofs.Ytkhiiiddbmgiaaa.P
open Go.RowKit Go.Proofs.YtkhiiiddbmgiaaaW.PrintWords Go.Proofs.YtkhiiiddbmgiaaaW.PrintLast Go.Proofs.YtkhiiiddbmgiaaaW.PrintMore
attribute [local go_sem] jca jaa jpa joa jS jR jba jZ jg
set_option linter.unusedVariables false
set_option linter.unusedSimpArgs false
def jk.inB (a lo hi : Int) : Bool := decide (lo ≤ a) && decide (a ≤ hi)
theorem jtb (a lo hi : Int) : jw.f a lo hi = some (jk.inB a lo hi) := by
 unfold jw.f jk.inB
 by_cases h:lo≤a
 ·rw [if_pos h];simp [h]
 ·rw [if_neg h];simp [h]
theorem spec_opens_eq (a : Int) : jOb.f a = some (jk.inB a 7 12) := by
 unfold jOb.f
 rw [jtb];rfl
theorem spec_follows_eq (a : Int) : jPa.f a = some (jk.inB a 8 10) := by
 unfold jPa.f
 rw [jtb];rfl
def jk.off (p : List S52) (i : Int) (x : S52) : Bool :=
 if (if i=0 then decide (x.f0≠0) else if (wrap64 ((jb p (i - 1)).f0+1))<x.f0 then true else (jk.inB (jb p (i - 1)).f1 7 12 != (x.f0 == wrap64 ((jb p (i - 1)).f0+1)))) then true
 else decide (i+1=(p.length:Int)) && jk.inB x.f1 7 12
def jk.f (k : Nat) (l0_0 : List S78) (l1 : List S52) (a2 : Int) : Option Bool :=
 if 0≤a2 then if a2<(l1.length:Int) then
  (jea.f k l0_0 (jb l1 a2).f0 (jb l1 a2).f1 (jb l1 a2).f2 (jb l1 a2).f3).bind fun v =>
  if v=false then some false else if jk.inB (jb l1 a2).f0 0 5=false then some false else
  if jk.off l1 a2 (jb l1 a2) then some false else
  (if (jb l1 a2).f1=7 then jo.f k l1 a2 else some true).bind fun c1=>if c1=false then some false else
  (if (jb l1 a2).f1=5∨(jb l1 a2).f1=6 then jya.f k l1 a2 else some true).bind fun c2=>if c2=false then some false else
  if jk.inB (jb l1 a2).f1 8 10=false then some true else
  (jCa.f k l1 a2).bind fun h=>if 0≤h then if h<(l1.length:Int) then some ((jb l1 h).f1 == 7 || jk.inB (jb l1 h).f1 8 10) else none else some false
 else none else none
def VX (W : World) (BX : Nat) (x : S52) : Prop := W.heap[BX]? = some (.cells #[.int .i64 x.f0, .int .i64 x.f1, .int .i64 x.f2, .int .i64 x.f3] 52 (0, 0))
theorem VX.below {W W' : World} {BX : Nat} {x : S52} (h : VX W BX x) (hb : Below W.heap.size W W') : VX W' BX x := (hb.block _ (jHa h)).trans h
theorem VX.cells {W : World} {BX : Nat} {x : S52} (h : VX W BX x) : W.cell? ⟨BX, 0, none⟩ = some (.int .i64 x.f0) ∧ W.cell? ⟨BX, 1, none⟩ = some (.int .i64 x.f1) ∧ W.cell? ⟨BX, 2, none⟩ = some (.int .i64 x.f2) ∧ W.cell? ⟨BX, 3, none⟩ = some (.int .i64 x.f3) :=
 ⟨(jFa h 0).trans rfl,(jFa h 1).trans rfl,(jFa h 2).trans rfl,(jFa h 3).trans rfl⟩
set_option maxHeartbeats 8000000 in
set_option maxRecDepth 100000 in
theorem jk.calls (k : Nat) (A0_0 : Option Addr) (c0_0 : Nat) (l0_0 : List S78) (A1 : Option Addr) (c1 : Nat) (l1 : List S52) (a2 : Int) (r : Bool) (w : World) (hr0_0 : Kd.C k78 w A0_0 l0_0.length l0_0) (hc0_0 : l0_0.length ≤ c0_0) (hr1 : Kd.C k52 w A1 l1.length l1) (hc1 : l1.length ≤ c1) (h : jk.f k l0_0 l1 a2 = some r) :
  Calls Try.prog 57 #[.agg #[.slice A0_0 l0_0.length c0_0], .slice A1 l1.length c1, .int .i64 a2] w fun e w'=>e=.returned (.bool r)∧Below w.heap.size w w':=by
 have hu32:=Try.underlying32
 have hu52:=Try.underlying52
 have hm:l1.length≤9223372036854775807:=Kd.C_max hr1
 unfold jk.f at h
 by_cases h0:0≤a2
 ·rw [if_pos h0] at h
  by_cases h1:a2<(l1.length:Int)
  ·rw [if_pos h1] at h
   obtain ⟨v,hv,h⟩:=bzS h
   have HN:=am (fun W (hb:Below w.heap.size w W)=>jea.calls k A0_0 c0_0 l0_0 _ _ _ _ v W (Kd.jJ hr0_0 hb) hc0_0 hv)
   clear hv
   obtain ⟨ad,rfl,hx0,hx1,hx2,hx3⟩:=jX hr1 a2 h0 h1
   have HR1:=am hr1
   clear hr0_0 hr1
   generalize hgx:jb l1 a2=x at h HN hx0 hx1 hx2 hx3
   clear hgx
   have X1:=am (show VX ((w.alloc (.cells #[.slice A0_0 l0_0.length c0_0] 32)).alloc (.cells #[.int .i64 x.f0, .int .i64 x.f1, .int .i64 x.f2, .int .i64 x.f3] 52)) (w.heap.size+1) x by have:=heap_alloc_new (w.alloc (.cells #[.slice A0_0 l0_0.length c0_0] 32)) (.cells #[.int .i64 x.f0, .int .i64 x.f1, .int .i64 x.f2, .int .i64 x.f3] 52);simpa [VX] using this)
   have HB1:=am (((Below.refl w.heap.size w).alloc (Nat.le_refl _) (.cells #[.slice A0_0 l0_0.length c0_0] 32)).alloc (by simp) (.cells #[.int .i64 x.f0, .int .i64 x.f1, .int .i64 x.f2, .int .i64 x.f3] 52))
   have hbt:=(Below.refl w.heap.size w).alloc (Nat.le_refl _) (.cells #[.slice A0_0 l0_0.length c0_0] 32)
   replace hx0:=jja hbt hx0
   replace hx1:=jja hbt hx1
   replace hx2:=jja hbt hx2
   replace hx3:=jja hbt hx3
   clear hbt
   have p0:=ezT h0
   have p1:=ezT h1
   cases v with
   | false =>
    obtain rfl:false=r:=by simpa using h
    clear h
    go_enter Try.func57,Try.ntmps57
    go_wp2_with (first |(go_at_call 84;refine (HN.out _ HB1.out).mono ?_;rintro e w2 ⟨rfl,hb2⟩;have X2:=am (VX.below X1.out hb2);have HB2:=am (jM HB1.out HB1.out.size hb2);clear hb2;obtain ⟨e0,e1,e2,e3⟩:=VX.cells X2.out))
    go_ret
    exact ⟨rfl,HB2.out⟩
   | true =>
    simp only [Bool.true_eq_false,if_false] at h
    cases h5:jk.inB x.f0 0 5 with
    | false =>
     have H5:=am h5
     rw [h5,if_pos rfl] at h
     obtain rfl:false=r:=by simpa using h
     clear h h5
     go_enter Try.func57,Try.ntmps57
     go_wp2_with (first |(go_at_call 84;refine (HN.out _ HB1.out).mono ?_;rintro e w2 ⟨rfl,hb2⟩;have X2:=am (VX.below X1.out hb2);have HB2:=am (jM HB1.out HB1.out.size hb2);clear hb2;obtain ⟨e0,e1,e2,e3⟩:=VX.cells X2.out) |(go_at_call 85;refine (jw.calls _ _ _ _ _ (jtb _ _ _)).mono ?_;rintro e w3 ⟨rfl,hd3⟩;have hb3:=hd3.below;clear hd3;have X3:=am (VX.below X2.out hb3);have HB3:=am (jM HB2.out HB2.out.size hb3);clear hb3 e0 e1 e2 e3;obtain ⟨e0,e1,e2,e3⟩:=VX.cells X3.out;rw [H5.out]))
     go_ret
     exact ⟨rfl,HB3.out⟩
    | true =>
     have H5:=am h5
     rw [h5] at h
     simp only [Bool.true_eq_false,if_false] at h
     clear h5
     have HH:=am h
     clear h
     go_enter Try.func57,Try.ntmps57
     go_upto_region 4 with (first |(go_at_call 84;refine (HN.out _ HB1.out).mono ?_;rintro e w2 ⟨rfl,hb2⟩;have X2:=am (VX.below X1.out hb2);have HB2:=am (jM HB1.out HB1.out.size hb2);clear hb2;obtain ⟨e0,e1,e2,e3⟩:=VX.cells X2.out) |(go_at_call 85;refine (jw.calls _ _ _ _ _ (jtb _ _ _)).mono ?_;rintro e w3 ⟨rfl,hd3⟩;have hb3:=hd3.below;clear hd3;have X3:=am (VX.below X2.out hb3);have HB3:=am (jM HB2.out HB2.out.size hb3);clear hb3 e0 e1 e2 e3;obtain ⟨e0,e1,e2,e3⟩:=VX.cells X3.out;rw [H5.out]))
     go_cut [77] (fun v77 wc=>v77=.bool (jk.off l1 a2 x)∧jv (VX wc (w.heap.size+1) x)∧jv (Below w.heap.size w wc))
     case first =>
      clear HH
      have HO:=am (fun (a:Int) (b:Bool) (hb:jk.inB a 7 12=b) W=>(jOb.calls a b W (by rw [spec_opens_eq,hb])).mono fun e w' h=>(⟨h.1,h.2.out⟩:e=.returned (.bool b)∧∃ m,w'=W.drewN m))
      have hw2:IntKind.i64.wrap (a2+1)=a2+1:=IntWalk.i64_in _ (by omega)
      by_cases z0:a2=0
      ·have b0:(a2 == 0)=true:=beq_iff_eq.2 z0
       have b0':decide (0<a2)=false:=dzF (by omega)
       by_cases zx:x.f0=0
       ·have b1:(x.f0 != 0)=false:=by simpa using zx
        have HE:=am (by unfold jk.off;rw [if_pos z0];simp [zx]:jk.off l1 a2 x=(decide (a2+1=(l1.length:Int)) && jk.inB x.f1 7 12))
        clear z0
        clear zx
        by_cases zl:a2+1=(l1.length:Int)
        ·have b3:(a2+1 == (l1.length:Int))=true:=by rw [beq_iff_eq];omega
         cases hx:jk.inB x.f1 7 12 with
         | true =>
          have HX:=am hx
          have HF:=am (by rw [HE.out,hx,dzT zl];rfl:jk.off l1 a2 x=true)
          clear zl hx HE
          go_big_quiet ((go_at_call 86;exact Calls.quiet_of (HO.out x.f1 _ HX.out _)))
          go_wp2
          go_meet
          case rel=>exact ⟨by rw [HF.out],X3,⟨jh HB3.out _⟩⟩
         | false =>
          have HX:=am hx
          have HF:=am (by rw [HE.out,hx];simp:jk.off l1 a2 x=false)
          clear zl hx HE
          go_big_quiet ((go_at_call 86;exact Calls.quiet_of (HO.out x.f1 _ HX.out _)))
          go_wp2
          go_meet
          case rel=>exact ⟨by rw [HF.out],X3,⟨jh HB3.out _⟩⟩
        ·have b3:(a2+1 == (l1.length:Int))=false:=by rw [beq_eq_false_iff_ne];omega
         have HF:=am (by rw [HE.out,dzF zl];rfl:jk.off l1 a2 x=false)
         clear zl HE
         go_big_quiet (fail)
         go_wp2
         go_meet
         case rel=>exact ⟨by rw [HF.out],X3,⟨jh HB3.out _⟩⟩
       ·have b1:(x.f0 != 0)=true:=by simpa using zx
        have HF:=am (by unfold jk.off;rw [if_pos z0];simp [zx]:jk.off l1 a2 x=true)
        clear zx z0
        go_big_quiet (fail)
        go_wp2
        go_meet
        case rel=>exact ⟨by rw [HF.out],X3,⟨jh HB3.out _⟩⟩
      ·have b0:(a2 == 0)=false:=beq_eq_false_iff_ne.2 z0
       have b0':decide (0<a2)=true:=dzT (by omega)
       have q0:0≤a2 - 1:=by omega
       have q1:a2 - 1<(l1.length:Int):=by omega
       obtain ⟨j,hj⟩:∃ j,a2 - 1=j:=⟨_,rfl⟩
       rw [hj] at q0 q1
       obtain ⟨ad',he,y0,y1,y2,y3⟩:=jX HR1.out j q0 q1
       cases he
       replace y0:=jja HB3.out y0
       replace y1:=jja HB3.out y1
       clear y2 y3
       replace q0:=ezT q0
       replace q1:=ezT q1
       have HD:=am (by unfold jk.off;rw [if_neg z0]:jk.off l1 a2 x=if (if (wrap64 ((jb l1 (a2 - 1)).f0+1))<x.f0 then true else (jk.inB (jb l1 (a2 - 1)).f1 7 12 != (x.f0 == wrap64 ((jb l1 (a2 - 1)).f0+1)))) then true else decide (a2+1=(l1.length:Int)) && jk.inB x.f1 7 12)
       clear z0
       rw [hj] at HD
       generalize jb l1 j=y at HD y0 y1
       generalize hz:wrap64 (y.f0+1)=z at HD
       have HZ:=am hz
       by_cases zt:z<x.f0
       ·have b4:decide (z<x.f0)=true:=dzT zt
        have HF:=am (by rw [HD.out];simp [zt]:jk.off l1 a2 x=true)
        clear zt HD
        go_big_quiet (fail)
        go_wp2
        go_meet
        case rel=>exact ⟨by rw [HF.out],X3,⟨jh HB3.out _⟩⟩
       ·have b4:decide (z<x.f0)=false:=dzF zt
        cases hy:jk.inB y.f1 7 12 with
        | true =>
         have HY:=am hy
         by_cases ze:x.f0=z
         ·have b5:(x.f0 == z)=true:=beq_iff_eq.2 ze
          have HE:=am (by rw [HD.out,hy,b5];simp [zt]:jk.off l1 a2 x=(decide (a2+1=(l1.length:Int)) && jk.inB x.f1 7 12))
          clear zt HD hy ze
          by_cases zl:a2+1=(l1.length:Int)
          ·have b3:(a2+1 == (l1.length:Int))=true:=by rw [beq_iff_eq];omega
           cases hx:jk.inB x.f1 7 12 with
           | true =>
            have HX:=am hx
            have HF:=am (by rw [HE.out,hx,dzT zl];rfl:jk.off l1 a2 x=true)
            clear zl hx HE
            go_big_quiet (first |(go_at_call 86;exact Calls.quiet_of (HO.out y.f1 _ HY.out _)) |(go_at_call 86;exact Calls.quiet_of (HO.out x.f1 _ HX.out _)))
            go_wp2
            go_meet
            case rel=>exact ⟨by rw [HF.out],X3,⟨jh HB3.out _⟩⟩
           | false =>
            have HX:=am hx
            have HF:=am (by rw [HE.out,hx];simp:jk.off l1 a2 x=false)
            clear zl hx HE
            go_big_quiet (first |(go_at_call 86;exact Calls.quiet_of (HO.out y.f1 _ HY.out _)) |(go_at_call 86;exact Calls.quiet_of (HO.out x.f1 _ HX.out _)))
            go_wp2
            go_meet
            case rel=>exact ⟨by rw [HF.out],X3,⟨jh HB3.out _⟩⟩
          ·have b3:(a2+1 == (l1.length:Int))=false:=by rw [beq_eq_false_iff_ne];omega
           have HF:=am (by rw [HE.out,dzF zl];rfl:jk.off l1 a2 x=false)
           clear zl HE
           go_big_quiet ((go_at_call 86;exact Calls.quiet_of (HO.out y.f1 _ HY.out _)))
           go_wp2
           go_meet
           case rel=>exact ⟨by rw [HF.out],X3,⟨jh HB3.out _⟩⟩
         ·have b5:(x.f0 == z)=false:=beq_eq_false_iff_ne.2 ze
          have HF:=am (by rw [HD.out,hy,b5];simp:jk.off l1 a2 x=true)
          clear zt HD hy ze
          go_big_quiet ((go_at_call 86;exact Calls.quiet_of (HO.out y.f1 _ HY.out _)))
          go_wp2
          go_meet
          case rel=>exact ⟨by rw [HF.out],X3,⟨jh HB3.out _⟩⟩
        | false =>
         have HY:=am hy
         by_cases ze:x.f0=z
         ·have b5:(x.f0 == z)=true:=beq_iff_eq.2 ze
          have HF:=am (by rw [HD.out,hy,b5];simp:jk.off l1 a2 x=true)
          clear zt HD hy ze
          go_big_quiet ((go_at_call 86;exact Calls.quiet_of (HO.out y.f1 _ HY.out _)))
          go_wp2
          go_meet
          case rel=>exact ⟨by rw [HF.out],X3,⟨jh HB3.out _⟩⟩
         ·have b5:(x.f0 == z)=false:=beq_eq_false_iff_ne.2 ze
          have HE:=am (by rw [HD.out,hy,b5];simp [zt]:jk.off l1 a2 x=(decide (a2+1=(l1.length:Int)) && jk.inB x.f1 7 12))
          clear zt HD hy ze
          by_cases zl:a2+1=(l1.length:Int)
          ·have b3:(a2+1 == (l1.length:Int))=true:=by rw [beq_iff_eq];omega
           cases hx:jk.inB x.f1 7 12 with
           | true =>
            have HX:=am hx
            have HF:=am (by rw [HE.out,hx,dzT zl];rfl:jk.off l1 a2 x=true)
            clear zl hx HE
            go_big_quiet (first |(go_at_call 86;exact Calls.quiet_of (HO.out y.f1 _ HY.out _)) |(go_at_call 86;exact Calls.quiet_of (HO.out x.f1 _ HX.out _)))
            go_wp2
            go_meet
            case rel=>exact ⟨by rw [HF.out],X3,⟨jh HB3.out _⟩⟩
           | false =>
            have HX:=am hx
            have HF:=am (by rw [HE.out,hx];simp:jk.off l1 a2 x=false)
            clear zl hx HE
            go_big_quiet (first |(go_at_call 86;exact Calls.quiet_of (HO.out y.f1 _ HY.out _)) |(go_at_call 86;exact Calls.quiet_of (HO.out x.f1 _ HX.out _)))
            go_wp2
            go_meet
            case rel=>exact ⟨by rw [HF.out],X3,⟨jh HB3.out _⟩⟩
          ·have b3:(a2+1 == (l1.length:Int))=false:=by rw [beq_eq_false_iff_ne];omega
           have HF:=am (by rw [HE.out,dzF zl];rfl:jk.off l1 a2 x=false)
           clear zl HE
           go_big_quiet ((go_at_call 86;exact Calls.quiet_of (HO.out y.f1 _ HY.out _)))
           go_wp2
           go_meet
           case rel=>exact ⟨by rw [HF.out],X3,⟨jh HB3.out _⟩⟩
     case rest =>
      obtain ⟨rfl,X4,HB4⟩:=hcut
      clear X1 HB1
      have h:=HH.out
      clear HH
      obtain ⟨e0,e1,e2,e3⟩:=VX.cells X4.out
      have tok:True:=trivial
      have HO:=am (fun (a:Int) (b:Bool) (hb:jk.inB a 8 10=b) W=>jPa.calls a b W (by rw [spec_follows_eq,hb]))
      cases ho:jk.off l1 a2 x with
      | true =>
       rw [ho,if_pos rfl] at h
       obtain rfl:false=r:=by simpa using h
       clear h ho
       go_wp2
       go_ret
       exact ⟨rfl,HB4.out⟩
      | false =>
       rw [ho] at h
       simp only [Bool.false_eq_true,if_false] at h
       clear ho
       obtain ⟨c,hc,h⟩:=bzS h
       by_cases z7:x.f1=7
       ·rw [if_pos z7] at hc
        have HC:=am (fun W (hb:Below w.heap.size w W)=>jo.calls k _ c1 l1 a2 c W (Kd.jJ HR1.out hb) hc1 hc)
        have b7:(x.f1 == 7)=true:=beq_iff_eq.2 z7
        have b5:(x.f1 == 5)=false:=beq_eq_false_iff_ne.2 (by omega)
        have b6:(x.f1 == 6)=false:=beq_eq_false_iff_ne.2 (by omega)
        cases c with
        | false =>
         obtain rfl:false=r:=by simpa using h
         clear h hc z7
         go_wp2_with (first |(go_at_call 87;refine (HC.out _ HB4.out).mono ?_;rintro e w5 ⟨rfl,hb5⟩;have X5:=am (VX.below X4.out hb5);have HB5:=am (jM HB4.out HB4.out.size hb5);clear hb5 e0 e1 e2 e3;obtain ⟨e0,e1,e2,e3⟩:=VX.cells X5.out))
         go_ret
         exact ⟨rfl,HB5.out⟩
        | true =>
         have hx:jk.inB x.f1 8 10=false:=by unfold jk.inB;rw [z7];rfl
         have HX:=am hx
         obtain rfl:true=r:=by simpa [z7,show jk.inB 7 8 10=false from rfl] using h
         clear h hc z7 hx
         go_wp2_with (first |(go_at_call 87;refine (HC.out _ HB4.out).mono ?_;rintro e w5 ⟨rfl,hb5⟩;have X5:=am (VX.below X4.out hb5);have HB5:=am (jM HB4.out HB4.out.size hb5);clear hb5 e0 e1 e2 e3;obtain ⟨e0,e1,e2,e3⟩:=VX.cells X5.out) |(go_at_call 89;have tk:=tok;clear tok;refine (HO.out x.f1 _ HX.out _).mono ?_;rintro e w6 ⟨rfl,hd6⟩;have hb6:=hd6.below;clear hd6;have X6:=am (VX.below X5.out hb6);have HB6:=am (jM HB5.out HB5.out.size hb6);clear hb6 e0 e1 e2 e3;obtain ⟨e0,e1,e2,e3⟩:=VX.cells X6.out))
         go_ret
         exact ⟨rfl,HB6.out⟩
       ·rw [if_neg z7] at hc
        obtain rfl:true=c:=by simpa using hc
        clear hc
        have b7:(x.f1 == 7)=false:=beq_eq_false_iff_ne.2 z7
        simp only [Bool.true_eq_false,if_false] at h
        obtain ⟨c,hc,h⟩:=bzS h
        by_cases z56:x.f1=5∨x.f1=6
        ·rw [if_pos z56] at hc
         have HC:=am (fun W (hb:Below w.heap.size w W)=>jya.calls k _ c1 l1 a2 c W (Kd.jJ HR1.out hb) hc1 hc)
         have hx:jk.inB x.f1 8 10=false:=by rcases z56 with z | z <;> (unfold jk.inB;rw [z];rfl)
         have HX:=am hx
         cases c with
         | false =>
          obtain rfl:false=r:=by simpa using h
          clear h hc hx
          rcases z56 with z | z
          ·have b5:(x.f1 == 5)=true:=beq_iff_eq.2 z
           clear z z7
           go_wp2_with (first |(go_at_call 88;refine (HC.out _ HB4.out).mono ?_;rintro e w5 ⟨rfl,hd5⟩;have hb5:=hd5.below;clear hd5;have X5:=am (VX.below X4.out hb5);have HB5:=am (jM HB4.out HB4.out.size hb5);clear hb5 e0 e1 e2 e3;obtain ⟨e0,e1,e2,e3⟩:=VX.cells X5.out))
           go_ret
           exact ⟨rfl,HB5.out⟩
          ·have b5:(x.f1 == 5)=false:=beq_eq_false_iff_ne.2 (by omega)
           have b6:(x.f1 == 6)=true:=beq_iff_eq.2 z
           clear z z7
           go_wp2_with (first |(go_at_call 88;refine (HC.out _ HB4.out).mono ?_;rintro e w5 ⟨rfl,hd5⟩;have hb5:=hd5.below;clear hd5;have X5:=am (VX.below X4.out hb5);have HB5:=am (jM HB4.out HB4.out.size hb5);clear hb5 e0 e1 e2 e3;obtain ⟨e0,e1,e2,e3⟩:=VX.cells X5.out))
           go_ret
           exact ⟨rfl,HB5.out⟩
         | true =>
          obtain rfl:true=r:=by simpa [hx] using h
          clear h hc hx
          rcases z56 with z | z
          ·have b5:(x.f1 == 5)=true:=beq_iff_eq.2 z
           clear z z7
           go_wp2_with (first |(go_at_call 88;refine (HC.out _ HB4.out).mono ?_;rintro e w5 ⟨rfl,hd5⟩;have hb5:=hd5.below;clear hd5;have X5:=am (VX.below X4.out hb5);have HB5:=am (jM HB4.out HB4.out.size hb5);clear hb5 e0 e1 e2 e3;obtain ⟨e0,e1,e2,e3⟩:=VX.cells X5.out) |(go_at_call 89;have tk:=tok;clear tok;refine (HO.out x.f1 _ HX.out _).mono ?_;rintro e w6 ⟨rfl,hd6⟩;have hb6:=hd6.below;clear hd6;have X6:=am (VX.below X5.out hb6);have HB6:=am (jM HB5.out HB5.out.size hb6);clear hb6 e0 e1 e2 e3;obtain ⟨e0,e1,e2,e3⟩:=VX.cells X6.out))
           go_ret
           exact ⟨rfl,HB6.out⟩
          ·have b5:(x.f1 == 5)=false:=beq_eq_false_iff_ne.2 (by omega)
           have b6:(x.f1 == 6)=true:=beq_iff_eq.2 z
           clear z z7
           go_wp2_with (first |(go_at_call 88;refine (HC.out _ HB4.out).mono ?_;rintro e w5 ⟨rfl,hd5⟩;have hb5:=hd5.below;clear hd5;have X5:=am (VX.below X4.out hb5);have HB5:=am (jM HB4.out HB4.out.size hb5);clear hb5 e0 e1 e2 e3;obtain ⟨e0,e1,e2,e3⟩:=VX.cells X5.out) |(go_at_call 89;have tk:=tok;clear tok;refine (HO.out x.f1 _ HX.out _).mono ?_;rintro e w6 ⟨rfl,hd6⟩;have hb6:=hd6.below;clear hd6;have X6:=am (VX.below X5.out hb6);have HB6:=am (jM HB5.out HB5.out.size hb6);clear hb6 e0 e1 e2 e3;obtain ⟨e0,e1,e2,e3⟩:=VX.cells X6.out))
           go_ret
           exact ⟨rfl,HB6.out⟩
        ·rw [if_neg z56] at hc
         obtain rfl:true=c:=by simpa using hc
         clear hc
         have b5:(x.f1 == 5)=false:=beq_eq_false_iff_ne.2 (fun z=>z56 (.inl z))
         have b6:(x.f1 == 6)=false:=beq_eq_false_iff_ne.2 (fun z=>z56 (.inr z))
         simp only [Bool.true_eq_false,if_false] at h
         clear z7 z56
         cases hx:jk.inB x.f1 8 10 with
         | false =>
          have HX:=am hx
          rw [hx,if_pos rfl] at h
          obtain rfl:true=r:=by simpa using h
          clear h hx
          go_wp2_with (first |(go_at_call 89;have tk:=tok;clear tok;refine (HO.out x.f1 _ HX.out _).mono ?_;rintro e w6 ⟨rfl,hd6⟩;have hb6:=hd6.below;clear hd6;have X6:=am (VX.below X4.out hb6);have HB6:=am (jM HB4.out HB4.out.size hb6);clear hb6 e0 e1 e2 e3;obtain ⟨e0,e1,e2,e3⟩:=VX.cells X6.out))
          go_ret
          exact ⟨rfl,HB6.out⟩
         | true =>
          have HX:=am hx
          rw [hx] at h
          simp only [Bool.true_eq_false,if_false] at h
          clear hx
          obtain ⟨q,hq,h⟩:=bzS h
          have HQ:=am (fun W (hb:Below w.heap.size w W)=>jCa.calls k _ c1 l1 a2 q W (Kd.jJ HR1.out hb) hc1 hq)
          clear hq
          by_cases q0:0≤q
          ·rw [if_pos q0] at h
           have q0b:=dzT q0
           by_cases q1:q<(l1.length:Int)
           ·rw [if_pos q1] at h
            obtain ⟨ad',he,y0,y1,y2,y3⟩:=jX HR1.out q q0 q1
            cases he
            generalize jb l1 q=y at h y0 y1
            have HK:=am y1
            clear y0 y1 y2 y3
            have q0:=ezT q0
            have q1:=ezT q1
            by_cases zy:y.f1=7
            ·have by7:(y.f1 == 7)=true:=beq_iff_eq.2 zy
             obtain rfl:true=r:=by simpa [zy] using h
             clear h zy
             go_wp2_with (first |(go_at_call 89;have tk:=tok;clear tok;refine (HO.out x.f1 _ HX.out _).mono ?_;rintro e w6 ⟨rfl,hd6⟩;have hb6:=hd6.below;clear hd6;have X6:=am (VX.below X4.out hb6);have HB6:=am (jM HB4.out HB4.out.size hb6);clear hb6 e0 e1 e2 e3;obtain ⟨e0,e1,e2,e3⟩:=VX.cells X6.out) |(go_at_call 90;refine (HQ.out _ HB6.out).mono ?_;rintro e w7 ⟨rfl,hd7⟩;have hb7:=hd7.below;clear hd7;have X7:=am (VX.below X6.out hb7);have HB7:=am (jM HB6.out HB6.out.size hb7);clear hb7 e0 e1 e2 e3;obtain ⟨e0,e1,e2,e3⟩:=VX.cells X7.out;have y1:=jja HB7.out HK.out))
             go_ret
             exact ⟨rfl,HB7.out⟩
            ·have by7:(y.f1 == 7)=false:=beq_eq_false_iff_ne.2 zy
             cases hy:jk.inB y.f1 8 10 with
             | true =>
              have HY:=am hy
              obtain rfl:true=r:=by rw [hy,by7] at h;simpa using h
              clear h hy zy
              go_wp2_with (first |(go_at_call 89;have tk:=tok;clear tok;refine (HO.out x.f1 _ HX.out _).mono ?_;rintro e w6 ⟨rfl,hd6⟩;have hb6:=hd6.below;clear hd6;have X6:=am (VX.below X4.out hb6);have HB6:=am (jM HB4.out HB4.out.size hb6);clear hb6 e0 e1 e2 e3;obtain ⟨e0,e1,e2,e3⟩:=VX.cells X6.out) |(go_at_call 90;refine (HQ.out _ HB6.out).mono ?_;rintro e w7 ⟨rfl,hd7⟩;have hb7:=hd7.below;clear hd7;have X7:=am (VX.below X6.out hb7);have HB7:=am (jM HB6.out HB6.out.size hb7);clear hb7 e0 e1 e2 e3;obtain ⟨e0,e1,e2,e3⟩:=VX.cells X7.out;have y1:=jja HB7.out HK.out) |(go_at_call 89;refine (HO.out y.f1 _ HY.out _).mono ?_;rintro e w8 ⟨rfl,hd8⟩;have hb8:=hd8.below;clear hd8;have X8:=am (VX.below X7.out hb8);have HB8:=am (jM HB7.out HB7.out.size hb8);clear hb8 e0 e1 e2 e3;obtain ⟨e0,e1,e2,e3⟩:=VX.cells X8.out))
              go_ret
              exact ⟨rfl,HB8.out⟩
             | false =>
              have HY:=am hy
              obtain rfl:false=r:=by rw [hy,by7] at h;simpa using h
              clear h hy zy
              go_wp2_with (first |(go_at_call 89;have tk:=tok;clear tok;refine (HO.out x.f1 _ HX.out _).mono ?_;rintro e w6 ⟨rfl,hd6⟩;have hb6:=hd6.below;clear hd6;have X6:=am (VX.below X4.out hb6);have HB6:=am (jM HB4.out HB4.out.size hb6);clear hb6 e0 e1 e2 e3;obtain ⟨e0,e1,e2,e3⟩:=VX.cells X6.out) |(go_at_call 90;refine (HQ.out _ HB6.out).mono ?_;rintro e w7 ⟨rfl,hd7⟩;have hb7:=hd7.below;clear hd7;have X7:=am (VX.below X6.out hb7);have HB7:=am (jM HB6.out HB6.out.size hb7);clear hb7 e0 e1 e2 e3;obtain ⟨e0,e1,e2,e3⟩:=VX.cells X7.out;have y1:=jja HB7.out HK.out) |(go_at_call 89;refine (HO.out y.f1 _ HY.out _).mono ?_;rintro e w8 ⟨rfl,hd8⟩;have hb8:=hd8.below;clear hd8;have X8:=am (VX.below X7.out hb8);have HB8:=am (jM HB7.out HB7.out.size hb8);clear hb8 e0 e1 e2 e3;obtain ⟨e0,e1,e2,e3⟩:=VX.cells X8.out))
              go_ret
              exact ⟨rfl,HB8.out⟩
           ·rw [if_neg q1] at h
            cases h
          ·rw [if_neg q0] at h
           have q0b:=dzF q0
           obtain rfl:false=r:=by simpa using h
           clear h q0
           go_wp2_with (first |(go_at_call 89;have tk:=tok;clear tok;refine (HO.out x.f1 _ HX.out _).mono ?_;rintro e w6 ⟨rfl,hd6⟩;have hb6:=hd6.below;clear hd6;have X6:=am (VX.below X4.out hb6);have HB6:=am (jM HB4.out HB4.out.size hb6);clear hb6 e0 e1 e2 e3;obtain ⟨e0,e1,e2,e3⟩:=VX.cells X6.out) |(go_at_call 90;refine (HQ.out _ HB6.out).mono ?_;rintro e w7 ⟨rfl,hd7⟩;have hb7:=hd7.below;clear hd7;have X7:=am (VX.below X6.out hb7);have HB7:=am (jM HB6.out HB6.out.size hb7);clear hb7 e0 e1 e2 e3;obtain ⟨e0,e1,e2,e3⟩:=VX.cells X7.out))
           go_ret
           exact ⟨rfl,HB7.out⟩
  ·rw [if_neg h1] at h
   cases h
 ·rw [if_neg h0] at h
  cases h
def jva.l0 : Nat → ByteArray → Int → Option (Bool)
 | 0,_,_=>none
 | k+1,x0,x3=>if x3<(x0.size:Int) then (if 0≤x3 then (if (bt x0 x3)<97 then (some false) else (if (bt x0 x3) > 122 then (some false) else (jva.l0 k x0 (wrap64 (x3+1))))) else (none)) else ((jw.f (x0.size:Int) 1 6).bind fun t152=>(some t152))
def jva.f (k : Nat) (a0 : ByteArray) : Option (Bool) := jva.l0 k a0 0
set_option maxHeartbeats 8000000 in
set_option maxRecDepth 100000 in
theorem jva.calls (k : Nat) (a0 : ByteArray) (r : Bool) (w : World) (h : jva.f k a0 = some r) :
  Calls Try.prog 91 #[.string a0] w fun e w'=>e=.returned (.bool r)∧jEa w w':=by
 have H:(jva.l0 k a0 0)=some r:=h
 clear h
 have H':=am H
 clear H
 go_enter Try.func91,Try.ntmps91
 go_wp2
 go_loopg [3] k (fun kq v3 w'=>∃ (x3_1:Int),v3=.int .i64 x3_1∧jv (jva.l0 kq a0 x3_1=some r)∧jv (kq≤k)∧jEa w w')
 case atStart=>exact ⟨(0),(sq),H',⟨Nat.le_refl _⟩,Y2⟩
 case round =>
  clear H'
  obtain ⟨x3_1,rfl,HA,HK1,⟨m1,rfl⟩⟩:=hrel
  cases gk with
  | zero=>exact absurd HA.out (by simp [jva.l0])
  | succ k1 =>
   have H:=HA.out
   clear HA
   simp only [jva.l0] at H
   by_cases c2:x3_1<(a0.size:Int)
   ·rw [if_pos c2] at H
    have c2b0:decide (x3_1<(a0.size:Int))=true:=dzT c2
    clear c2
    by_cases c3:0≤x3_1
    ·rw [if_pos c3] at H
     have c3b0:decide (0≤x3_1)=true:=dzT c3
     clear c3
     by_cases c5:(bt a0 x3_1)<97
     ·rw [if_pos c5] at H
      have c5b0:decide ((bt a0 x3_1)<97)=true:=dzT c5
      clear c5
      obtain rfl:=Option.some.inj H
      have p4:0≤(x3_1:Int):=ozD (uq)
      have q4:x3_1<(a0.size:Int):=ozD (uq)
      have hx4:=bt_at a0 x3_1
      replace p4:=ezT p4
      replace q4:=ezT q4
      go_wp2
      go_ret
      exact ⟨sq,Y2⟩
     ·rw [if_neg c5] at H
      have c5b0:decide ((bt a0 x3_1)<97)=false:=dzF c5
      clear c5
      by_cases c7:(bt a0 x3_1) > 122
      ·rw [if_pos c7] at H
       have c7b0:decide (122<(bt a0 x3_1))=true:=dzT c7
       clear c7
       obtain rfl:=Option.some.inj H
       have p4:0≤(x3_1:Int):=ozD (uq)
       have q4:x3_1<(a0.size:Int):=ozD (uq)
       have hx4:=bt_at a0 x3_1
       replace p4:=ezT p4
       replace q4:=ezT q4
       have p6:0≤(x3_1:Int):=ozD (uq)
       have q6:x3_1<(a0.size:Int):=ozD (uq)
       have hx6:=bt_at a0 x3_1
       replace p6:=ezT p6
       replace q6:=ezT q6
       go_wp2
       go_ret
       exact ⟨sq,Y2⟩
      ·rw [if_neg c7] at H
       have c7b0:decide (122<(bt a0 x3_1))=false:=dzF c7
       clear c7
       have H':=am H
       clear H
       have p4:0≤(x3_1:Int):=ozD (uq)
       have q4:x3_1<(a0.size:Int):=ozD (uq)
       have hx4:=bt_at a0 x3_1
       replace p4:=ezT p4
       replace q4:=ezT q4
       have p6:0≤(x3_1:Int):=ozD (uq)
       have q6:x3_1<(a0.size:Int):=ozD (uq)
       have hx6:=bt_at a0 x3_1
       replace p6:=ezT p6
       replace q6:=ezT q6
       go_wp2
       go_roundg k1
       case measure=>have:=HK1.out;omega
       case rel=>exact ⟨(wrap64 (x3_1+1)),(sq),H',⟨by have:=HK1.out;omega⟩,Y2⟩
    ·rw [if_neg c3] at H
     exact absurd H (by simp)
   ·rw [if_neg c2] at H
    have c2b0:decide (x3_1<(a0.size:Int))=false:=dzF c2
    clear c2
    replace H:=bzS H
    obtain ⟨t152,A80,H⟩:=H
    replace H:(some t152)=some r:=H
    have A8:=am A80
    clear A80
    obtain rfl:=Option.some.inj H
    go_wp2_with (first |((with_reducible refine jf (f:=85) rfl ?_);refine gL (some 22) Try.func85 #[.int .i64 (a0.size:Int), .int .i64 1, .int .i64 6] ?_;(with_reducible refine (jw.calls (a0.size:Int) 1 6 t152 _ A8.out).mono ?_);rintro e w' ⟨rfl,⟨nd,rfl⟩⟩;refine ⟨_,rfl,?_⟩))
    go_ret
    exact ⟨sq,Y2⟩
def jsa.l0 : Nat → List (S78) → ByteArray → Int → Option (Int)
 | 0,_,_,_=>none
 | k+1,x0,x1,x5=>if x5<(x0.length:Int) then (if 0≤x5 then (if ((jF x0 x5).f0).toList=x1.toList then (some x5) else (jsa.l0 k x0 x1 (wrap64 (x5+1)))) else (none)) else (some (-1))
def jsa.f (k : Nat) (l0 : List (S78)) (a1 : ByteArray) : Option (Int) := jsa.l0 k l0 a1 0
set_option maxHeartbeats 8000000 in
set_option maxRecDepth 100000 in
theorem jsa.calls (k : Nat) (A0 : Option Addr) (c0 : Nat) (l0 : List (S78)) (a1 : ByteArray) (r : Int) (w : World) (hr0 : Kd.C k78 w A0 l0.length l0) (hc0 : l0.length ≤ c0) (h : jsa.f k l0 a1 = some r) :
  Calls Try.prog 92 #[.slice A0 l0.length c0, .string a1] w fun e w'=>e=.returned (.int .i64 r)∧jEa w w':=by
 have HR0:=am hr0
 have HC0:=am hc0
 clear hr0 hc0
 have H:(jsa.l0 k l0 a1 0)=some r:=h
 clear h
 have H':=am H
 clear H
 go_enter Try.func92,Try.ntmps92
 go_wp2
 go_loopg [5] k (fun kq v5 w'=>∃ (x5_1:Int),v5=.int .i64 x5_1∧jv (jsa.l0 kq l0 a1 x5_1=some r)∧jv (kq≤k)∧jEa w w')
 case atStart=>exact ⟨(0),(sq),H',⟨Nat.le_refl _⟩,Y2⟩
 case round =>
  clear H'
  try clear p2
  obtain ⟨x5_1,rfl,HA,HK1,⟨m1,rfl⟩⟩:=hrel
  cases gk with
  | zero=>exact absurd HA.out (by simp [jsa.l0])
  | succ k1 =>
   have H:=HA.out
   clear HA
   simp only [jsa.l0] at H
   by_cases c3:x5_1<(l0.length:Int)
   ·rw [if_pos c3] at H
    have c3b0:decide (x5_1<(l0.length:Int))=true:=dzT c3
    clear c3
    by_cases c4:0≤x5_1
    ·rw [if_pos c4] at H
     have c4b0:decide (0≤x5_1)=true:=dzT c4
     clear c4
     by_cases c5:((jF l0 x5_1).f0).toList=a1.toList
     ·rw [if_pos c5] at H
      have c5b0:(((jF l0 x5_1).f0).toList == a1.toList)=true:=beq_iff_eq.mpr c5
      have c5b1:(((jF l0 x5_1).f0).toList != a1.toList)=false:=bne_eq_false_iff_eq.mpr c5
      clear c5
      obtain rfl:=Option.some.inj H
      have p153:0≤(x5_1:Int):=ozD (uq)
      have q153:x5_1<(l0.length:Int):=ozD (uq)
      obtain ⟨ad153,e153,hx153_0,hx153_1⟩:=at_T78 HR0.out x5_1 p153 q153
      cases e153
      replace p153:=ezT p153
      replace q153:=ezT q153
      go_wp2
      go_ret
      exact ⟨sq,Y2⟩
     ·rw [if_neg c5] at H
      have c5b0:(((jF l0 x5_1).f0).toList == a1.toList)=false:=beq_eq_false_iff_ne.mpr c5
      have c5b1:(((jF l0 x5_1).f0).toList != a1.toList)=true:=bne_iff_ne.mpr c5
      have H':=am H
      clear H
      have p153:0≤(x5_1:Int):=ozD (uq)
      have q153:x5_1<(l0.length:Int):=ozD (uq)
      obtain ⟨ad153,e153,hx153_0,hx153_1⟩:=at_T78 HR0.out x5_1 p153 q153
      cases e153
      replace p153:=ezT p153
      replace q153:=ezT q153
      go_wp2
      go_roundg k1
      case measure=>have:=HK1.out;omega
      case rel=>exact ⟨(wrap64 (x5_1+1)),(sq),H',⟨by have:=HK1.out;omega⟩,Y2⟩
    ·rw [if_neg c4] at H
     exact absurd H (by simp)
   ·rw [if_neg c3] at H
    have c3b0:decide (x5_1<(l0.length:Int))=false:=dzF c3
    clear c3
    obtain rfl:=Option.some.inj H
    go_wp2
    go_ret
    exact ⟨sq,Y2⟩
mutual
def jE.l0 : Nat → Int → List (S78) → Option (Bool)
 | 0,_,_=>none
 | k+1,x3,x155000=>if x3<(x155000.length:Int) then (if 0≤x3 then ((jva.f k ((jF x155000 x3).f0)).bind fun t158=>(if t158=true then (if x3≤(x155000.length:Int) then ((jsa.f k (x155000.take (x3:Int).toNat) ((jF x155000 x3).f0)).bind fun t163=>(if t163≥0 then (jE.j1 k x3 true x155000) else (if x3=0 then (if ((jF x155000 x3).f1)=(-1) then (if x3 > 0 then ((jw.f ((jF x155000 x3).f1) 0 (wrap64 (x3 - 1))).bind fun t164=>(jE.j1 k x3 (!t164) x155000)) else (jE.j1 k x3 false x155000)) else (jE.j1 k x3 true x155000)) else (if x3 > 0 then ((jw.f ((jF x155000 x3).f1) 0 (wrap64 (x3 - 1))).bind fun t165=>(jE.j1 k x3 (!t165) x155000)) else (jE.j1 k x3 false x155000))))) else (none)) else (jE.j1 k x3 true x155000))) else (none)) else ((jw.f (x155000.length:Int) 1 8).bind fun t155=>(some t155))
def jE.j1 : Nat → Int → Bool → List (S78) → Option (Bool)
 | 0,_,_,_=>none
 | k+1,x3,x51,x155000=>if x51=true then (some false) else (jE.l0 k (wrap64 (x3+1)) x155000)
end
def jE.f (k : Nat) (l0_0 : List (S78)) : Option (Bool) := jE.l0 k 0 l0_0
set_option maxHeartbeats 8000000 in
set_option maxRecDepth 100000 in
theorem jE.calls (k : Nat) (A0_0 : Option Addr) (c0_0 : Nat) (l0_0 : List (S78)) (r : Bool) (w : World) (hr0_0 : Kd.C k78 w A0_0 l0_0.length l0_0) (hc0_0 : l0_0.length ≤ c0_0) (h : jE.f k l0_0 = some r) :
  Calls Try.prog 58 #[.agg #[.slice A0_0 l0_0.length c0_0]] w fun e w'=>e=.returned (.bool r)∧Below w.heap.size w w':=by
 have hu32:=Try.underlying32
 have hu78:=Try.underlying78
 have HR0_0:=am hr0_0
 have HC0_0:=am hc0_0
 clear hr0_0 hc0_0
 have HB:=am (Below.refl w.heap.size w)
 have H:(jE.l0 k 0 l0_0)=some r:=h
 clear h
 have H':=am H
 clear H
 go_enter Try.func58,Try.ntmps58
 go_wp2_with (first |((with_reducible refine jO (N:=1) rfl ?_);refine bE (N:=1) (cs:=#[.slice A0_0 l0_0.length c0_0]) (t:=32) ?_;intro gb154 hg w2 hbox hb;have BK154:=am (hbox);have GW154:=am ((Y1:w.heap.size≤gb154));have GE154:=am ((Y1:w.heap.size≤gb154));replace HB:=am (jd (bq) hb);clear hb hbox hg))
 go_loopg [3] k (fun kq v3 w'=>∃ (x3_1:Int),v3=.int .i64 x3_1∧jv (jE.l0 kq x3_1 l0_0=some r)∧jv (kq≤k)∧jv (w'.heap[gb154]?=some (.cells #[(.slice A0_0 l0_0.length c0_0)] 32 (0,0)))∧jv (Below w.heap.size w w'))
 case atStart=>exact ⟨(0),(sq),H',⟨Nat.le_refl _⟩,⟨kq BK154.out⟩,⟨Y10⟩⟩
 case round =>
  clear H'
  try clear c1
  try clear p2
  obtain ⟨x3_1,rfl,HA,HK1,BK154,HB⟩:=hrel
  cases gk with
  | zero=>exact absurd HA.out (by simp [jE.l0])
  | succ k1 =>
   have H:=HA.out
   clear HA
   simp only [jE.l0] at H
   by_cases c3:x3_1<(l0_0.length:Int)
   ·rw [if_pos c3] at H
    have c3b0:decide (x3_1<(l0_0.length:Int))=true:=dzT c3
    clear c3
    by_cases c4:0≤x3_1
    ·rw [if_pos c4] at H
     have c4b0:decide (0≤x3_1)=true:=dzT c4
     clear c4
     have HC5:=am H
     clear H
     have hcz6_0:=bc0 BK154.out
     have hfz6_0:=ja BK154.out 0
     have p156:0≤(x3_1:Int):=ozD (uq)
     have q156:x3_1<(l0_0.length:Int):=ozD (uq)
     obtain ⟨ad156,e156,hx156_0,hx156_1⟩:=at_T78 HR0_0.out x3_1 p156 q156
     cases e156
     replace hx156_0:=cb HB.out hx156_0
     replace hx156_1:=cb HB.out hx156_1
     replace p156:=ezT p156
     replace q156:=ezT q156
     go_upto_region 5 with (first |((with_reducible refine jO (N:=4) rfl ?_);refine bE (N:=4) (cs:=#[.string (⟨#[]⟩:ByteArray), .int .i64 0]) (t:=78) ?_;intro gb157 hg w7 hbox hb;have BK157:=am (hbox);have GW157:=am ((Y34:w.heap.size≤gb157));have GE157:=am ((Y34:w.heap.size≤gb157));have NB154_157:=am ((by rw [hg];exact Nat.ne_of_lt (jHa (g:=gb154) (o:=.cells #[.slice (some ad156) l0_0.length c0_0] 32 (0,0)) (kq BK154.out)):gb154≠gb157));have NB157_154:=am ((by rw [hg];exact Nat.ne_of_gt (jHa (g:=gb154) (o:=.cells #[.slice (some ad156) l0_0.length c0_0] 32 (0,0)) (kq BK154.out)):gb157≠gb154));replace BK154:=am (jl (g:=gb154) (o:=.cells #[.slice (some ad156) l0_0.length c0_0] 32 (0,0)) (kq BK154.out) hb);replace HB:=am (jd (Y10) hb);clear hb hbox hg;have hnb8:=NB157_154.out;have hnc8:=NB154_157.out;have hcz9_0:=bc0 BK157.out;have hcz9_1:=bc1 BK157.out;have hfz9_0:=ja BK157.out 0;have hfz9_1:=ja BK157.out 1))
     (try simp only [Act.put,List.setIfInBounds_toArray,List.set_cons_zero,List.set_cons_succ])
     go_cut [51] (fun v51 wc=>∃ (kq:Nat) (x51_4:Bool),v51=.bool x51_4∧jv (jE.j1 kq x3_1 x51_4 l0_0=some r)∧jv (kq≤k1)∧jv (wc.heap[gb154]?=some (.cells #[(.slice (some ad156) l0_0.length c0_0)] 32 (0,0)))∧jv (wc.heap[gb157]?=some (.cells #[.string ((jF l0_0 x3_1).f0), .int .i64 ((jF l0_0 x3_1).f1)] 78 (0,0)))∧jv (Below w.heap.size w wc))
     case first =>
      have n0_:jv (((w7.setCell ⟨gb157,0,none⟩ (.string ((jF l0_0 x3_1).f0))).setCell ⟨gb157,1,none⟩ (.int .i64 ((jF l0_0 x3_1).f1))).heap[gb154]?=some (.cells #[.slice (some ad156) l0_0.length c0_0] 32 (0,0))):=⟨by (with_reducible repeat (first | refine jU ?_ _ | refine jna ?_ | refine jga ?_ _));refine jwb ?_ NB154_157.out _;(with_reducible repeat (first | refine jU ?_ _ | refine jna ?_ | refine jga ?_ _));refine jwb ?_ NB154_157.out _;(with_reducible repeat (first | refine jU ?_ _ | refine jna ?_ | refine jga ?_ _));exact BK154.out⟩
      have n1_:jv (((w7.setCell ⟨gb157,0,none⟩ (.string ((jF l0_0 x3_1).f0))).setCell ⟨gb157,1,none⟩ (.int .i64 ((jF l0_0 x3_1).f1))).heap[gb157]?=some (.cells #[.string ((jF l0_0 x3_1).f0), .int .i64 ((jF l0_0 x3_1).f1)] 78 (0,0))):=⟨by (with_reducible repeat (first | refine jU ?_ _ | refine jna ?_ | refine jga ?_ _));refine jvb (cs:=#[.string ((jF l0_0 x3_1).f0), .int .i64 0]) ?_ 1 _ rfl;(with_reducible repeat (first | refine jU ?_ _ | refine jna ?_ | refine jga ?_ _));refine jvb (cs:=#[.string (⟨#[]⟩:ByteArray), .int .i64 0]) ?_ 0 _ rfl;(with_reducible repeat (first | refine jU ?_ _ | refine jna ?_ | refine jga ?_ _));exact BK157.out⟩
      have n2_:jv (Below w.heap.size w ((w7.setCell ⟨gb157,0,none⟩ (.string ((jF l0_0 x3_1).f0))).setCell ⟨gb157,1,none⟩ (.int .i64 ((jF l0_0 x3_1).f1)))):=⟨Y25⟩
      clear BK154 BK157 HB hcz9_0 hcz9_1 hfz9_0 hfz9_1
      generalize ((w7.setCell ⟨gb157,0,none⟩ (.string ((jF l0_0 x3_1).f0))).setCell ⟨gb157,1,none⟩ (.int .i64 ((jF l0_0 x3_1).f1)))=w16 at n0_ n1_ n2_ ⊢
      have BK154:=n0_
      have BK157:=n1_
      have HB:=n2_
      clear n0_ n1_ n2_
      have HRW:=am (Kd.jJ HR0_0.out HB.out)
      have e0:w16.cell? ⟨gb157,0,none⟩=some (.string ((jF l0_0 x3_1).f0)):=(jFa BK157.out 0).trans rfl
      have e1:w16.cell? ⟨gb157,1,none⟩=some (.int .i64 ((jF l0_0 x3_1).f1)):=(jFa BK157.out 1).trans rfl
      have e2:w16.cell? ⟨gb154,0,none⟩=some (.slice (some ad156) l0_0.length c0_0):=(jFa BK154.out 0).trans rfl
      have H:=HC5.out
      clear HC5
      obtain ⟨v,hv,H⟩:=bzS H
      have HN:=am (fun W=>(jva.calls k1 _ v W hv).mono fun e w' h=>(⟨h.1,h.2.out⟩:e=.returned (.bool v)∧∃ m,w'=W.drewN m))
      clear hv hx156_0 hx156_1
      generalize hgx:jF l0_0 x3_1=x at H e0 e1 HN BK157
      have HGX:=am hgx
      clear hgx
      cases v with
      | false =>
       have H':=am (show jE.j1 k1 x3_1 true l0_0=some r from H)
       clear H
       go_big_quiet ((go_at_call 91;exact Calls.quiet_of (HN.out _)))
       go_wp2
       go_meet
       case rel=>exact ⟨_,_,rfl,H',⟨by have:=HK1.out;omega⟩,⟨jU BK154.out _⟩,⟨by rw [HGX.out];exact jU BK157.out _⟩,⟨jh HB.out _⟩⟩
      | true =>
       replace H:(if x3_1≤(l0_0.length:Int) then ((jsa.f k1 (l0_0.take (x3_1:Int).toNat) x.f0).bind fun t163=>(if t163≥0 then (jE.j1 k1 x3_1 true l0_0) else (if x3_1=0 then (if x.f1=(-1) then (if x3_1 > 0 then ((jw.f x.f1 0 (wrap64 (x3_1 - 1))).bind fun t164=>(jE.j1 k1 x3_1 (!t164) l0_0)) else (jE.j1 k1 x3_1 false l0_0)) else (jE.j1 k1 x3_1 true l0_0)) else (if x3_1 > 0 then ((jw.f x.f1 0 (wrap64 (x3_1 - 1))).bind fun t165=>(jE.j1 k1 x3_1 (!t165) l0_0)) else (jE.j1 k1 x3_1 false l0_0))))) else (none))=some r:=H
       have hle:x3_1≤(l0_0.length:Int):=by have:=ozD c3b0;omega
       have h0:0≤x3_1:=ozD c4b0
       rw [if_pos hle] at H
       obtain ⟨c,hc,H⟩:=bzS H
       obtain ⟨i0,hi0,_,_,_⟩:=info_parts info78
       have hcut:=cut_to (P:=Try.prog) 30 78 .i64 Try.underlying30 hi0 (some ad156) l0_0.length c0_0 x3_1 h0 hle HC0_0.out
       have hr18:=Kd.C_take (m:=(x3_1:Int).toNat) HRW.out (by omega)
       obtain ⟨y,hy⟩:∃ y:List S78,y=l0_0.take (x3_1:Int).toNat:=⟨_,rfl⟩
       have hyl:y.length=(x3_1:Int).toNat:=by rw [hy,List.length_take];omega
       have hyc:y.length≤c0_0:=by have:=HC0_0.out;omega
       rw [← hy] at hr18
       rw [← hyl] at hcut
       rw [← hy] at hc
       have HCN:=am (fun m=>(jsa.calls k1 _ _ y x.f0 c (w16.drewN m) (Kd.C_drewN hr18 m) hyc hc).mono fun e w' h=>(⟨h.1,h.2.out⟩:e=.returned (.int .i64 c)∧∃ m',w'=(w16.drewN m).drewN m'))
       clear hr18 hc hy hyl hyc
       have b0:=ezT h0
       have b1:=ezT hle
       by_cases hc0:c≥0
       ·rw [if_pos hc0] at H
        have b2:decide (0≤c)=true:=dzT hc0
        have H':=am H
        clear H hc0 h0 hle
        go_big_quiet (first |(go_at_call 91;exact Calls.quiet_of (HN.out _)) |(go_at_call 92;exact Calls.quiet_of (HCN.out _)))
        go_wp2
        go_meet
        case rel=>exact ⟨_,_,rfl,H',⟨by have:=HK1.out;omega⟩,⟨jU BK154.out _⟩,⟨by rw [HGX.out];exact jU BK157.out _⟩,⟨jh HB.out _⟩⟩
       ·rw [if_neg hc0] at H
        have b2:decide (0≤c)=false:=dzF hc0
        clear hc0
        by_cases hz:x3_1=0
        ·rw [if_pos hz] at H
         have b3:(x3_1 == 0)=true:=beq_iff_eq.2 hz
         have b4:decide (0<x3_1)=false:=dzF (by omega)
         by_cases hf:x.f1 = -1
         ·rw [if_pos hf,if_neg (by omega)] at H
          have b5:(x.f1 != -1)=false:=by simpa using hf
          have H':=am H
          clear H hf h0 hle hz
          go_big_quiet (first |(go_at_call 91;exact Calls.quiet_of (HN.out _)) |(go_at_call 92;exact Calls.quiet_of (HCN.out _)))
          go_wp2
          go_meet
          case rel=>exact ⟨_,_,rfl,H',⟨by have:=HK1.out;omega⟩,⟨jU BK154.out _⟩,⟨by rw [HGX.out];exact jU BK157.out _⟩,⟨jh HB.out _⟩⟩
         ·rw [if_neg hf] at H
          have b5:(x.f1 != -1)=true:=by simpa using hf
          have H':=am H
          clear H hf h0 hle hz
          go_big_quiet (first |(go_at_call 91;exact Calls.quiet_of (HN.out _)) |(go_at_call 92;exact Calls.quiet_of (HCN.out _)))
          go_wp2
          go_meet
          case rel=>exact ⟨_,_,rfl,H',⟨by have:=HK1.out;omega⟩,⟨jU BK154.out _⟩,⟨by rw [HGX.out];exact jU BK157.out _⟩,⟨jh HB.out _⟩⟩
        ·rw [if_neg hz,if_pos (by omega)] at H
         have b3:(x3_1 == 0)=false:=beq_eq_false_iff_ne.2 hz
         have b4:decide (0<x3_1)=true:=dzT (by omega)
         obtain ⟨t,ht,H⟩:=bzS H
         have H':=am H
         have HI:=am (fun W=>(jw.calls _ _ _ t W ht).mono fun e w' h=>(⟨h.1,h.2.out⟩:e=.returned (.bool t)∧∃ m,w'=W.drewN m))
         clear H ht h0 hle hz
         go_big_quiet (first |(go_at_call 91;exact Calls.quiet_of (HN.out _)) |(go_at_call 92;exact Calls.quiet_of (HCN.out _)) |(go_at_call 85;exact Calls.quiet_of (HI.out _)))
         go_wp2
         go_meet
         case rel=>exact ⟨_,_,rfl,H',⟨by have:=HK1.out;omega⟩,⟨jU BK154.out _⟩,⟨by rw [HGX.out];exact jU BK157.out _⟩,⟨jh HB.out _⟩⟩
     case rest =>
      clear HC5
      try clear c1
      try clear c2
      try clear p2
      try clear c3
      try clear q3
      try clear p6
      try clear c11
      try clear c12
      try clear c13
      try clear c21
      try clear c32
      try clear c32b0
      try clear q39
      try clear q39
      obtain ⟨kq,x51_4,rfl,HA,HJ4,BK154,BK157,HB⟩:=hcut
      cases kq with
      | zero=>exact absurd HA.out (by simp [jE.j1])
      | succ kj4 =>
       have H:=HA.out
       clear HA
       simp only [jE.j1] at H
       by_cases c42:x51_4=true
       ·subst c42
        have H1:(some false)=some r:=by rw [if_pos rfl] at H;exact H
        clear H
        have H:=H1
        clear H1
        obtain rfl:=Option.some.inj H
        go_wp2
        go_ret
        exact ⟨Y0,Y25⟩
       ·replace c42:=Bool.eq_false_iff.mpr c42
        subst c42
        have H1:(jE.l0 kj4 (wrap64 (x3_1+1)) l0_0)=some r:=by rw [if_neg (show ¬ (false=true) by decide)] at H;exact H
        clear H
        have H:=H1
        clear H1
        have H':=am H
        clear H
        go_wp2
        go_roundg kj4
        case measure=>have:=HK1.out;have:=HJ4.out;omega
        case rel=>exact ⟨(wrap64 (x3_1+1)),(sq),H',⟨by have:=HK1.out;have:=HJ4.out;omega⟩,⟨kq BK154.out⟩,⟨Y25⟩⟩
    ·rw [if_neg c4] at H
     exact absurd H (by simp)
   ·rw [if_neg c3] at H
    have c3b0:decide (x3_1<(l0_0.length:Int))=false:=dzF c3
    clear c3
    replace H:=bzS H
    obtain ⟨t155,A430,H⟩:=H
    replace H:(some t155)=some r:=H
    have A43:=am A430
    clear A430
    obtain rfl:=Option.some.inj H
    have hcz44_0:=bc0 BK154.out
    have hfz44_0:=ja BK154.out 0
    go_wp2_with (first |((with_reducible refine jf (f:=85) rfl ?_);refine gL (some 55) Try.func85 #[.int .i64 (l0_0.length:Int), .int .i64 1, .int .i64 8] ?_;(with_reducible refine (jw.calls (l0_0.length:Int) 1 8 t155 _ A43.out).mono ?_);rintro e w' ⟨rfl,⟨nd,rfl⟩⟩;refine ⟨_,rfl,?_⟩))
    go_ret
    exact ⟨Y0,Y10⟩
def jI.l0 : Nat → List (S52) → Int → List (S78) → Option (Bool)
 | 0,_,_,_=>none
 | k+1,x1,x5,x155000=>if x5<(x1.length:Int) then ((jk.f k x155000 x1 x5).bind fun t156=>(if t156=true then (jI.l0 k x1 (wrap64 (x5+1)) x155000) else (some false))) else ((jE.f k x155000).bind fun t155=>(if t155=true then (some (decide ((x1.length:Int)≤24))) else (some false)))
def jI.f (k : Nat) (l0_0 : List (S78)) (l1 : List (S52)) : Option (Bool) := jI.l0 k l1 0 l0_0
set_option maxHeartbeats 8000000 in
set_option maxRecDepth 100000 in
theorem jI.calls (k : Nat) (A0_0 : Option Addr) (c0_0 : Nat) (l0_0 : List (S78)) (A1 : Option Addr) (c1 : Nat) (l1 : List (S52)) (r : Bool) (w : World) (hr0_0 : Kd.C k78 w A0_0 l0_0.length l0_0) (hc0_0 : l0_0.length ≤ c0_0) (hr1 : Kd.C k52 w A1 l1.length l1) (hc1 : l1.length ≤ c1) (h : jI.f k l0_0 l1 = some r) :
  Calls Try.prog 29 #[.agg #[.slice A0_0 l0_0.length c0_0], .slice A1 l1.length c1] w fun e w'=>e=.returned (.bool r)∧Below w.heap.size w w':=by
 have hu32:=Try.underlying32
 have HR0_0:=am hr0_0
 have HC0_0:=am hc0_0
 clear hr0_0 hc0_0
 have HR1:=am hr1
 have HC1:=am hc1
 clear hr1 hc1
 have HB:=am (Below.refl w.heap.size w)
 have H:(jI.l0 k l1 0 l0_0)=some r:=h
 clear h
 have H':=am H
 clear H
 go_enter Try.func29,Try.ntmps29
 go_wp2_with (first |((with_reducible refine jO (N:=2) rfl ?_);(try (refine gate_guard (by rfl) ?_;dsimp only));refine box_event ?hg (N:=2) ?hd (cs:=#[.slice A0_0 l0_0.length c0_0]) (t:=32) ?hr ?_;(case hd=>rfl);(case hg=>rfl);(case hr=>exact Y7);intro gb154 hg w3 hbox hb;have BK154:=am (hbox);have GW154:=am ((Y1:w.heap.size≤gb154));have GE154:=am ((Y1:w.heap.size≤gb154));replace HB:=am (jd (bq) hb);clear hb hbox hg))
 go_loopg [5] k (fun kq v5 w'=>∃ (x5_1:Int),v5=.int .i64 x5_1∧jv (jI.l0 kq l1 x5_1 l0_0=some r)∧jv (kq≤k)∧jv (w'.heap[gb154]?=some (.cells #[(.slice A0_0 l0_0.length c0_0)] 32 (0,0)))∧jv (Below w.heap.size w w'))
 case atStart=>exact ⟨(0),(sq),H',⟨Nat.le_refl _⟩,⟨kq BK154.out⟩,⟨Y10⟩⟩
 case round =>
  clear H'
  try clear c1
  try clear c2
  try clear p2
  obtain ⟨x5_1,rfl,HA,HK1,BK154,HB⟩:=hrel
  cases gk with
  | zero=>exact absurd HA.out (by simp [jI.l0])
  | succ k1 =>
   have H:=HA.out
   clear HA
   simp only [jI.l0] at H
   by_cases c4:x5_1<(l1.length:Int)
   ·rw [if_pos c4] at H
    have c4b0:decide (x5_1<(l1.length:Int))=true:=dzT c4
    clear c4
    replace H:=bzS H
    obtain ⟨t156,A50,H⟩:=H
    replace H:(if t156=true then (jI.l0 k1 l1 (wrap64 (x5_1+1)) l0_0) else (some false))=some r:=H
    have A5:=am A50
    clear A50
    by_cases c6:t156=true
    ·subst c6
     have H1:(jI.l0 k1 l1 (wrap64 (x5_1+1)) l0_0)=some r:=by rw [if_pos rfl] at H;exact H
     clear H
     have H:=H1
     clear H1
     have H':=am H
     clear H
     have hcz7_0:=bc0 BK154.out
     have hfz7_0:=ja BK154.out 0
     go_wp2_with (first |((with_reducible refine jf (f:=57) rfl ?_);refine gL (some 15) Try.func57 #[.agg #[.slice A0_0 l0_0.length c0_0], .slice A1 l1.length c1, .int .i64 x5_1] ?_;(with_reducible refine (jk.calls k1 _ _ l0_0 _ _ l1 x5_1 true _ ?side1 ?side2 ?side3 ?side4 A5.out).mono ?_);(case side1=>exact cq (Kd.jJ HR0_0.out HB.out));(case side2=>exact HC0_0.out);(case side3=>exact cq (Kd.jJ HR1.out HB.out));(case side4=>exact HC1.out);rintro e w8 ⟨rfl,hb⟩;refine ⟨_,rfl,?_⟩;replace BK154:=am (jl (g:=gb154) (o:=.cells #[.slice A0_0 l0_0.length c0_0] 32 (0,0)) (kq BK154.out) hb);replace HB:=am (jd (Y10) hb);(try clear hb);(try clear hb2);(try clear hk);(try clear hi)))
     go_roundg k1
     case measure=>have:=HK1.out;omega
     case rel=>exact ⟨(wrap64 (x5_1+1)),(sq),H',⟨by have:=HK1.out;omega⟩,⟨kq BK154.out⟩,⟨Y10⟩⟩
    ·replace c6:=Bool.eq_false_iff.mpr c6
     subst c6
     have H1:(some false)=some r:=by rw [if_neg (show ¬ (false=true) by decide)] at H;exact H
     clear H
     have H:=H1
     clear H1
     obtain rfl:=Option.some.inj H
     have hcz9_0:=bc0 BK154.out
     have hfz9_0:=ja BK154.out 0
     go_wp2_with (first |((with_reducible refine jf (f:=57) rfl ?_);refine gL (some 15) Try.func57 #[.agg #[.slice A0_0 l0_0.length c0_0], .slice A1 l1.length c1, .int .i64 x5_1] ?_;(with_reducible refine (jk.calls k1 _ _ l0_0 _ _ l1 x5_1 false _ ?side1 ?side2 ?side3 ?side4 A5.out).mono ?_);(case side1=>exact cq (Kd.jJ HR0_0.out HB.out));(case side2=>exact HC0_0.out);(case side3=>exact cq (Kd.jJ HR1.out HB.out));(case side4=>exact HC1.out);rintro e w10 ⟨rfl,hb⟩;refine ⟨_,rfl,?_⟩;replace BK154:=am (jl (g:=gb154) (o:=.cells #[.slice A0_0 l0_0.length c0_0] 32 (0,0)) (kq BK154.out) hb);replace HB:=am (jd (Y10) hb);(try clear hb);(try clear hb2);(try clear hk);(try clear hi)))
     go_ret
     exact ⟨Y0,Y10⟩
   ·rw [if_neg c4] at H
    have c4b0:decide (x5_1<(l1.length:Int))=false:=dzF c4
    clear c4
    replace H:=bzS H
    obtain ⟨t155,A110,H⟩:=H
    replace H:(if t155=true then (some (decide ((l1.length:Int)≤24))) else (some false))=some r:=H
    have A11:=am A110
    clear A110
    by_cases c12:t155=true
    ·subst c12
     have H1:(some (decide ((l1.length:Int)≤24)))=some r:=by rw [if_pos rfl] at H;exact H
     clear H
     have H:=H1
     clear H1
     obtain rfl:=Option.some.inj H
     have hcz13_0:=bc0 BK154.out
     have hfz13_0:=ja BK154.out 0
     go_wp2_with (first |((with_reducible refine jf (f:=58) rfl ?_);refine gL (some 18) Try.func58 #[.agg #[.slice A0_0 l0_0.length c0_0]] ?_;(with_reducible refine (jE.calls k1 _ _ l0_0 true _ ?side1 ?side2 A11.out).mono ?_);(case side1=>exact cq (Kd.jJ HR0_0.out HB.out));(case side2=>exact HC0_0.out);rintro e w14 ⟨rfl,hb⟩;refine ⟨_,rfl,?_⟩;replace BK154:=am (jl (g:=gb154) (o:=.cells #[.slice A0_0 l0_0.length c0_0] 32 (0,0)) (kq BK154.out) hb);replace HB:=am (jd (Y10) hb);(try clear hb);(try clear hb2);(try clear hk);(try clear hi)))
     go_ret
     exact ⟨Y0,Y10⟩
    ·replace c12:=Bool.eq_false_iff.mpr c12
     subst c12
     have H1:(some false)=some r:=by rw [if_neg (show ¬ (false=true) by decide)] at H;exact H
     clear H
     have H:=H1
     clear H1
     obtain rfl:=Option.some.inj H
     have hcz15_0:=bc0 BK154.out
     have hfz15_0:=ja BK154.out 0
     go_wp2_with (first |((with_reducible refine jf (f:=58) rfl ?_);refine gL (some 18) Try.func58 #[.agg #[.slice A0_0 l0_0.length c0_0]] ?_;(with_reducible refine (jE.calls k1 _ _ l0_0 false _ ?side1 ?side2 A11.out).mono ?_);(case side1=>exact cq (Kd.jJ HR0_0.out HB.out));(case side2=>exact HC0_0.out);rintro e w16 ⟨rfl,hb⟩;refine ⟨_,rfl,?_⟩;replace BK154:=am (jl (g:=gb154) (o:=.cells #[.slice A0_0 l0_0.length c0_0] 32 (0,0)) (kq BK154.out) hb);replace HB:=am (jd (Y10) hb);(try clear hb);(try clear hb2);(try clear hk);(try clear hi)))
     go_ret
     exact ⟨Y0,Y10⟩
def jRa.f (a0 : Int) : Option (Bool) := (jw.f a0 2 6).bind fun t157 => (some t157)
set_option maxHeartbeats 8000000 in
set_option maxRecDepth 100000 in
theorem jRa.calls (a0 : Int) (r : Bool) (w : World) (h : jRa.f a0 = some r) :
  Calls Try.prog 59 #[.int .i64 a0] w fun e w'=>e=.returned (.bool r)∧jEa w w':=by
 have H:((jw.f a0 2 6).bind fun t157=>(some t157))=some r:=h
 clear h
 replace H:=bzS H
 obtain ⟨t157,A20,H⟩:=H
 replace H:(some t157)=some r:=H
 have A2:=am A20
 clear A20
 obtain rfl:=Option.some.inj H
 go_enter Try.func59,Try.ntmps59
 go_wp2_with (first |((with_reducible refine jf (f:=85) rfl ?_);refine gL (some 4) Try.func85 #[.int .i64 a0, .int .i64 2, .int .i64 6] ?_;(with_reducible refine (jw.calls a0 2 6 t157 _ A2.out).mono ?_);rintro e w' ⟨rfl,⟨nd,rfl⟩⟩;refine ⟨_,rfl,?_⟩))
 go_ret
 exact ⟨sq,Y2⟩
mutual
def jK.l0 : Nat → List (S52) → Int → Int → Option (Bool)
 | 0,_,_,_=>none
 | k+1,x0,x1,x5=>if x5≥0 then (if 0≤x5 then (if x5<(x0.length:Int) then (if 0≤x1 then (if x1<(x0.length:Int) then (jK.j1 k x0 x1 x5 (decide (((jb x0 x5).f0)≥((jb x0 x1).f0)))) else (none)) else (none)) else (none)) else (none)) else (jK.j1 k x0 x1 x5 false)
def jK.j1 : Nat → List (S52) → Int → Int → Bool → Option (Bool)
 | 0,_,_,_,_=>none
 | k+1,x0,x1,x5,x22=>if x22=true then (if 0≤x5 then (if x5<(x0.length:Int) then (if 0≤x1 then (if x1<(x0.length:Int) then (if ((jb x0 x5).f0)=((jb x0 x1).f0) then ((jRa.f ((jb x0 x5).f1)).bind fun t163=>(if t163=true then (some true) else (jK.l0 k x0 x1 (wrap64 (x5 - 1))))) else (jK.l0 k x0 x1 (wrap64 (x5 - 1)))) else (none)) else (none)) else (none)) else (none)) else (some false)
end
def jK.f (k : Nat) (l0 : List (S52)) (a1 : Int) : Option (Bool) := jK.l0 k l0 a1 (wrap64 (a1 - 1))
set_option maxHeartbeats 8000000 in
set_option maxRecDepth 100000 in
theorem jK.calls (k : Nat) (A0 : Option Addr) (c0 : Nat) (l0 : List (S52)) (a1 : Int) (r : Bool) (w : World) (hr0 : Kd.C k52 w A0 l0.length l0) (hc0 : l0.length ≤ c0) (h : jK.f k l0 a1 = some r) :
  Calls Try.prog 30 #[.slice A0 l0.length c0, .int .i64 a1] w fun e w'=>e=.returned (.bool r)∧jEa w w':=by
 have HR0:=am hr0
 have HC0:=am hc0
 clear hr0 hc0
 have H:(jK.l0 k l0 a1 (wrap64 (a1 - 1)))=some r:=h
 clear h
 have H':=am H
 clear H
 go_enter Try.func30,Try.ntmps30
 go_wp2
 repeat (go_quiet (fail);try go_wp2)
 go_loopg [5] k (fun kq v5 w'=>∃ (x5_1:Int),v5=.int .i64 x5_1∧jv (jK.l0 kq l0 a1 x5_1=some r)∧jv (kq≤k)∧jEa w w')
 case atStart=>exact ⟨(wrap64 (a1 - 1)),(sq),H',⟨Nat.le_refl _⟩,Y2⟩
 case round =>
  clear H'
  try clear p2
  obtain ⟨x5_1,rfl,HA,HK1,⟨m1,rfl⟩⟩:=hrel
  cases gk with
  | zero=>exact absurd HA.out (by simp [jK.l0])
  | succ k1 =>
   have H:=HA.out
   clear HA
   simp only [jK.l0] at H
   have HC3:=am H
   clear H
   go_upto_region 2 with (fail)
   repeat (go_quiet (fail);go_upto_region 2 with (fail))
   go_cut [22] (fun v22 wc=>∃ (kq:Nat) (x22_2:Bool),v22=.bool x22_2∧jv (jK.j1 kq l0 a1 x5_1 x22_2=some r)∧jv (kq≤k1)∧jEa w wc)
   case first =>
    have H:=HC3.out
    clear HC3
    by_cases c4:x5_1≥0
    ·rw [if_pos c4] at H
     have c4b0:decide (0≤x5_1)=true:=dzT c4
     clear c4
     (first | rw [c4b0] |(simp only [jnb,jrb];rw [c4b0]) | skip)
     by_cases c5:0≤x5_1
     ·rw [if_pos c5] at H
      have c5b0:decide (0≤x5_1)=true:=dzT c5
      clear c5
      by_cases c6:x5_1<(l0.length:Int)
      ·rw [if_pos c6] at H
       have c6b0:decide (x5_1<(l0.length:Int))=true:=dzT c6
       clear c6
       by_cases c7:0≤a1
       ·rw [if_pos c7] at H
        have c7b0:decide (0≤a1)=true:=dzT c7
        clear c7
        by_cases c8:a1<(l0.length:Int)
        ·rw [if_pos c8] at H
         have c8b0:decide (a1<(l0.length:Int))=true:=dzT c8
         clear c8
         have H':=am H
         clear H
         have p158:0≤(x5_1:Int):=ozD (uq)
         have q158:x5_1<(l0.length:Int):=ozD (uq)
         obtain ⟨ad158,e158,hx158_0,hx158_1,hx158_2,hx158_3⟩:=jX HR0.out x5_1 p158 q158
         cases e158
         replace p158:=ezT p158
         replace q158:=ezT q158
         have p159:0≤(a1:Int):=ozD (uq)
         have q159:a1<(l0.length:Int):=ozD (uq)
         obtain ⟨ad159,e159,hx159_0,hx159_1,hx159_2,hx159_3⟩:=jX HR0.out a1 p159 q159
         obtain rfl:ad158=ad159:=(by injection e159)
         replace p159:=ezT p159
         replace q159:=ezT q159
         go_wp2
         repeat (go_quiet (fail);try go_wp2)
         go_meet
         case rel=>exact ⟨_,(decide (((jb l0 x5_1).f0)≥((jb l0 a1).f0))),(sq),H',⟨by have:=HK1.out;first | omega | exact Nat.le_refl _⟩,Y2⟩
        ·rw [if_neg c8] at H
         exact absurd H (by simp)
       ·rw [if_neg c7] at H
        exact absurd H (by simp)
      ·rw [if_neg c6] at H
       exact absurd H (by simp)
     ·rw [if_neg c5] at H
      exact absurd H (by simp)
    ·rw [if_neg c4] at H
     have c4b0:decide (0≤x5_1)=false:=dzF c4
     clear c4
     (first | rw [c4b0] |(simp only [jnb,jrb];rw [c4b0]) | skip)
     have H':=am H
     clear H
     go_wp2
     repeat (go_quiet (fail);try go_wp2)
     go_meet
     case rel=>exact ⟨_,(false),(sq),H',⟨by have:=HK1.out;first | omega | exact Nat.le_refl _⟩,Y2⟩
   case rest =>
    clear HC3
    try clear p1
    try clear q1
    try clear hx1
    try clear p2
    try clear c3
    try clear c4
    try clear c4b0
    try clear c5
    try clear c5b0
    try clear c6
    try clear c6b0
    try clear p6
    try clear c7
    try clear c7b0
    try clear c8
    try clear c8b0
    try clear hx158_0
    try clear hx158_1
    try clear hx158_2
    try clear hx158_3
    try clear hx159_0
    try clear hx159_1
    try clear hx159_2
    try clear hx159_3
    try clear p158
    try clear p159
    try clear p2
    try clear q158
    try clear q159
    obtain ⟨kq,x22_2,rfl,HA,HJ2,⟨mc2,rfl⟩⟩:=hcut
    cases kq with
    | zero=>exact absurd HA.out (by simp [jK.j1])
    | succ kj2 =>
     have H:=HA.out
     clear HA
     simp only [jK.j1] at H
     by_cases c9:x22_2=true
     ·subst c9
      have H1:(if 0≤x5_1 then (if x5_1<(l0.length:Int) then (if 0≤a1 then (if a1<(l0.length:Int) then (if ((jb l0 x5_1).f0)=((jb l0 a1).f0) then ((jRa.f ((jb l0 x5_1).f1)).bind fun t163=>(if t163=true then (some true) else (jK.l0 kj2 l0 a1 (wrap64 (x5_1 - 1))))) else (jK.l0 kj2 l0 a1 (wrap64 (x5_1 - 1)))) else (none)) else (none)) else (none)) else (none))=some r:=by rw [if_pos rfl] at H;exact H
      clear H
      have H:=H1
      clear H1
      by_cases c10:0≤x5_1
      ·rw [if_pos c10] at H
       have c10b0:decide (0≤x5_1)=true:=dzT c10
       clear c10
       by_cases c11:x5_1<(l0.length:Int)
       ·rw [if_pos c11] at H
        have c11b0:decide (x5_1<(l0.length:Int))=true:=dzT c11
        clear c11
        by_cases c12:0≤a1
        ·rw [if_pos c12] at H
         have c12b0:decide (0≤a1)=true:=dzT c12
         clear c12
         by_cases c13:a1<(l0.length:Int)
         ·rw [if_pos c13] at H
          have c13b0:decide (a1<(l0.length:Int))=true:=dzT c13
          clear c13
          by_cases c14:((jb l0 x5_1).f0)=((jb l0 a1).f0)
          ·rw [if_pos c14] at H
           have c14b0:(((jb l0 x5_1).f0) == ((jb l0 a1).f0))=true:=beq_iff_eq.mpr c14
           have c14b1:(((jb l0 x5_1).f0) != ((jb l0 a1).f0))=false:=bne_eq_false_iff_eq.mpr c14
           clear c14
           replace H:=bzS H
           obtain ⟨t163,A150,H⟩:=H
           replace H:(if t163=true then (some true) else (jK.l0 kj2 l0 a1 (wrap64 (x5_1 - 1))))=some r:=H
           have A15:=am A150
           clear A150
           by_cases c16:t163=true
           ·subst c16
            have H1:(some true)=some r:=by rw [if_pos rfl] at H;exact H
            clear H
            have H:=H1
            clear H1
            obtain rfl:=Option.some.inj H
            have p160:0≤(x5_1:Int):=ozD (uq)
            have q160:x5_1<(l0.length:Int):=ozD (uq)
            obtain ⟨ad160,e160,hx160_0,hx160_1,hx160_2,hx160_3⟩:=jX HR0.out x5_1 p160 q160
            cases e160
            replace p160:=ezT p160
            replace q160:=ezT q160
            have p161:0≤(a1:Int):=ozD (uq)
            have q161:a1<(l0.length:Int):=ozD (uq)
            obtain ⟨ad161,e161,hx161_0,hx161_1,hx161_2,hx161_3⟩:=jX HR0.out a1 p161 q161
            obtain rfl:ad160=ad161:=(by injection e161)
            replace p161:=ezT p161
            replace q161:=ezT q161
            have p162:0≤(x5_1:Int):=ozD (uq)
            have q162:x5_1<(l0.length:Int):=ozD (uq)
            obtain ⟨ad162,e162,hx162_0,hx162_1,hx162_2,hx162_3⟩:=jX HR0.out x5_1 p162 q162
            obtain rfl:ad160=ad162:=(by injection e162)
            replace p162:=ezT p162
            replace q162:=ezT q162
            go_wp2_with (first |(go_at_call 59;(with_reducible refine (jRa.calls ((jb l0 x5_1).f1) true _ A15.out).mono ?_);rintro e w' ⟨rfl,⟨nd,rfl⟩⟩;(try first | exact ⟨rfl,_,World.drewN_drewN _ _ _⟩ | exact ⟨rfl,_,Eq.trans (World.drewN_drewN _ _ _) (congrArg (World.drewN _) (Nat.add_assoc _ _ _))⟩)))
            repeat (go_quiet (first |(go_at_call 59;(with_reducible refine (jRa.calls ((jb l0 x5_1).f1) true _ A15.out).mono ?_);rintro e w' ⟨rfl,⟨nd,rfl⟩⟩;(try first | exact ⟨rfl,_,World.drewN_drewN _ _ _⟩ | exact ⟨rfl,_,Eq.trans (World.drewN_drewN _ _ _) (congrArg (World.drewN _) (Nat.add_assoc _ _ _))⟩)));try go_wp2_with (first |(go_at_call 59;(with_reducible refine (jRa.calls ((jb l0 x5_1).f1) true _ A15.out).mono ?_);rintro e w' ⟨rfl,⟨nd,rfl⟩⟩;(try first | exact ⟨rfl,_,World.drewN_drewN _ _ _⟩ | exact ⟨rfl,_,Eq.trans (World.drewN_drewN _ _ _) (congrArg (World.drewN _) (Nat.add_assoc _ _ _))⟩))))
            go_ret
            exact ⟨sq,Y2⟩
           ·replace c16:=Bool.eq_false_iff.mpr c16
            subst c16
            have H1:(jK.l0 kj2 l0 a1 (wrap64 (x5_1 - 1)))=some r:=by rw [if_neg (show ¬ (false=true) by decide)] at H;exact H
            clear H
            have H:=H1
            clear H1
            have H':=am H
            clear H
            have p160:0≤(x5_1:Int):=ozD (uq)
            have q160:x5_1<(l0.length:Int):=ozD (uq)
            obtain ⟨ad160,e160,hx160_0,hx160_1,hx160_2,hx160_3⟩:=jX HR0.out x5_1 p160 q160
            cases e160
            replace p160:=ezT p160
            replace q160:=ezT q160
            have p161:0≤(a1:Int):=ozD (uq)
            have q161:a1<(l0.length:Int):=ozD (uq)
            obtain ⟨ad161,e161,hx161_0,hx161_1,hx161_2,hx161_3⟩:=jX HR0.out a1 p161 q161
            obtain rfl:ad160=ad161:=(by injection e161)
            replace p161:=ezT p161
            replace q161:=ezT q161
            have p162:0≤(x5_1:Int):=ozD (uq)
            have q162:x5_1<(l0.length:Int):=ozD (uq)
            obtain ⟨ad162,e162,hx162_0,hx162_1,hx162_2,hx162_3⟩:=jX HR0.out x5_1 p162 q162
            obtain rfl:ad160=ad162:=(by injection e162)
            replace p162:=ezT p162
            replace q162:=ezT q162
            go_wp2_with (first |(go_at_call 59;(with_reducible refine (jRa.calls ((jb l0 x5_1).f1) false _ A15.out).mono ?_);rintro e w' ⟨rfl,⟨nd,rfl⟩⟩;(try first | exact ⟨rfl,_,World.drewN_drewN _ _ _⟩ | exact ⟨rfl,_,Eq.trans (World.drewN_drewN _ _ _) (congrArg (World.drewN _) (Nat.add_assoc _ _ _))⟩)))
            repeat (go_quiet (first |(go_at_call 59;(with_reducible refine (jRa.calls ((jb l0 x5_1).f1) false _ A15.out).mono ?_);rintro e w' ⟨rfl,⟨nd,rfl⟩⟩;(try first | exact ⟨rfl,_,World.drewN_drewN _ _ _⟩ | exact ⟨rfl,_,Eq.trans (World.drewN_drewN _ _ _) (congrArg (World.drewN _) (Nat.add_assoc _ _ _))⟩)));try go_wp2_with (first |(go_at_call 59;(with_reducible refine (jRa.calls ((jb l0 x5_1).f1) false _ A15.out).mono ?_);rintro e w' ⟨rfl,⟨nd,rfl⟩⟩;(try first | exact ⟨rfl,_,World.drewN_drewN _ _ _⟩ | exact ⟨rfl,_,Eq.trans (World.drewN_drewN _ _ _) (congrArg (World.drewN _) (Nat.add_assoc _ _ _))⟩))))
            go_roundg kj2
            case measure=>have:=HK1.out;have:=HJ2.out;omega
            case rel=>exact ⟨(wrap64 (x5_1 - 1)),(sq),H',⟨by have:=HK1.out;have:=HJ2.out;omega⟩,Y2⟩
          ·rw [if_neg c14] at H
           have c14b0:(((jb l0 x5_1).f0) == ((jb l0 a1).f0))=false:=beq_eq_false_iff_ne.mpr c14
           have c14b1:(((jb l0 x5_1).f0) != ((jb l0 a1).f0))=true:=bne_iff_ne.mpr c14
           have H':=am H
           clear H
           have p160:0≤(x5_1:Int):=ozD (uq)
           have q160:x5_1<(l0.length:Int):=ozD (uq)
           obtain ⟨ad160,e160,hx160_0,hx160_1,hx160_2,hx160_3⟩:=jX HR0.out x5_1 p160 q160
           cases e160
           replace p160:=ezT p160
           replace q160:=ezT q160
           have p161:0≤(a1:Int):=ozD (uq)
           have q161:a1<(l0.length:Int):=ozD (uq)
           obtain ⟨ad161,e161,hx161_0,hx161_1,hx161_2,hx161_3⟩:=jX HR0.out a1 p161 q161
           obtain rfl:ad160=ad161:=(by injection e161)
           replace p161:=ezT p161
           replace q161:=ezT q161
           go_wp2
           repeat (go_quiet (fail);try go_wp2)
           go_roundg kj2
           case measure=>have:=HK1.out;have:=HJ2.out;omega
           case rel=>exact ⟨(wrap64 (x5_1 - 1)),(sq),H',⟨by have:=HK1.out;have:=HJ2.out;omega⟩,Y2⟩
         ·rw [if_neg c13] at H
          exact absurd H (by simp)
        ·rw [if_neg c12] at H
         exact absurd H (by simp)
       ·rw [if_neg c11] at H
        exact absurd H (by simp)
      ·rw [if_neg c10] at H
       exact absurd H (by simp)
     ·replace c9:=Bool.eq_false_iff.mpr c9
      subst c9
      have H1:(some false)=some r:=by rw [if_neg (show ¬ (false=true) by decide)] at H;exact H
      clear H
      have H:=H1
      clear H1
      obtain rfl:=Option.some.inj H
      go_wp2
      repeat (go_quiet (fail);try go_wp2)
      go_ret
      exact ⟨sq,Y2⟩
def jH.l0 : Nat → List (S52) → List (S52) → Int → Option ((List (S52)))
 | 0,_,_,_=>none
 | k+1,x1,x5,x6=>if x6<(x1.length:Int) then ((jK.f k x1 x6).bind fun t169=>(if t169=true then ((jV.f k x1 x6).bind fun t170=>(jH.l0 k x1 x5 t170)) else (if 0≤x6 then (if x5.length<4398046511104 then (jH.l0 k x1 (x5 ++ [(⟨(jb x1 x6).f0,(jb x1 x6).f1,(jb x1 x6).f2,(jb x1 x6).f3⟩:S52)]) (wrap64 (x6+1))) else (none)) else (none)))) else (some x5)
def jH.f (k : Nat) (l0_0 : List (S78)) (l1 : List (S52)) : Option ((List (S52))) := (jI.f k l0_0 l1).bind fun t165 => (if t165 = true then (jH.l0 k l1 (([] : List (S52))) 0) else (some ([] : List (S52))))
set_option maxHeartbeats 8000000 in
set_option maxRecDepth 100000 in
theorem jH.calls (k : Nat) (A0_0 : Option Addr) (c0_0 : Nat) (l0_0 : List (S78)) (A1 : Option Addr) (c1 : Nat) (l1 : List (S52)) (r : List (S52)) (w : World) (hr0_0 : Kd.C k78 w A0_0 l0_0.length l0_0) (hc0_0 : l0_0.length ≤ c0_0) (hr1 : Kd.C k52 w A1 l1.length l1) (hc1 : l1.length ≤ c1) (h : jH.f k l0_0 l1 = some r) :
  Calls Try.prog 9 #[.agg #[.slice A0_0 l0_0.length c0_0], .slice A1 l1.length c1] w fun e w'=>∃ v0_:Value,e=.returned (v0_)∧Kd.R k52 52 w' w.heap.size (fun _=>True) v0_ r∧Below w.heap.size w w':=by
 have hu32:=Try.underlying32
 have hu52:=Try.underlying52
 have HR0_0:=am hr0_0
 have HC0_0:=am hc0_0
 clear hr0_0 hc0_0
 have HR1:=am hr1
 have HC1:=am hc1
 clear hr1 hc1
 have HB:=am (Below.refl w.heap.size w)
 have H:((jI.f k l0_0 l1).bind fun t165=>(if t165=true then (jH.l0 k l1 (([]:List (S52))) 0) else (some ([]:List (S52)))))=some r:=h
 clear h
 replace H:=bzS H
 obtain ⟨t165,A30,H⟩:=H
 replace H:(if t165=true then (jH.l0 k l1 (([]:List (S52))) 0) else (some ([]:List (S52))))=some r:=H
 have A3:=am A30
 clear A30
 by_cases c4:t165=true
 ·subst c4
  have H1:(jH.l0 k l1 (([]:List (S52))) 0)=some r:=by rw [if_pos rfl] at H;exact H
  clear H
  have H:=H1
  clear H1
  obtain ⟨y166,hy166⟩:∃ y_:List (S52),y_=(([]:List (S52))):=⟨_,rfl⟩
  replace H:(jH.l0 k l1 y166 0)=some r:=by first |(rw [hy166];with_reducible exact H) |(have H2_:=(Option.bind_some _ _).symm.trans H;rw [hy166];with_reducible exact H2_) |(have H2_:=(Option.bind_some _ _).symm.trans H;with_reducible exact H2_) | with_reducible exact H |(rw [hy166];exact H) | exact H
  have Ny166:=am hy166
  clear hy166
  have H':=am H
  clear H
  go_enter Try.func9,Try.ntmps9
  go_wp2_with (first |((with_reducible refine jO (N:=2) rfl ?_);refine bE (N:=2) (cs:=#[.slice A0_0 l0_0.length c0_0]) (t:=32) ?_;intro gb164 hg w5 hbox hb;have BK164:=am (hbox);have GW164:=am ((Y1:w.heap.size≤gb164));have GE164:=am ((Y1:w.heap.size≤gb164));replace HB:=am (jd (bq) hb);clear hb hbox hg;have hcz6_0:=bc0 BK164.out;have hfz6_0:=ja BK164.out 0) |((with_reducible refine jf (f:=29) rfl ?_);refine gL (some 9) Try.func29 #[.agg #[.slice A0_0 l0_0.length c0_0], .slice A1 l1.length c1] ?_;(with_reducible refine (jI.calls k _ _ l0_0 _ _ l1 true _ ?side1 ?side2 ?side3 ?side4 A3.out).mono ?_);(case side1=>exact cq (Kd.jJ HR0_0.out HB.out));(case side2=>exact HC0_0.out);(case side3=>exact cq (Kd.jJ HR1.out HB.out));(case side4=>exact HC1.out);rintro e w7 ⟨rfl,hb⟩;refine ⟨_,rfl,?_⟩;replace BK164:=am (jl (g:=gb164) (o:=.cells #[.slice A0_0 l0_0.length c0_0] 32 (0,0)) (kq BK164.out) hb);replace HB:=am (jd (Y12) hb);(try clear hb);(try clear hb2);(try clear hk);(try clear hi)) |((with_reducible refine jO (N:=11) rfl ?_);refine Kd.R_lit k52 _ 52 ?hg (N:=11) ?hd (xs:=([]:List (S52))) (inner:=[]) (ok:=fun _=>True) (okp:=fun _=>True) ?hr ?hp (fun _ hk=>hk) trivial (Below.refl _ _) (Nat.le_refl _) (by simp) ?_;(case hd=>rfl);(case hg=>rfl);(case hr=>exact Y7);(case hp=>exact (Reps.none _ _));intro v167 w8 ho9 hb hg_ hnew_;clear hg_ hnew_;(first | rw [← Ny166.out] at ho9 |(simp only [Int.reduceToNat] at ho9;rw [← Ny166.out] at ho9));have HO168:=am (Kd.jLa ho9 (jL (Y12)));replace BK164:=am (jl (g:=gb164) (o:=.cells #[.slice A0_0 l0_0.length c0_0] 32 (0,0)) (kq BK164.out) hb);replace HB:=am (jd (Y12) hb);clear hb ho9))
  go_loopg [5,6] k (fun kq v5 v6 w'=>∃ (x5_1:List (S52)) (x6_1:Int),v6=.int .i64 x6_1∧jv (jH.l0 kq l1 x5_1 x6_1=some r)∧jv (kq≤k)∧jv (Kd.R k52 52 w' w.heap.size (fun _=>True) v5 x5_1)∧jv (w'.heap[gb164]?=some (.cells #[(.slice A0_0 l0_0.length c0_0)] 32 (0,0)))∧jv (Below w.heap.size w w'))
  case atStart=>exact ⟨(y166),(0),(sq),H',⟨Nat.le_refl _⟩,⟨rq HO168.out⟩,⟨kq BK164.out⟩,⟨Y12⟩⟩
  case round =>
   clear H'
   try clear c1
   try clear c2
   try clear p2
   try clear c4
   try clear c9
   try clear hcz6_0
   try clear hfz6_0
   obtain ⟨x5_1,x6_1,rfl,HA,HK1,HO_5,BK164,HB⟩:=hrel
   cases gk with
   | zero=>exact absurd HA.out (by simp [jH.l0])
   | succ k1 =>
    have H:=HA.out
    clear HA
    simp only [jH.l0] at H
    by_cases c10:x6_1<(l1.length:Int)
    ·rw [if_pos c10] at H
     have c10b0:decide (x6_1<(l1.length:Int))=true:=dzT c10
     clear c10
     replace H:=bzS H
     obtain ⟨t169,A110,H⟩:=H
     replace H:(if t169=true then ((jV.f k1 l1 x6_1).bind fun t170=>(jH.l0 k1 l1 x5_1 t170)) else (if 0≤x6_1 then (if x5_1.length<4398046511104 then (jH.l0 k1 l1 (x5_1 ++ [(⟨(jb l1 x6_1).f0,(jb l1 x6_1).f1,(jb l1 x6_1).f2,(jb l1 x6_1).f3⟩:S52)]) (wrap64 (x6_1+1))) else (none)) else (none)))=some r:=H
     have A11:=am A110
     clear A110
     by_cases c12:t169=true
     ·subst c12
      have H1:((jV.f k1 l1 x6_1).bind fun t170=>(jH.l0 k1 l1 x5_1 t170))=some r:=by rw [if_pos rfl] at H;exact H
      clear H
      have H:=H1
      clear H1
      replace H:=bzS H
      obtain ⟨t170,A130,H⟩:=H
      replace H:(jH.l0 k1 l1 x5_1 t170)=some r:=H
      have A13:=am A130
      clear A130
      have H':=am H
      clear H
      go_wp2_with (first |((with_reducible refine jf (f:=30) rfl ?_);refine gL (some 18) Try.func30 #[.slice A1 l1.length c1, .int .i64 x6_1] ?_;(with_reducible refine (jK.calls k1 _ _ l1 x6_1 true _ ?side1 ?side2 A11.out).mono ?_);(case side1=>exact cq (Kd.jJ HR1.out HB.out));(case side2=>exact HC1.out);rintro e w' ⟨rfl,⟨nd,rfl⟩⟩;refine ⟨_,rfl,?_⟩) |((with_reducible refine jf (f:=31) rfl ?_);refine gL (some 21) Try.func31 #[.slice A1 l1.length c1, .int .i64 x6_1] ?_;(with_reducible refine (jV.calls k1 _ _ l1 x6_1 t170 _ ?side1 ?side2 A13.out).mono ?_);(case side1=>repeat (first | exact (Kd.jJ HR1.out (by repeat (first |(with_reducible first | exact HB.out | apply jD | apply jh | apply jC | refine jA ?_ GE164.out) | exact HB.out))) |(with_reducible refine Kd.C_alloc ?_ _) |(with_reducible refine Kd.C_drewN ?_ _) |(with_reducible refine Kd.C_drew ?_)));(case side2=>exact HC1.out);rintro e w' ⟨rfl,⟨nd,rfl⟩⟩;refine ⟨_,rfl,?_⟩))
      go_roundg k1
      case measure=>have:=HK1.out;omega
      case rel=>exact ⟨(x5_1),(t170),(sq),H',⟨by have:=HK1.out;omega⟩,⟨rq HO_5.out⟩,⟨kq BK164.out⟩,⟨Y12⟩⟩
     ·replace c12:=Bool.eq_false_iff.mpr c12
      subst c12
      have H1:(if 0≤x6_1 then (if x5_1.length<4398046511104 then (jH.l0 k1 l1 (x5_1 ++ [(⟨(jb l1 x6_1).f0,(jb l1 x6_1).f1,(jb l1 x6_1).f2,(jb l1 x6_1).f3⟩:S52)]) (wrap64 (x6_1+1))) else (none)) else (none))=some r:=by rw [if_neg (show ¬ (false=true) by decide)] at H;exact H
      clear H
      have H:=H1
      clear H1
      by_cases c14:0≤x6_1
      ·rw [if_pos c14] at H
       have c14b0:decide (0≤x6_1)=true:=dzT c14
       clear c14
       by_cases c15:x5_1.length<4398046511104
       ·rw [if_pos c15] at H
        have LMc15:=am c15
        clear c15
        obtain ⟨y172,hy172⟩:∃ y_:List (S52),y_=(x5_1 ++ [(⟨(jb l1 x6_1).f0,(jb l1 x6_1).f1,(jb l1 x6_1).f2,(jb l1 x6_1).f3⟩:S52)]):=⟨_,rfl⟩
        replace H:(jH.l0 k1 l1 y172 (wrap64 (x6_1+1)))=some r:=by first |(rw [hy172];with_reducible exact H) |(have H2_:=(Option.bind_some _ _).symm.trans H;rw [hy172];with_reducible exact H2_) |(have H2_:=(Option.bind_some _ _).symm.trans H;with_reducible exact H2_) | with_reducible exact H |(rw [hy172];exact H) | exact H
        have Ny172:=am hy172
        clear hy172
        have H':=am H
        clear H
        go_wp2_with (first |((with_reducible refine jf (f:=30) rfl ?_);refine gL (some 18) Try.func30 #[.slice A1 l1.length c1, .int .i64 x6_1] ?_;(with_reducible refine (jK.calls k1 _ _ l1 x6_1 false _ ?side1 ?side2 A11.out).mono ?_);(case side1=>exact cq (Kd.jJ HR1.out HB.out));(case side2=>exact HC1.out);rintro e w' ⟨rfl,⟨nd,rfl⟩⟩;refine ⟨_,rfl,?_⟩;have p171:0≤(x6_1:Int):=ozD (uq);have q171:x6_1<(l1.length:Int):=ozD (uq);obtain ⟨ad171,e171,hx171_0,hx171_1,hx171_2,hx171_3⟩:=jX HR1.out x6_1 p171 q171;cases e171;replace hx171_0:=cb HB.out hx171_0;replace hx171_1:=cb HB.out hx171_1;replace hx171_2:=cb HB.out hx171_2;replace hx171_3:=cb HB.out hx171_3;replace p171:=ezT p171;replace q171:=ezT q171) |((with_reducible refine jcb (b:=.append) (xs:=#[.tmp 22, .tmp 27]) rfl ?_);at_builtin;refine Kd.jVb k52 (w0:=w) w.heap.size rfl (.tmp 22) (.tmp 27) 28 52 (.agg #[(.int .i64 0),(.int .i64 0),(.int .i64 0),(.int .i64 0)]) 32 rfl Try.underlying28 info52 rfl (by decide) (by omega) u5 x5_1 (⟨(jb l1 x6_1).f0,(jb l1 x6_1).f1,(jb l1 x6_1).f2,(jb l1 x6_1).f3⟩:S52) [.int .i64 ((jb l1 x6_1).f0), .int .i64 ((jb l1 x6_1).f1), .int .i64 ((jb l1 x6_1).f2), .int .i64 ((jb l1 x6_1).f3)] (fun _=>True) (fun _=>False) rfl rfl ?aP (fun _ hk=>hk.elim) ?aF ?aO ?aB ?aS ?aL ?_;(case aP=>exact k52_mkM _ _ _ (⟨(jb l1 x6_1).f0,(jb l1 x6_1).f1,(jb l1 x6_1).f2,(jb l1 x6_1).f3⟩:S52));(case aB=>exact (Y12));(case aF=>exact (fun _ _=>trivial));(case aO=>exact (rq HO_5.out));(case aS=>exact (jL (Y12)));(case aL=>have:=LMc15.out;omega);intro v173 w16 ho hb hg hat;rw [← Ny172.out] at ho;have n0_:=am (blk_grown (g:=gb164) (o:=.cells #[.slice A0_0 l0_0.length c0_0] 32 (0,0)) (kq BK164.out) hg (Kd.R_ne HO_5.out BK164.out (by decide)));have n1_:=am (hb);have n2_:=am (ho);clear BK164 HB HO_5;have BK164:=n0_;have HB:=n1_;have HO174:=n2_;clear n0_ n1_ n2_ ho hb hg hat))
        go_roundg k1
        case measure=>have:=HK1.out;omega
        case rel=>exact ⟨(y172),(wrap64 (x6_1+1)),(sq),H',⟨by have:=HK1.out;omega⟩,⟨rq HO174.out⟩,⟨kq BK164.out⟩,⟨Y12⟩⟩
       ·rw [if_neg c15] at H
        exact absurd H (by simp)
      ·rw [if_neg c14] at H
       exact absurd H (by simp)
    ·rw [if_neg c10] at H
     have c10b0:decide (x6_1<(l1.length:Int))=false:=dzF c10
     clear c10
     obtain rfl:=Option.some.inj H
     go_wp2
     go_ret
     exact ⟨_,Y0,rq HO_5.out,Y12⟩
 ·replace c4:=Bool.eq_false_iff.mpr c4
  subst c4
  have H1:(some ([]:List (S52)))=some r:=by rw [if_neg (show ¬ (false=true) by decide)] at H;exact H
  clear H
  have H:=H1
  clear H1
  obtain rfl:=Option.some.inj H
  go_enter Try.func9,Try.ntmps9
  go_wp2_with (first |((with_reducible refine jO (N:=2) rfl ?_);refine bE (N:=2) (cs:=#[.slice A0_0 l0_0.length c0_0]) (t:=32) ?_;intro gb164 hg w17 hbox hb;have BK164:=am (hbox);have GW164:=am ((Y1:w.heap.size≤gb164));have GE164:=am ((Y1:w.heap.size≤gb164));replace HB:=am (jd (bq) hb);clear hb hbox hg;have hcz18_0:=bc0 BK164.out;have hfz18_0:=ja BK164.out 0) |((with_reducible refine jf (f:=29) rfl ?_);refine gL (some 9) Try.func29 #[.agg #[.slice A0_0 l0_0.length c0_0], .slice A1 l1.length c1] ?_;(with_reducible refine (jI.calls k _ _ l0_0 _ _ l1 false _ ?side1 ?side2 ?side3 ?side4 A3.out).mono ?_);(case side1=>exact cq (Kd.jJ HR0_0.out HB.out));(case side2=>exact HC0_0.out);(case side3=>exact cq (Kd.jJ HR1.out HB.out));(case side4=>exact HC1.out);rintro e w19 ⟨rfl,hb⟩;refine ⟨_,rfl,?_⟩;replace BK164:=am (jl (g:=gb164) (o:=.cells #[.slice A0_0 l0_0.length c0_0] 32 (0,0)) (kq BK164.out) hb);replace HB:=am (jd (Y12) hb);(try clear hb);(try clear hb2);(try clear hk);(try clear hi)))
  go_ret
  exact ⟨_,Y0,by first | exact Kd.R_nil _ _ _ _ _ | exact Kd.N_nil _ _ _ _ _ | exact Kd.V_nil _ _ _ _ _ | exact Kd.Q_nil _ _ _ _ _ | exact Kd.S_nil _ _ _ _ _,Y12⟩
def jCb.f (a0_0 : ByteArray) (a0_1 : Int) : Option (ByteArray × Int) := some (a0_0, a0_1)
set_option maxHeartbeats 8000000 in
set_option maxRecDepth 100000 in
theorem jCb.calls (a0_0 : ByteArray) (a0_1 : Int) (r1 : ByteArray) (r2 : Int) (w : World) (h : jCb.f a0_0 a0_1 = some (r1, r2)) :
  Calls Try.prog 60 #[.agg #[.string a0_0, .int .i64 a0_1]] w fun e w'=>e=.returned (.agg #[.string r1, .int .i64 r2])∧Below w.heap.size w w':=by
 have hu77:=Try.underlying77
 have hu78:=Try.underlying78
 have HB:=am (Below.refl w.heap.size w)
 have H:(some (a0_0,a0_1))=some (r1,r2):=h
 clear h
 simp only [Option.some.injEq,Prod.mk.injEq] at H
 obtain ⟨rfl,rfl⟩:=H
 go_enter Try.func60,Try.ntmps60
 go_wp2_with (first |((with_reducible refine jO (N:=1) rfl ?_);refine bE (N:=1) (cs:=#[.string a0_0, .int .i64 a0_1]) (t:=77) ?_;intro gb175 hg w2 hbox hb;have BK175:=am (hbox);have GW175:=am ((Y1:w.heap.size≤gb175));have GE175:=am ((Y1:w.heap.size≤gb175));replace HB:=am (jd (bq) hb);clear hb hbox hg) |((with_reducible refine jO (N:=2) rfl ?_);refine bE (N:=2) (cs:=#[.string (⟨#[]⟩:ByteArray), .int .i64 0]) (t:=78) ?_;intro gb176 hg w3 hbox hb;have BK176:=am (hbox);have GW176:=am ((Y35:w.heap.size≤gb176));have GE176:=am ((Y35:w.heap.size≤gb176));have NB175_176:=am ((by rw [hg];exact Nat.ne_of_lt (jHa (g:=gb175) (o:=.cells #[.string a0_0, .int .i64 a0_1] 77 (0,0)) (kq BK175.out)):gb175≠gb176));have NB176_175:=am ((by rw [hg];exact Nat.ne_of_gt (jHa (g:=gb175) (o:=.cells #[.string a0_0, .int .i64 a0_1] 77 (0,0)) (kq BK175.out)):gb176≠gb175));replace BK175:=am (jl (g:=gb175) (o:=.cells #[.string a0_0, .int .i64 a0_1] 77 (0,0)) (kq BK175.out) hb);replace HB:=am (jd (by repeat (first |(with_reducible first | exact HB.out | apply jD | apply jh | apply jC | refine jA ?_ GE175.out) | exact HB.out)) hb);clear hb hbox hg) |((with_reducible refine jO (N:=3) rfl ?_);refine bE (N:=3) (cs:=#[.string (⟨#[]⟩:ByteArray), .int .i64 0]) (t:=78) ?_;intro gb177 hg w4 hbox hb;have BK177:=am (hbox);have GW177:=am ((Y36:w.heap.size≤gb177));have GE177:=am ((Y36:w.heap.size≤gb177));have NB175_177:=am ((by rw [hg];exact Nat.ne_of_lt (jHa (g:=gb175) (o:=.cells #[.string a0_0, .int .i64 a0_1] 77 (0,0)) (kq BK175.out)):gb175≠gb177));have NB177_175:=am ((by rw [hg];exact Nat.ne_of_gt (jHa (g:=gb175) (o:=.cells #[.string a0_0, .int .i64 a0_1] 77 (0,0)) (kq BK175.out)):gb177≠gb175));have NB176_177:=am ((by rw [hg];exact Nat.ne_of_lt (jHa (g:=gb176) (o:=.cells #[.string (⟨#[]⟩:ByteArray), .int .i64 0] 78 (0,0)) (kq BK176.out)):gb176≠gb177));have NB177_176:=am ((by rw [hg];exact Nat.ne_of_gt (jHa (g:=gb176) (o:=.cells #[.string (⟨#[]⟩:ByteArray), .int .i64 0] 78 (0,0)) (kq BK176.out)):gb177≠gb176));replace BK175:=am (jl (g:=gb175) (o:=.cells #[.string a0_0, .int .i64 a0_1] 77 (0,0)) (kq BK175.out) hb);replace BK176:=am (jl (g:=gb176) (o:=.cells #[.string (⟨#[]⟩:ByteArray), .int .i64 0] 78 (0,0)) (kq BK176.out) hb);replace HB:=am (jd (by repeat (first |(with_reducible first | exact HB.out | apply jD | apply jh | apply jC | refine jA ?_ GE175.out | refine jA ?_ GE176.out) | exact HB.out)) hb);clear hb hbox hg;have hnb5:=NB175_176.out;have hnc5:=NB176_175.out;have hnb6:=NB175_177.out;have hnc6:=NB177_175.out;have hcz7_0:=bc0 BK175.out;have hcz7_1:=bc1 BK175.out;have hfz7_0:=ja BK175.out 0;have hfz7_1:=ja BK175.out 1;have hnb8:=NB177_176.out;have hnc8:=NB176_177.out;have hcz9_0:=bc0 BK177.out;have hcz9_1:=bc1 BK177.out;have hfz9_0:=ja BK177.out 0;have hfz9_1:=ja BK177.out 1;have hcz10_0:=bc0 BK176.out;have hcz10_1:=bc1 BK176.out;have hfz10_0:=ja BK176.out 0;have hfz10_1:=ja BK176.out 1))
 refine bodyPost_ret (results_cell_row rfl _ _ gb176 78 #[.string a0_0, .int .i64 a0_1] (0,0) _ rfl (by (with_reducible repeat (first | refine jU ?_ _ | refine jna ?_ | refine jga ?_ _));refine jvb (cs:=#[.string a0_0, .int .i64 0]) ?_ 1 _ rfl;(with_reducible repeat (first | refine jU ?_ _ | refine jna ?_ | refine jga ?_ _));refine jvb (cs:=#[.string (⟨#[]⟩:ByteArray), .int .i64 0]) ?_ 0 _ rfl;(with_reducible repeat (first | refine jU ?_ _ | refine jna ?_ | refine jga ?_ _));refine jwb ?_ NB176_177.out _;(with_reducible repeat (first | refine jU ?_ _ | refine jna ?_ | refine jga ?_ _));refine jwb ?_ NB176_177.out _;(with_reducible repeat (first | refine jU ?_ _ | refine jna ?_ | refine jga ?_ _));exact BK176.out) Try.underlying78 rfl (by kernel_rfl)) rfl ?_
 exact ⟨Y0,by repeat (first |(with_reducible first | exact HB.out | apply jD | apply jh | apply jC | refine jA ?_ GE175.out | refine jA ?_ GE176.out | refine jA ?_ GE177.out) | exact HB.out)⟩
def jka.l0 : Nat → List (S77) → List (S78) → Int → Option ((List (S78)))
 | 0,_,_,_=>none
 | k+1,x0,x3,x4=>if x4<(x0.length:Int) then (if 0≤x4 then ((jCb.f ((jeb x0 x4).f0) ((jeb x0 x4).f1)).bind fun bt182=>(if x4<(x3.length:Int) then (jka.l0 k x0 (x3.set (x4:Int).toNat (⟨bt182.1,bt182.2⟩:S78)) (wrap64 (x4+1))) else (none))) else (none)) else (some x3)
def jka.f (k : Nat) (l0 : List (S77)) : Option ((List (S78))) := if 0 ≤ (l0.length : Int) then (if ((l0.length : Int) : Int).toNat ≤ 11728124029610 then (jka.l0 k l0 (List.replicate ((l0.length : Int) : Int).toNat z78) 0) else (none)) else (none)
set_option maxHeartbeats 8000000 in
set_option maxRecDepth 100000 in
theorem jka.calls (k : Nat) (A0 : Option Addr) (c0 : Nat) (l0 : List (S77)) (r : List (S78)) (w : World) (hr0 : Kd.C k77 w A0 l0.length l0) (hc0 : l0.length ≤ c0) (h : jka.f k l0 = some r) :
  Calls Try.prog 32 #[.slice A0 l0.length c0] w fun e w'=>∃ v0_:Value,e=.returned (v0_)∧Kd.R k78 78 w' w.heap.size (fun _=>True) v0_ r∧Below w.heap.size w w':=by
 have hu77:=Try.underlying77
 have hu78:=Try.underlying78
 have HR0:=am hr0
 have HC0:=am hc0
 clear hr0 hc0
 have HB:=am (Below.refl w.heap.size w)
 have H:(if 0≤(l0.length:Int) then (if ((l0.length:Int):Int).toNat≤11728124029610 then (jka.l0 k l0 (List.replicate ((l0.length:Int):Int).toNat z78) 0) else (none)) else (none))=some r:=h
 clear h
 by_cases c2:0≤(l0.length:Int)
 ·rw [if_pos c2] at H
  have c2b0:=ezT c2
  have c2b1:decide (0≤(l0.length:Int))=true:=dzT c2
  clear c2
  by_cases c3:((l0.length:Int):Int).toNat≤11728124029610
  ·rw [if_pos c3] at H
   have c3b0:=ezT c3
   have c3b1:decide (((l0.length:Int):Int).toNat≤11728124029610)=true:=dzT c3
   clear c3
   obtain ⟨y178,hy178⟩:∃ y_:List (S78),y_=(List.replicate ((l0.length:Int):Int).toNat z78):=⟨_,rfl⟩
   replace H:(jka.l0 k l0 y178 0)=some r:=by first |(rw [hy178];with_reducible exact H) |(have H2_:=(Option.bind_some _ _).symm.trans H;rw [hy178];with_reducible exact H2_) |(have H2_:=(Option.bind_some _ _).symm.trans H;with_reducible exact H2_) | with_reducible exact H |(rw [hy178];exact H) | exact H
   have Ny178:=am hy178
   clear hy178
   have H':=am H
   clear H
   go_enter Try.func32,Try.ntmps32
   go_wp2_with (first |((with_reducible refine jO (N:=7) rfl ?_);refine Kd.R_make k78 _ 78 rfl (N:=7) rfl 30 _ _ rfl (l0.length:Int) rfl rfl Try.underlying30 (.agg #[(.string ⟨#[]⟩),(.int .i64 0)]) 24 info78 rfl (by decide) (by omega) z78 (ok:=fun _=>True) (okp:=fun _=>True) (k78_mkM _ _ _ z78 ) (fun _ hk=>hk) trivial (ozD (uq)) (Nat.le_trans (Nat.mul_le_mul_right _ (ozD (uq):(l0.length:Int).toNat≤11728124029610)) (by omega)) (Below.refl _ _) (Nat.le_refl _) ?_;intro v179 w4 ho5 hb hg_ hnew_;clear hg_ hnew_;(first | rw [← Ny178.out] at ho5 |(simp only [Int.reduceToNat] at ho5;rw [← Ny178.out] at ho5));have HO180:=am (Kd.jLa ho5 (jL (bq)));replace HB:=am (jd (bq) hb);clear hb ho5))
   go_loopg [4] k (fun kq v4 w'=>∃ (x3_1:List (S78)) (x4_1:Int),v4=.int .i64 x4_1∧jv (jka.l0 kq l0 x3_1 x4_1=some r)∧jv (kq≤k)∧jv (Kd.R k78 78 w' w.heap.size (fun _=>True) v179 x3_1)∧jv (Below w.heap.size w w'))
   case atStart=>exact ⟨(y178),(0),(sq),H',⟨Nat.le_refl _⟩,⟨rq HO180.out⟩,⟨bq⟩⟩
   case round =>
    clear H'
    try clear c2
    try clear c2b0
    try clear c2b1
    try clear p2
    try clear c3
    try clear c3b0
    try clear c3b1
    obtain ⟨x3_1,x4_1,rfl,HA,HK1,HO_3,HB⟩:=hrel
    cases gk with
    | zero=>exact absurd HA.out (by simp [jka.l0])
    | succ k1 =>
     have H:=HA.out
     clear HA
     simp only [jka.l0] at H
     by_cases c6:x4_1<(l0.length:Int)
     ·rw [if_pos c6] at H
      have c6b0:decide (x4_1<(l0.length:Int))=true:=dzT c6
      clear c6
      by_cases c7:0≤x4_1
      ·rw [if_pos c7] at H
       have c7b0:decide (0≤x4_1)=true:=dzT c7
       clear c7
       replace H:=bzS H
       obtain ⟨⟨t182,t183⟩,A80,H⟩:=H
       replace H:(if x4_1<(x3_1.length:Int) then (jka.l0 k1 l0 (x3_1.set (x4_1:Int).toNat (⟨t182,t183⟩:S78)) (wrap64 (x4_1+1))) else (none))=some r:=H
       have A8:=am A80
       clear A80
       by_cases c9:x4_1<(x3_1.length:Int)
       ·rw [if_pos c9] at H
        have c9b0:decide (x4_1<(x3_1.length:Int))=true:=dzT c9
        clear c9
        obtain ⟨y184,hy184⟩:∃ y_:List (S78),y_=(x3_1.set (x4_1:Int).toNat (⟨t182,t183⟩:S78)):=⟨_,rfl⟩
        replace H:(jka.l0 k1 l0 y184 (wrap64 (x4_1+1)))=some r:=by first |(rw [hy184];with_reducible exact H) |(have H2_:=(Option.bind_some _ _).symm.trans H;rw [hy184];with_reducible exact H2_) |(have H2_:=(Option.bind_some _ _).symm.trans H;with_reducible exact H2_) | with_reducible exact H |(rw [hy184];exact H) | exact H
        have Ny184:=am hy184
        clear hy184
        have H':=am H
        clear H
        have p181:0≤(x4_1:Int):=ozD (uq)
        have q181:x4_1<(l0.length:Int):=ozD (uq)
        obtain ⟨ad181,e181,hx181_0,hx181_1⟩:=at_T77 HR0.out x4_1 p181 q181
        cases e181
        replace hx181_0:=cb HB.out hx181_0
        replace hx181_1:=cb HB.out hx181_1
        replace p181:=ezT p181
        replace q181:=ezT q181
        go_wp2_with (first |((with_reducible refine jf (f:=60) rfl ?_);refine gL (some 20) Try.func60 #[.agg #[.string ((jeb l0 x4_1).f0), .int .i64 ((jeb l0 x4_1).f1)]] ?_;(with_reducible refine (jCb.calls ((jeb l0 x4_1).f0) ((jeb l0 x4_1).f1) t182 t183 _ A8.out).mono ?_);rintro e w11 ⟨rfl,hb⟩;refine ⟨_,rfl,?_⟩;replace HO_3:=am (Kd.jP (rq HO_3.out) hb);replace HB:=am (jd (bq) hb);(try clear hb);(try clear hb2);(try clear hk);(try clear hi);have p10:0≤(x4_1:Int):=ozD (uq);have q10:(x4_1:Int)<((x3_1.length:Int):Int):=ozD (uq);obtain ⟨go10,co10,eo10,gb10,gl10,cl10,HG10⟩:=Kd.R_form HO_3.out (by omega);(first | cases eo10 |(injection eo10 with ea_ en_ ec_;(first | subst ea_ |(injection ea_ with ea_;subst ea_));subst ec_;clear en_));have GB10:=am gb10;have GG10:=am HG10;clear gb10 gl10 HG10;obtain ⟨ce10,hcl10,hM10,hcc10,hfr10⟩:=Kd.jGb HO_3.out z78 (x4_1:Int) p10 q10;obtain rfl:=jPb hM10;have hx10_0:w11.cell? ⟨go10,(x4_1:Int).toNat * 2,none⟩=some (.string ((jF x3_1 x4_1).f0)):=hcc10 0 _ rfl;have hx10_1:w11.cell? ⟨go10,(x4_1:Int).toNat * 2+1,none⟩=some (.int .i64 ((jF x3_1 x4_1).f1)):=hcc10 1 _ rfl;have hf10_0:w11.frozen? ⟨go10,(x4_1:Int).toNat * 2,none⟩=false:=hfr10 0;have hf10_1:w11.frozen? ⟨go10,(x4_1:Int).toNat * 2+1,none⟩=false:=hfr10 1;clear hcl10 hcc10 hfr10 hM10;replace p10:=ezT p10;replace q10:=ezT q10;have HX12:=am (show Kd.R k78 78 w11 w.heap.size (fun _=>True) (.slice (some ⟨go10,0,none⟩) x3_1.length co10) x3_1 from (rq HO_3.out));obtain ⟨ce12,hcl12,hM12,hcc12,hfr12⟩:=Kd.jGb HX12.out z78 (x4_1:Int) (ozD (uq)) (by have h_:(x4_1:Int)<((x3_1.length:Int):Int):=ozD (uq);first | exact h_ |(have e_:=(Kd.jG HO_3.out).1;omega) | simpa using h_);obtain rfl:=jPb hM12;have HP12:=Kd.R_seg HX12.out (x4_1:Int) (ozD (uq)) (by have h_:(x4_1:Int)<((x3_1.length:Int):Int):=ozD (uq);first | exact h_ |(have e_:=(Kd.jG HO_3.out).1;omega) | simpa using h_) (seg:=[.string t182, .int .i64 t183]) (j:=0) hcl12 hcc12 (show 2≤2 from by decide) (x':=(⟨t182,t183⟩:S78)) (k78_mkM _ _ _ (⟨t182,t183⟩:S78) ) (fun _ hk=>hk);have hx12_0:=hcc12 0 _ rfl;(try simp only [show (k78).sz=2 from rfl,Nat.mul_one,Nat.add_zero] at hx12_0);have hf12_0:=hfr12 0;(try simp only [show (k78).sz=2 from rfl,Nat.mul_one,Nat.add_zero] at hf12_0);have hx12_1:=hcc12 1 _ rfl;(try simp only [show (k78).sz=2 from rfl,Nat.mul_one,Nat.add_zero] at hx12_1);have hf12_1:=hfr12 1;(try simp only [show (k78).sz=2 from rfl,Nat.mul_one,Nat.add_zero] at hf12_1);clear hcl12 hcc12 hfr12 hM12) |((with_reducible refine jqb (t:=78) (p:=21) rfl ?_);refine jZa (t:=78) (p:=21) (v:=?vo_w13) (w1:=((w11.setCell ⟨go10,(x4_1:Int).toNat * 2,none⟩ (.string t182)).setCell ⟨go10,(x4_1:Int).toNat * 2+1,none⟩ (.int .i64 t183))) ?hg ?ho ?hn ?hr ?_;(case ho=>rfl);(case hg=>rfl);(case hn=>rfl);(case hr=>exact Y7);intro w13 hw;have hg:w11.grownBy w13 (some go10):=(by rw [hw];exact HP12.2);have hp_:Kd.R k78 78 w13 w.heap.size (fun _=>True) (.slice (some ⟨go10,0,none⟩) x3_1.length co10) y184:=(by rw [hw,Ny184.out];exact HP12.1);clear HP12;replace HO_3:=am (hp_);replace HB:=am ((by rw [hw];exact jA (jA (HB.out) GB10.out) GB10.out:Below w.heap.size w w13));clear hg hw hp_))
        go_roundg k1
        case measure=>have:=HK1.out;omega
        case rel=>exact ⟨(y184),(wrap64 (x4_1+1)),(sq),H',⟨by have:=HK1.out;omega⟩,⟨rq HO_3.out⟩,⟨bq⟩⟩
       ·rw [if_neg c9] at H
        exact absurd H (by simp)
      ·rw [if_neg c7] at H
       exact absurd H (by simp)
     ·rw [if_neg c6] at H
      have c6b0:decide (x4_1<(l0.length:Int))=false:=dzF c6
      clear c6
      obtain rfl:=Option.some.inj H
      go_wp2
      go_ret
      exact ⟨_,Y0,rq HO_3.out,bq⟩
  ·rw [if_neg c3] at H
   exact absurd H (by simp)
 ·rw [if_neg c2] at H
  exact absurd H (by simp)
def jW.f (k : Nat) (l0_0 : List (S77)) : Option ((List (S78))) := (jka.f k l0_0).bind fun t188 => (some t188)
set_option maxHeartbeats 8000000 in
set_option maxRecDepth 100000 in
theorem jW.calls (k : Nat) (A0_0 : Option Addr) (c0_0 : Nat) (l0_0 : List (S77)) (r : List (S78)) (w : World) (hr0_0 : Kd.C k77 w A0_0 l0_0.length l0_0) (hc0_0 : l0_0.length ≤ c0_0) (h : jW.f k l0_0 = some r) :
  Calls Try.prog 10 #[.agg #[.slice A0_0 l0_0.length c0_0]] w fun e w'=>∃ v0_:Value,e=.returned (.agg #[v0_])∧Kd.R k78 78 w' w.heap.size (fun _=>True) v0_ r∧Below w.heap.size w w':=by
 have hu24:=Try.underlying24
 have hu32:=Try.underlying32
 have HR0_0:=am hr0_0
 have HC0_0:=am hc0_0
 clear hr0_0 hc0_0
 have HB:=am (Below.refl w.heap.size w)
 have H:((jka.f k l0_0).bind fun t188=>(some t188))=some r:=h
 clear h
 replace H:=bzS H
 obtain ⟨t188,A20,H⟩:=H
 replace H:(some t188)=some r:=H
 have A2:=am A20
 clear A20
 obtain rfl:=Option.some.inj H
 go_enter Try.func10,Try.ntmps10
 go_wp2_with (first |((with_reducible refine jO (N:=1) rfl ?_);refine bE (N:=1) (cs:=#[.slice A0_0 l0_0.length c0_0]) (t:=24) ?_;intro gb185 hg w3 hbox hb;have BK185:=am (hbox);have GW185:=am ((Y1:w.heap.size≤gb185));have GE185:=am ((Y1:w.heap.size≤gb185));replace HB:=am (jd (bq) hb);clear hb hbox hg) |((with_reducible refine jO (N:=2) rfl ?_);refine bE (N:=2) (cs:=#[.slice none 0 0]) (t:=32) ?_;intro gb186 hg w4 hbox hb;have BK186:=am (hbox);have GW186:=am ((Y37:w.heap.size≤gb186));have GE186:=am ((Y37:w.heap.size≤gb186));have NB185_186:=am ((by rw [hg];exact Nat.ne_of_lt (jHa (g:=gb185) (o:=.cells #[.slice A0_0 l0_0.length c0_0] 24 (0,0)) (kq BK185.out)):gb185≠gb186));have NB186_185:=am ((by rw [hg];exact Nat.ne_of_gt (jHa (g:=gb185) (o:=.cells #[.slice A0_0 l0_0.length c0_0] 24 (0,0)) (kq BK185.out)):gb186≠gb185));replace BK185:=am (jl (g:=gb185) (o:=.cells #[.slice A0_0 l0_0.length c0_0] 24 (0,0)) (kq BK185.out) hb);replace HB:=am (jd (by repeat (first |(with_reducible first | exact HB.out | apply jD | apply jh | apply jC | refine jA ?_ GE185.out) | exact HB.out)) hb);clear hb hbox hg) |((with_reducible refine jO (N:=3) rfl ?_);refine bE (N:=3) (cs:=#[.slice none 0 0]) (t:=32) ?_;intro gb187 hg w5 hbox hb;have BK187:=am (hbox);have GW187:=am ((Y38:w.heap.size≤gb187));have GE187:=am ((Y38:w.heap.size≤gb187));have NB185_187:=am ((by rw [hg];exact Nat.ne_of_lt (jHa (g:=gb185) (o:=.cells #[.slice A0_0 l0_0.length c0_0] 24 (0,0)) (kq BK185.out)):gb185≠gb187));have NB187_185:=am ((by rw [hg];exact Nat.ne_of_gt (jHa (g:=gb185) (o:=.cells #[.slice A0_0 l0_0.length c0_0] 24 (0,0)) (kq BK185.out)):gb187≠gb185));have NB186_187:=am ((by rw [hg];exact Nat.ne_of_lt (jHa (g:=gb186) (o:=.cells #[.slice none 0 0] 32 (0,0)) (kq BK186.out)):gb186≠gb187));have NB187_186:=am ((by rw [hg];exact Nat.ne_of_gt (jHa (g:=gb186) (o:=.cells #[.slice none 0 0] 32 (0,0)) (kq BK186.out)):gb187≠gb186));replace BK185:=am (jl (g:=gb185) (o:=.cells #[.slice A0_0 l0_0.length c0_0] 24 (0,0)) (kq BK185.out) hb);replace BK186:=am (jl (g:=gb186) (o:=.cells #[.slice none 0 0] 32 (0,0)) (kq BK186.out) hb);replace HB:=am (jd (by repeat (first |(with_reducible first | exact HB.out | apply jD | apply jh | apply jC | refine jA ?_ GE185.out | refine jA ?_ GE186.out) | exact HB.out)) hb);clear hb hbox hg;have hnb6:=NB185_186.out;have hnc6:=NB186_185.out;have hnb7:=NB185_187.out;have hnc7:=NB187_185.out;have hcz8_0:=bc0 BK185.out;have hfz8_0:=ja BK185.out 0) |((with_reducible refine jf (f:=32) rfl ?_);refine gL (some 6) Try.func32 #[.slice A0_0 l0_0.length c0_0] ?_;(with_reducible refine (jka.calls k _ _ l0_0 t188 _ ?side1 ?side2 A2.out).mono ?_);(case side1=>exact cq (Kd.jJ HR0_0.out HB.out));(case side2=>exact HC0_0.out);rintro e w9 ⟨v189,rfl,ho0,hb⟩;refine ⟨_,rfl,?_⟩;have HO190:=am (Kd.jLa ho0 (jL (Y26)));replace BK185:=am (jl (g:=gb185) (o:=.cells #[.slice A0_0 l0_0.length c0_0] 24 (0,0)) (kq BK185.out) hb);replace BK186:=am (jl (g:=gb186) (o:=.cells #[.slice none 0 0] 32 (0,0)) (kq BK186.out) hb);replace BK187:=am (jl (g:=gb187) (o:=.cells #[.slice none 0 0] 32 (0,0)) (kq BK187.out) hb);replace HB:=am (jd (Y26) hb);(try clear hb);(try clear hb2);(try clear hk);(try clear hi);(try clear ho0);obtain ⟨Ao10,co10,eo10⟩:=Kd.jOa HO190.out;subst eo10;have hnb11:=NB187_186.out;have hnc11:=NB186_187.out;have hcz12_0:=bc0 BK187.out;have hfz12_0:=ja BK187.out 0;have hcz13_0:=bc0 BK186.out;have hfz13_0:=ja BK186.out 0))
 refine bodyPost_ret (results_cell_row rfl _ _ gb186 32 #[.slice Ao10 t188.length co10] (0,0) _ rfl (by (with_reducible repeat (first | refine jU ?_ _ | refine jna ?_ | refine jga ?_ _));refine jvb (cs:=#[.slice none 0 0]) ?_ 0 _ rfl;(with_reducible repeat (first | refine jU ?_ _ | refine jna ?_ | refine jga ?_ _));refine jwb ?_ NB186_187.out _;(with_reducible repeat (first | refine jU ?_ _ | refine jna ?_ | refine jga ?_ _));exact BK186.out) Try.underlying32 rfl (by kernel_rfl)) rfl ?_
 exact ⟨_,Y0,by (with_reducible repeat (first | apply Kd.jib | apply Kd.jhb | apply Kd.jfb));exact Kd.jGa (Kd.R_far (p:=⟨gb186,0,none⟩) (Kd.R_far (p:=⟨gb187,0,none⟩) (Kd.R_types (Kd.R_types HO190.out BK187.out (by decide)) BK186.out (by decide)) (fun _ hk=>hk.1.2) (.slice Ao10 t188.length co10)) (fun _ hk=>hk.2) (.slice Ao10 t188.length co10)) (fun _ hk=>trivial),Y26⟩
def jJb.f (a0_0 : Int) (a0_1 : Int) (a0_2 : Int) (a0_3 : Int) : Option (Int × Int × Int × Int) := some (a0_0, a0_1, a0_2, a0_3)
set_option maxHeartbeats 8000000 in
set_option maxRecDepth 100000 in
theorem jJb.calls (a0_0 : Int) (a0_1 : Int) (a0_2 : Int) (a0_3 : Int) (r1 : Int) (r2 : Int) (r3 : Int) (r4 : Int) (w : World) (h : jJb.f a0_0 a0_1 a0_2 a0_3 = some (r1, r2, r3, r4)) :
  Calls Try.prog 33 #[.agg #[.int .i64 a0_0, .int .i64 a0_1, .int .i64 a0_2, .int .i64 a0_3]] w fun e w'=>e=.returned (.agg #[.int .i64 r1, .int .i64 r2, .int .i64 r3, .int .i64 r4])∧Below w.heap.size w w':=by
 have hu55:=Try.underlying55
 have hu52:=Try.underlying52
 have HB:=am (Below.refl w.heap.size w)
 have H:(some (a0_0,a0_1,a0_2,a0_3))=some (r1,r2,r3,r4):=h
 clear h
 simp only [Option.some.injEq,Prod.mk.injEq] at H
 obtain ⟨rfl,rfl,rfl,rfl⟩:=H
 go_enter Try.func33,Try.ntmps33
 go_wp2_with (first |((with_reducible refine jO (N:=1) rfl ?_);refine bE (N:=1) (cs:=#[.int .i64 a0_0, .int .i64 a0_1, .int .i64 a0_2, .int .i64 a0_3]) (t:=55) ?_;intro gb191 hg w2 hbox hb;have BK191:=am (hbox);have GW191:=am ((Y1:w.heap.size≤gb191));have GE191:=am ((Y1:w.heap.size≤gb191));replace HB:=am (jd (bq) hb);clear hb hbox hg) |((with_reducible refine jO (N:=2) rfl ?_);refine bE (N:=2) (cs:=#[.int .i64 0, .int .i64 0, .int .i64 0, .int .i64 0]) (t:=52) ?_;intro gb192 hg w3 hbox hb;have BK192:=am (hbox);have GW192:=am ((Y39:w.heap.size≤gb192));have GE192:=am ((Y39:w.heap.size≤gb192));have NB191_192:=am ((Y40:gb191≠gb192));have NB192_191:=am ((Y41:gb192≠gb191));replace BK191:=am (jl (g:=gb191) (o:=.cells #[.int .i64 a0_0, .int .i64 a0_1, .int .i64 a0_2, .int .i64 a0_3] 55 (0,0)) (kq BK191.out) hb);replace HB:=am (jd (by repeat (first |(with_reducible first | exact HB.out | apply jD | apply jh | apply jC | refine jA ?_ GE191.out) | exact HB.out)) hb);clear hb hbox hg) |((with_reducible refine jO (N:=3) rfl ?_);refine bE (N:=3) (cs:=#[.int .i64 0, .int .i64 0, .int .i64 0, .int .i64 0]) (t:=52) ?_;intro gb193 hg w4 hbox hb;have BK193:=am (hbox);have GW193:=am ((Y42:w.heap.size≤gb193));have GE193:=am ((Y42:w.heap.size≤gb193));have NB191_193:=am ((Y40:gb191≠gb193));have NB193_191:=am ((Y41:gb193≠gb191));have NB192_193:=am ((by rw [hg];exact Nat.ne_of_lt (jHa (g:=gb192) (o:=.cells #[.int .i64 0, .int .i64 0, .int .i64 0, .int .i64 0] 52 (0,0)) (kq BK192.out)):gb192≠gb193));have NB193_192:=am ((by rw [hg];exact Nat.ne_of_gt (jHa (g:=gb192) (o:=.cells #[.int .i64 0, .int .i64 0, .int .i64 0, .int .i64 0] 52 (0,0)) (kq BK192.out)):gb193≠gb192));replace BK191:=am (jl (g:=gb191) (o:=.cells #[.int .i64 a0_0, .int .i64 a0_1, .int .i64 a0_2, .int .i64 a0_3] 55 (0,0)) (kq BK191.out) hb);replace BK192:=am (jl (g:=gb192) (o:=.cells #[.int .i64 0, .int .i64 0, .int .i64 0, .int .i64 0] 52 (0,0)) (kq BK192.out) hb);replace HB:=am (jd (by repeat (first |(with_reducible first | exact HB.out | apply jD | apply jh | apply jC | refine jA ?_ GE191.out | refine jA ?_ GE192.out) | exact HB.out)) hb);clear hb hbox hg;have hnb5:=NB191_192.out;have hnc5:=NB192_191.out;have hnb6:=NB191_193.out;have hnc6:=NB193_191.out;have hcz7_0:=bc0 BK191.out;have hcz7_1:=bc1 BK191.out;have hcz7_2:=bc2 BK191.out;have hcz7_3:=bc3 BK191.out;have hfz7_0:=ja BK191.out 0;have hfz7_1:=ja BK191.out 1;have hfz7_2:=ja BK191.out 2;have hfz7_3:=ja BK191.out 3;have hnb8:=NB193_192.out;have hnc8:=NB192_193.out;have hcz9_0:=bc0 BK193.out;have hcz9_1:=bc1 BK193.out;have hcz9_2:=bc2 BK193.out;have hcz9_3:=bc3 BK193.out;have hfz9_0:=ja BK193.out 0;have hfz9_1:=ja BK193.out 1;have hfz9_2:=ja BK193.out 2;have hfz9_3:=ja BK193.out 3;have hcz10_0:=bc0 BK192.out;have hcz10_1:=bc1 BK192.out;have hcz10_2:=bc2 BK192.out;have hcz10_3:=bc3 BK192.out;have hfz10_0:=ja BK192.out 0;have hfz10_1:=ja BK192.out 1;have hfz10_2:=ja BK192.out 2;have hfz10_3:=ja BK192.out 3))
 refine bodyPost_ret (results_cell_row rfl _ _ gb192 52 #[.int .i64 a0_0, .int .i64 a0_1, .int .i64 a0_2, .int .i64 a0_3] (0,0) _ rfl (by (with_reducible repeat (first | refine jU ?_ _ | refine jna ?_ | refine jga ?_ _));refine jvb (cs:=#[.int .i64 a0_0, .int .i64 a0_1, .int .i64 a0_2, .int .i64 0]) ?_ 3 _ rfl;(with_reducible repeat (first | refine jU ?_ _ | refine jna ?_ | refine jga ?_ _));refine jvb (cs:=#[.int .i64 a0_0, .int .i64 a0_1, .int .i64 0, .int .i64 0]) ?_ 2 _ rfl;(with_reducible repeat (first | refine jU ?_ _ | refine jna ?_ | refine jga ?_ _));refine jvb (cs:=#[.int .i64 a0_0, .int .i64 0, .int .i64 0, .int .i64 0]) ?_ 1 _ rfl;(with_reducible repeat (first | refine jU ?_ _ | refine jna ?_ | refine jga ?_ _));refine jvb (cs:=#[.int .i64 0, .int .i64 0, .int .i64 0, .int .i64 0]) ?_ 0 _ rfl;(with_reducible repeat (first | refine jU ?_ _ | refine jna ?_ | refine jga ?_ _));refine jwb ?_ NB192_193.out _;(with_reducible repeat (first | refine jU ?_ _ | refine jna ?_ | refine jga ?_ _));refine jwb ?_ NB192_193.out _;(with_reducible repeat (first | refine jU ?_ _ | refine jna ?_ | refine jga ?_ _));refine jwb ?_ NB192_193.out _;(with_reducible repeat (first | refine jU ?_ _ | refine jna ?_ | refine jga ?_ _));refine jwb ?_ NB192_193.out _;(with_reducible repeat (first | refine jU ?_ _ | refine jna ?_ | refine jga ?_ _));exact BK192.out) Try.underlying52 rfl (by kernel_rfl)) rfl ?_
 exact ⟨Y0,by repeat (first |(with_reducible first | exact HB.out | apply jD | apply jh | apply jC | refine jA ?_ GE191.out | refine jA ?_ GE192.out | refine jA ?_ GE193.out) | exact HB.out)⟩
def jy.l0 : Nat → List (S55) → List (S52) → Int → Option ((List (S52)))
 | 0,_,_,_=>none
 | k+1,x0,x3,x4=>if x4<(x0.length:Int) then (if 0≤x4 then ((jJb.f ((jyb x0 x4).f0) ((jyb x0 x4).f1) ((jyb x0 x4).f2) ((jyb x0 x4).f3)).bind fun bt198=>(if x4<(x3.length:Int) then (jy.l0 k x0 (x3.set (x4:Int).toNat (⟨bt198.1,bt198.2.1,bt198.2.2.1,bt198.2.2.2⟩:S52)) (wrap64 (x4+1))) else (none))) else (none)) else (some x3)
def jy.f (k : Nat) (l0 : List (S55)) : Option ((List (S52))) := if 0 ≤ (l0.length : Int) then (if ((l0.length : Int) : Int).toNat ≤ 8796093022208 then (jy.l0 k l0 (List.replicate ((l0.length : Int) : Int).toNat z52) 0) else (none)) else (none)
set_option maxHeartbeats 8000000 in
set_option maxRecDepth 100000 in
theorem jy.calls (k : Nat) (A0 : Option Addr) (c0 : Nat) (l0 : List (S55)) (r : List (S52)) (w : World) (hr0 : Kd.C k55 w A0 l0.length l0) (hc0 : l0.length ≤ c0) (h : jy.f k l0 = some r) :
  Calls Try.prog 11 #[.slice A0 l0.length c0] w fun e w'=>∃ v0_:Value,e=.returned (v0_)∧Kd.R k52 52 w' w.heap.size (fun _=>True) v0_ r∧Below w.heap.size w w':=by
 have hu55:=Try.underlying55
 have hu52:=Try.underlying52
 have HR0:=am hr0
 have HC0:=am hc0
 clear hr0 hc0
 have HB:=am (Below.refl w.heap.size w)
 have H:(if 0≤(l0.length:Int) then (if ((l0.length:Int):Int).toNat≤8796093022208 then (jy.l0 k l0 (List.replicate ((l0.length:Int):Int).toNat z52) 0) else (none)) else (none))=some r:=h
 clear h
 by_cases c2:0≤(l0.length:Int)
 ·rw [if_pos c2] at H
  have c2b0:=ezT c2
  have c2b1:decide (0≤(l0.length:Int))=true:=dzT c2
  clear c2
  by_cases c3:((l0.length:Int):Int).toNat≤8796093022208
  ·rw [if_pos c3] at H
   have c3b0:=ezT c3
   have c3b1:decide (((l0.length:Int):Int).toNat≤8796093022208)=true:=dzT c3
   clear c3
   obtain ⟨y194,hy194⟩:∃ y_:List (S52),y_=(List.replicate ((l0.length:Int):Int).toNat z52):=⟨_,rfl⟩
   replace H:(jy.l0 k l0 y194 0)=some r:=by first |(rw [hy194];with_reducible exact H) |(have H2_:=(Option.bind_some _ _).symm.trans H;rw [hy194];with_reducible exact H2_) |(have H2_:=(Option.bind_some _ _).symm.trans H;with_reducible exact H2_) | with_reducible exact H |(rw [hy194];exact H) | exact H
   have Ny194:=am hy194
   clear hy194
   have H':=am H
   clear H
   go_enter Try.func11,Try.ntmps11
   go_wp2_with (first |((with_reducible refine jO (N:=7) rfl ?_);refine Kd.R_make k52 _ 52 rfl (N:=7) rfl 28 _ _ rfl (l0.length:Int) rfl rfl Try.underlying28 (.agg #[(.int .i64 0),(.int .i64 0),(.int .i64 0),(.int .i64 0)]) 32 info52 rfl (by decide) (by omega) z52 (ok:=fun _=>True) (okp:=fun _=>True) (k52_mkM _ _ _ z52 ) (fun _ hk=>hk) trivial (ozD (uq)) (Nat.le_trans (Nat.mul_le_mul_right _ (ozD (uq):(l0.length:Int).toNat≤8796093022208)) (by omega)) (Below.refl _ _) (Nat.le_refl _) ?_;intro v195 w4 ho5 hb hg_ hnew_;clear hg_ hnew_;(first | rw [← Ny194.out] at ho5 |(simp only [Int.reduceToNat] at ho5;rw [← Ny194.out] at ho5));have HO196:=am (Kd.jLa ho5 (jL (bq)));replace HB:=am (jd (bq) hb);clear hb ho5))
   go_loopg [4] k (fun kq v4 w'=>∃ (x3_1:List (S52)) (x4_1:Int),v4=.int .i64 x4_1∧jv (jy.l0 kq l0 x3_1 x4_1=some r)∧jv (kq≤k)∧jv (Kd.R k52 52 w' w.heap.size (fun _=>True) v195 x3_1)∧jv (Below w.heap.size w w'))
   case atStart=>exact ⟨(y194),(0),(sq),H',⟨Nat.le_refl _⟩,⟨rq HO196.out⟩,⟨bq⟩⟩
   case round =>
    clear H'
    try clear c1
    try clear c2
    try clear c2b0
    try clear c2b1
    try clear p2
    try clear c3
    try clear c3b0
    try clear c3b1
    obtain ⟨x3_1,x4_1,rfl,HA,HK1,HO_3,HB⟩:=hrel
    cases gk with
    | zero=>exact absurd HA.out (by simp [jy.l0])
    | succ k1 =>
     have H:=HA.out
     clear HA
     simp only [jy.l0] at H
     by_cases c6:x4_1<(l0.length:Int)
     ·rw [if_pos c6] at H
      have c6b0:decide (x4_1<(l0.length:Int))=true:=dzT c6
      clear c6
      by_cases c7:0≤x4_1
      ·rw [if_pos c7] at H
       have c7b0:decide (0≤x4_1)=true:=dzT c7
       clear c7
       replace H:=bzS H
       obtain ⟨⟨t198,t199,t200,t201⟩,A80,H⟩:=H
       replace H:(if x4_1<(x3_1.length:Int) then (jy.l0 k1 l0 (x3_1.set (x4_1:Int).toNat (⟨t198,t199,t200,t201⟩:S52)) (wrap64 (x4_1+1))) else (none))=some r:=H
       have A8:=am A80
       clear A80
       by_cases c9:x4_1<(x3_1.length:Int)
       ·rw [if_pos c9] at H
        have c9b0:decide (x4_1<(x3_1.length:Int))=true:=dzT c9
        clear c9
        obtain ⟨y202,hy202⟩:∃ y_:List (S52),y_=(x3_1.set (x4_1:Int).toNat (⟨t198,t199,t200,t201⟩:S52)):=⟨_,rfl⟩
        replace H:(jy.l0 k1 l0 y202 (wrap64 (x4_1+1)))=some r:=by first |(rw [hy202];with_reducible exact H) |(have H2_:=(Option.bind_some _ _).symm.trans H;rw [hy202];with_reducible exact H2_) |(have H2_:=(Option.bind_some _ _).symm.trans H;with_reducible exact H2_) | with_reducible exact H |(rw [hy202];exact H) | exact H
        have Ny202:=am hy202
        clear hy202
        have H':=am H
        clear H
        have p197:0≤(x4_1:Int):=ozD (uq)
        have q197:x4_1<(l0.length:Int):=ozD (uq)
        obtain ⟨ad197,e197,hx197_0,hx197_1,hx197_2,hx197_3⟩:=at_T55 HR0.out x4_1 p197 q197
        cases e197
        replace hx197_0:=cb HB.out hx197_0
        replace hx197_1:=cb HB.out hx197_1
        replace hx197_2:=cb HB.out hx197_2
        replace hx197_3:=cb HB.out hx197_3
        replace p197:=ezT p197
        replace q197:=ezT q197
        go_wp2_with (first |((with_reducible refine jf (f:=33) rfl ?_);refine gL (some 20) Try.func33 #[.agg #[.int .i64 ((jyb l0 x4_1).f0), .int .i64 ((jyb l0 x4_1).f1), .int .i64 ((jyb l0 x4_1).f2), .int .i64 ((jyb l0 x4_1).f3)]] ?_;(with_reducible refine (jJb.calls ((jyb l0 x4_1).f0) ((jyb l0 x4_1).f1) ((jyb l0 x4_1).f2) ((jyb l0 x4_1).f3) t198 t199 t200 t201 _ A8.out).mono ?_);rintro e w11 ⟨rfl,hb⟩;refine ⟨_,rfl,?_⟩;replace HO_3:=am (Kd.jP (rq HO_3.out) hb);replace HB:=am (jd (bq) hb);(try clear hb);(try clear hb2);(try clear hk);(try clear hi);have p10:0≤(x4_1:Int):=ozD (uq);have q10:(x4_1:Int)<((x3_1.length:Int):Int):=ozD (uq);obtain ⟨go10,co10,eo10,gb10,gl10,cl10,HG10⟩:=Kd.R_form HO_3.out (by omega);(first | cases eo10 |(injection eo10 with ea_ en_ ec_;(first | subst ea_ |(injection ea_ with ea_;subst ea_));subst ec_;clear en_));have GB10:=am gb10;have GG10:=am HG10;clear gb10 gl10 HG10;obtain ⟨ce10,hcl10,hM10,hcc10,hfr10⟩:=Kd.jGb HO_3.out z52 (x4_1:Int) p10 q10;obtain rfl:=jjb hM10;have hx10_0:w11.cell? ⟨go10,(x4_1:Int).toNat * 4,none⟩=some (.int .i64 ((jb x3_1 x4_1).f0)):=hcc10 0 _ rfl;have hx10_1:w11.cell? ⟨go10,(x4_1:Int).toNat * 4+1,none⟩=some (.int .i64 ((jb x3_1 x4_1).f1)):=hcc10 1 _ rfl;have hx10_2:w11.cell? ⟨go10,(x4_1:Int).toNat * 4+2,none⟩=some (.int .i64 ((jb x3_1 x4_1).f2)):=hcc10 2 _ rfl;have hx10_3:w11.cell? ⟨go10,(x4_1:Int).toNat * 4+3,none⟩=some (.int .i64 ((jb x3_1 x4_1).f3)):=hcc10 3 _ rfl;have hf10_0:w11.frozen? ⟨go10,(x4_1:Int).toNat * 4,none⟩=false:=hfr10 0;have hf10_1:w11.frozen? ⟨go10,(x4_1:Int).toNat * 4+1,none⟩=false:=hfr10 1;have hf10_2:w11.frozen? ⟨go10,(x4_1:Int).toNat * 4+2,none⟩=false:=hfr10 2;have hf10_3:w11.frozen? ⟨go10,(x4_1:Int).toNat * 4+3,none⟩=false:=hfr10 3;clear hcl10 hcc10 hfr10 hM10;replace p10:=ezT p10;replace q10:=ezT q10;have HX12:=am (show Kd.R k52 52 w11 w.heap.size (fun _=>True) (.slice (some ⟨go10,0,none⟩) x3_1.length co10) x3_1 from (rq HO_3.out));obtain ⟨ce12,hcl12,hM12,hcc12,hfr12⟩:=Kd.jGb HX12.out z52 (x4_1:Int) (ozD (uq)) (by have h_:(x4_1:Int)<((x3_1.length:Int):Int):=ozD (uq);first | exact h_ |(have e_:=(Kd.jG HO_3.out).1;omega) | simpa using h_);obtain rfl:=jjb hM12;have HP12:=Kd.R_seg HX12.out (x4_1:Int) (ozD (uq)) (by have h_:(x4_1:Int)<((x3_1.length:Int):Int):=ozD (uq);first | exact h_ |(have e_:=(Kd.jG HO_3.out).1;omega) | simpa using h_) (seg:=[.int .i64 t198, .int .i64 t199, .int .i64 t200, .int .i64 t201]) (j:=0) hcl12 hcc12 (show 4≤4 from by decide) (x':=(⟨t198,t199,t200,t201⟩:S52)) (k52_mkM _ _ _ (⟨t198,t199,t200,t201⟩:S52) ) (fun _ hk=>hk);have hx12_0:=hcc12 0 _ rfl;(try simp only [show (k52).sz=4 from rfl,Nat.mul_one,Nat.add_zero] at hx12_0);have hf12_0:=hfr12 0;(try simp only [show (k52).sz=4 from rfl,Nat.mul_one,Nat.add_zero] at hf12_0);have hx12_1:=hcc12 1 _ rfl;(try simp only [show (k52).sz=4 from rfl,Nat.mul_one,Nat.add_zero] at hx12_1);have hf12_1:=hfr12 1;(try simp only [show (k52).sz=4 from rfl,Nat.mul_one,Nat.add_zero] at hf12_1);have hx12_2:=hcc12 2 _ rfl;(try simp only [show (k52).sz=4 from rfl,Nat.mul_one,Nat.add_zero] at hx12_2);have hf12_2:=hfr12 2;(try simp only [show (k52).sz=4 from rfl,Nat.mul_one,Nat.add_zero] at hf12_2);have hx12_3:=hcc12 3 _ rfl;(try simp only [show (k52).sz=4 from rfl,Nat.mul_one,Nat.add_zero] at hx12_3);have hf12_3:=hfr12 3;(try simp only [show (k52).sz=4 from rfl,Nat.mul_one,Nat.add_zero] at hf12_3);clear hcl12 hcc12 hfr12 hM12) |((with_reducible refine jqb (t:=52) (p:=21) rfl ?_);refine jZa (t:=52) (p:=21) (v:=?vo_w13) (w1:=((((w11.setCell ⟨go10,(x4_1:Int).toNat * 4,none⟩ (.int .i64 t198)).setCell ⟨go10,(x4_1:Int).toNat * 4+1,none⟩ (.int .i64 t199)).setCell ⟨go10,(x4_1:Int).toNat * 4+2,none⟩ (.int .i64 t200)).setCell ⟨go10,(x4_1:Int).toNat * 4+3,none⟩ (.int .i64 t201))) ?hg ?ho ?hn ?hr ?_;(case ho=>rfl);(case hg=>rfl);(case hn=>rfl);(case hr=>exact Y7);intro w13 hw;have hg:w11.grownBy w13 (some go10):=(by rw [hw];exact HP12.2);have hp_:Kd.R k52 52 w13 w.heap.size (fun _=>True) (.slice (some ⟨go10,0,none⟩) x3_1.length co10) y202:=(by rw [hw,Ny202.out];exact HP12.1);clear HP12;replace HO_3:=am (hp_);replace HB:=am ((by rw [hw];exact jA (jA (jA (jA (HB.out) GB10.out) GB10.out) GB10.out) GB10.out:Below w.heap.size w w13));clear hg hw hp_))
        go_roundg k1
        case measure=>have:=HK1.out;omega
        case rel=>exact ⟨(y202),(wrap64 (x4_1+1)),(sq),H',⟨by have:=HK1.out;omega⟩,⟨rq HO_3.out⟩,⟨bq⟩⟩
       ·rw [if_neg c9] at H
        exact absurd H (by simp)
      ·rw [if_neg c7] at H
       exact absurd H (by simp)
     ·rw [if_neg c6] at H
      have c6b0:decide (x4_1<(l0.length:Int))=false:=dzF c6
      clear c6
      obtain rfl:=Option.some.inj H
      go_wp2
      go_ret
      exact ⟨_,Y0,rq HO_3.out,bq⟩
  ·rw [if_neg c3] at H
   exact absurd H (by simp)
 ·rw [if_neg c2] at H
  exact absurd H (by simp)
def jB.f (a0 : Int) (a1 : Int) (a2 : Int) : Option (Bool) := if a0 ≥ a1 then (some (decide (a0 ≤ a2))) else (some false)
set_option maxHeartbeats 8000000 in
set_option maxRecDepth 100000 in
theorem jB.calls (a0 : Int) (a1 : Int) (a2 : Int) (r : Bool) (w : World) (h : jB.f a0 a1 a2 = some r) :
  Calls Try.prog 53 #[.int .i64 a0, .int .i64 a1, .int .i64 a2] w fun e w'=>e=.returned (.bool r)∧jEa w w':=by
 have H:(if a0≥a1 then (some (decide (a0≤a2))) else (some false))=some r:=h
 clear h
 by_cases c4:a0≥a1
 ·rw [if_pos c4] at H
  have c4b0:decide (a1≤a0)=true:=dzT c4
  clear c4
  obtain rfl:=Option.some.inj H
  go_enter Try.func53,Try.ntmps53
  go_wp2
  go_ret
  exact ⟨sq,Y2⟩
 ·rw [if_neg c4] at H
  have c4b0:decide (a1≤a0)=false:=dzF c4
  clear c4
  obtain rfl:=Option.some.inj H
  go_enter Try.func53,Try.ntmps53
  go_wp2
  go_ret
  exact ⟨sq,Y2⟩
def jY.l0 : Nat → List (S52) → Int → Int → Option (Int)
 | 0,_,_,_=>none
 | k+1,x0,x1,x5=>if x5<(x0.length:Int) then (if 0≤x5 then (if 0≤x1 then (if x1<(x0.length:Int) then (if ((jb x0 x5).f0) > ((jb x0 x1).f0) then (jY.l0 k x0 x1 (wrap64 (x5+1))) else (some x5)) else (none)) else (none)) else (none)) else (some x5)
def jY.f (k : Nat) (l0 : List (S52)) (a1 : Int) : Option (Int) := jY.l0 k l0 a1 (wrap64 (a1 + 1))
set_option maxHeartbeats 8000000 in
set_option maxRecDepth 100000 in
theorem jY.calls (k : Nat) (A0 : Option Addr) (c0 : Nat) (l0 : List (S52)) (a1 : Int) (r : Int) (w : World) (hr0 : Kd.C k52 w A0 l0.length l0) (hc0 : l0.length ≤ c0) (h : jY.f k l0 a1 = some r) :
  Calls Try.prog 62 #[.slice A0 l0.length c0, .int .i64 a1] w fun e w'=>e=.returned (.int .i64 r)∧jEa w w':=by
 have HR0:=am hr0
 have HC0:=am hc0
 clear hr0 hc0
 have H:(jY.l0 k l0 a1 (wrap64 (a1+1)))=some r:=h
 clear h
 have H':=am H
 clear H
 go_enter Try.func62,Try.ntmps62
 go_wp2
 repeat (go_quiet (fail);try go_wp2)
 go_loopg [5] k (fun kq v5 w'=>∃ (x5_1:Int),v5=.int .i64 x5_1∧jv (jY.l0 kq l0 a1 x5_1=some r)∧jv (kq≤k)∧jEa w w')
 case atStart=>exact ⟨(wrap64 (a1+1)),(sq),H',⟨Nat.le_refl _⟩,Y2⟩
 case round =>
  clear H'
  try clear p2
  obtain ⟨x5_1,rfl,HA,HK1,⟨m1,rfl⟩⟩:=hrel
  cases gk with
  | zero=>exact absurd HA.out (by simp [jY.l0])
  | succ k1 =>
   have H:=HA.out
   clear HA
   simp only [jY.l0] at H
   by_cases c3:x5_1<(l0.length:Int)
   ·rw [if_pos c3] at H
    have c3b0:decide (x5_1<(l0.length:Int))=true:=dzT c3
    clear c3
    by_cases c4:0≤x5_1
    ·rw [if_pos c4] at H
     have c4b0:decide (0≤x5_1)=true:=dzT c4
     clear c4
     by_cases c5:0≤a1
     ·rw [if_pos c5] at H
      have c5b0:decide (0≤a1)=true:=dzT c5
      clear c5
      by_cases c6:a1<(l0.length:Int)
      ·rw [if_pos c6] at H
       have c6b0:decide (a1<(l0.length:Int))=true:=dzT c6
       clear c6
       by_cases c7:((jb l0 x5_1).f0) > ((jb l0 a1).f0)
       ·rw [if_pos c7] at H
        have c7b0:decide (((jb l0 a1).f0)<((jb l0 x5_1).f0))=true:=dzT c7
        clear c7
        have H':=am H
        clear H
        have p227:0≤(x5_1:Int):=ozD (uq)
        have q227:x5_1<(l0.length:Int):=ozD (uq)
        obtain ⟨ad227,e227,hx227_0,hx227_1,hx227_2,hx227_3⟩:=jX HR0.out x5_1 p227 q227
        cases e227
        replace p227:=ezT p227
        replace q227:=ezT q227
        have p228:0≤(a1:Int):=ozD (uq)
        have q228:a1<(l0.length:Int):=ozD (uq)
        obtain ⟨ad228,e228,hx228_0,hx228_1,hx228_2,hx228_3⟩:=jX HR0.out a1 p228 q228
        obtain rfl:ad227=ad228:=(by injection e228)
        replace p228:=ezT p228
        replace q228:=ezT q228
        go_wp2
        repeat (go_quiet (fail);try go_wp2)
        go_roundg k1
        case measure=>have:=HK1.out;omega
        case rel=>exact ⟨(wrap64 (x5_1+1)),(sq),H',⟨by have:=HK1.out;omega⟩,Y2⟩
       ·rw [if_neg c7] at H
        have c7b0:decide (((jb l0 a1).f0)<((jb l0 x5_1).f0))=false:=dzF c7
        clear c7
        obtain rfl:=Option.some.inj H
        have p227:0≤(x5_1:Int):=ozD (uq)
        have q227:x5_1<(l0.length:Int):=ozD (uq)
        obtain ⟨ad227,e227,hx227_0,hx227_1,hx227_2,hx227_3⟩:=jX HR0.out x5_1 p227 q227
        cases e227
        replace p227:=ezT p227
        replace q227:=ezT q227
        have p228:0≤(a1:Int):=ozD (uq)
        have q228:a1<(l0.length:Int):=ozD (uq)
        obtain ⟨ad228,e228,hx228_0,hx228_1,hx228_2,hx228_3⟩:=jX HR0.out a1 p228 q228
        obtain rfl:ad227=ad228:=(by injection e228)
        replace p228:=ezT p228
        replace q228:=ezT q228
        go_wp2
        repeat (go_quiet (fail);try go_wp2)
        go_ret
        exact ⟨sq,Y2⟩
      ·rw [if_neg c6] at H
       exact absurd H (by simp)
     ·rw [if_neg c5] at H
      exact absurd H (by simp)
    ·rw [if_neg c4] at H
     exact absurd H (by simp)
   ·rw [if_neg c3] at H
    have c3b0:decide (x5_1<(l0.length:Int))=false:=dzF c3
    clear c3
    obtain rfl:=Option.some.inj H
    go_wp2
    repeat (go_quiet (fail);try go_wp2)
    go_ret
    exact ⟨sq,Y2⟩
def jwa.l0 : Nat → ByteArray → Int → Int → Option (Bool)
 | 0,_,_,_=>none
 | k+1,x0,x5,x6=>if x6<x5 then (if 0≤x6 then (if x6<(x0.size:Int) then (if (bt x0 x6)<97 then (some false) else (if (bt x0 x6) > 122 then (some false) else (jwa.l0 k x0 x5 (wrap64 (x6+1))))) else (none)) else (none)) else ((jB.f (x0.size:Int) 1 6).bind fun t203=>(some t203))
def jwa.f (k : Nat) (a0 : ByteArray) : Option (Bool) := jwa.l0 k a0 (a0.size : Int) 0
set_option maxHeartbeats 8000000 in
set_option maxRecDepth 100000 in
theorem jwa.calls (k : Nat) (a0 : ByteArray) (r : Bool) (w : World) (h : jwa.f k a0 = some r) :
  Calls Try.prog 78 #[.string a0] w fun e w'=>e=.returned (.bool r)∧jEa w w':=by
 have H:(jwa.l0 k a0 (a0.size:Int) 0)=some r:=h
 clear h
 have H':=am H
 clear H
 go_enter Try.func78,Try.ntmps78
 go_wp2
 go_loopg [6] k (fun kq v6 w'=>∃ (x6_1:Int),v6=.int .i64 x6_1∧jv (jwa.l0 kq a0 (a0.size:Int) x6_1=some r)∧jv (kq≤k)∧jEa w w')
 case atStart=>exact ⟨(0),(sq),H',⟨Nat.le_refl _⟩,Y2⟩
 case round =>
  clear H'
  obtain ⟨x6_1,rfl,HA,HK1,⟨m1,rfl⟩⟩:=hrel
  cases gk with
  | zero=>exact absurd HA.out (by simp [jwa.l0])
  | succ k1 =>
   have H:=HA.out
   clear HA
   simp only [jwa.l0] at H
   by_cases c2:x6_1<(a0.size:Int)
   ·rw [if_pos c2] at H
    have c2b0:decide (x6_1<(a0.size:Int))=true:=dzT c2
    clear c2
    by_cases c3:0≤x6_1
    ·rw [if_pos c3] at H
     have c3b0:decide (0≤x6_1)=true:=dzT c3
     clear c3
     by_cases c4:x6_1<(a0.size:Int)
     ·rw [if_pos c4] at H
      have c4b0:decide (x6_1<(a0.size:Int))=true:=dzT c4
      clear c4
      by_cases c6:(bt a0 x6_1)<97
      ·rw [if_pos c6] at H
       have c6b0:decide ((bt a0 x6_1)<97)=true:=dzT c6
       clear c6
       obtain rfl:=Option.some.inj H
       have p5:0≤(x6_1:Int):=ozD (uq)
       have q5:x6_1<(a0.size:Int):=ozD (uq)
       have hx5:=bt_at a0 x6_1
       replace p5:=ezT p5
       replace q5:=ezT q5
       go_wp2
       go_ret
       exact ⟨sq,Y2⟩
      ·rw [if_neg c6] at H
       have c6b0:decide ((bt a0 x6_1)<97)=false:=dzF c6
       clear c6
       by_cases c8:(bt a0 x6_1) > 122
       ·rw [if_pos c8] at H
        have c8b0:decide (122<(bt a0 x6_1))=true:=dzT c8
        clear c8
        obtain rfl:=Option.some.inj H
        have p5:0≤(x6_1:Int):=ozD (uq)
        have q5:x6_1<(a0.size:Int):=ozD (uq)
        have hx5:=bt_at a0 x6_1
        replace p5:=ezT p5
        replace q5:=ezT q5
        have p7:0≤(x6_1:Int):=ozD (uq)
        have q7:x6_1<(a0.size:Int):=ozD (uq)
        have hx7:=bt_at a0 x6_1
        replace p7:=ezT p7
        replace q7:=ezT q7
        go_wp2
        go_ret
        exact ⟨sq,Y2⟩
       ·rw [if_neg c8] at H
        have c8b0:decide (122<(bt a0 x6_1))=false:=dzF c8
        clear c8
        have H':=am H
        clear H
        have p5:0≤(x6_1:Int):=ozD (uq)
        have q5:x6_1<(a0.size:Int):=ozD (uq)
        have hx5:=bt_at a0 x6_1
        replace p5:=ezT p5
        replace q5:=ezT q5
        have p7:0≤(x6_1:Int):=ozD (uq)
        have q7:x6_1<(a0.size:Int):=ozD (uq)
        have hx7:=bt_at a0 x6_1
        replace p7:=ezT p7
        replace q7:=ezT q7
        go_wp2
        go_roundg k1
        case measure=>have:=HK1.out;omega
        case rel=>exact ⟨(wrap64 (x6_1+1)),(sq),H',⟨by have:=HK1.out;omega⟩,Y2⟩
     ·rw [if_neg c4] at H
      exact absurd H (by simp)
    ·rw [if_neg c3] at H
     exact absurd H (by simp)
   ·rw [if_neg c2] at H
    have c2b0:decide (x6_1<(a0.size:Int))=false:=dzF c2
    clear c2
    replace H:=bzS H
    obtain ⟨t203,A90,H⟩:=H
    replace H:(some t203)=some r:=H
    have A9:=am A90
    clear A90
    obtain rfl:=Option.some.inj H
    go_wp2_with (first |((with_reducible refine jf (f:=53) rfl ?_);refine gL (some 22) Try.func53 #[.int .i64 (a0.size:Int), .int .i64 1, .int .i64 6] ?_;(with_reducible refine (jB.calls (a0.size:Int) 1 6 t203 _ A9.out).mono ?_);rintro e w' ⟨rfl,⟨nd,rfl⟩⟩;refine ⟨_,rfl,?_⟩))
    go_ret
    exact ⟨sq,Y2⟩

theorem impl_named1_calls (a b : ByteArray) (p : Int) (B : Nat) (w : World) (hB : B < w.heap.size) (hc : w.cell? ⟨B, 0, none⟩ = some (.string b)) :
  Calls Try.prog 102 #[.agg #[.string a, .int .i64 p], .pointer (some ⟨B,0,none⟩)] w fun e w'=>e=.returned (.bool (a.toList == b.toList))∧Below w.heap.size w w':=by
 have hne:B≠w.heap.size:=by omega
 go_enter Try.func102,Try.ntmps102
 go_wp2
 go_ret
 exact ⟨rfl,(Below.refl _ _).alloc (Nat.le_refl _) _⟩
set_option maxHeartbeats 8000000 in
set_option maxRecDepth 100000 in
theorem impl_named_idx (A_ : Option Addr) (c_ : Nat) (l : List (S78)) (B0_ : Nat) (p : S78 → Option Bool) (r : Int) (w : World) (hr : Kd.C k78 w A_ l.length l) (h : idxFrom p l 0 = some r)
  (hp:∀ W,Below w.heap.size w W→∀ (x:S78) (b:Bool),p x=some b→Calls Try.prog 102 #[.agg #[.string x.f0, .int .i64 x.f1], .pointer (some ⟨B0_,0,none⟩)] W fun e w'=>e=.returned (.bool b)∧Below W.heap.size W w') :
  Calls Try.prog 101 #[.slice A_ l.length c_, .func (.func 102) #[] #[.pointer (some ⟨B0_,0,none⟩)]] w fun e w'=>e=.returned (.int .i64 r)∧Below w.heap.size w w':=by
 have hm:l.length≤9223372036854775807:=Kd.C_max hr
 have HR:=am hr
 have HP:=am hp
 have H0:=am h
 clear hr hp h
 go_enter Try.func101,Try.ntmps101
 go_wp2
 go_loopw [5,8] (fun i5 i8 wr=>∃ k:Nat,k≤l.length∧i8=.int .i64 k∧jv (idxFrom p (l.drop k) k=some r)∧Below w.heap.size w wr) (fun _ i8 _=>l.length - (intOf i8).toNat)
 case atStart=>exact ⟨0,Nat.zero_le _,rfl,H0,Below.refl _ _⟩
 case round =>
  clear H0
  obtain ⟨k,hk,rfl,HA,hb⟩:=hrel
  by_cases hlt:k<l.length
  ·have HB:=am (idxFrom_step hlt HA.out)
   clear HA
   obtain ⟨ad,rfl,hx0,hx1⟩:=at_T78 HR.out (k:Int) (by omega) (by omega)
   have hrd:jF l (k:Int)=l[k]:=by simp [jF,List.getD_eq_getElem?_getD,hlt]
   replace hx0:=jja hb hx0
   replace hx1:=jja hb hx1
   rw [hrd] at hx0 hx1
   simp only [Int.toNat_natCast] at hx0 hx1
   clear hrd
   obtain ⟨b,hb1,hb0⟩:=HB.out
   have HQ:=am hb1
   clear hb1 HB
   cases b with
   | true =>
    have HZ:=am (by simpa using hb0:(k:Int)=r)
    clear hb0
    go_wp2_with (go_at_call 102;refine (HP.out _ hb _ _ HQ.out).mono ?_;rintro e w' ⟨rfl,hb2⟩)
    go_ret
    exact ⟨by rw [← HZ.out];rfl,jM hb hb.size hb2⟩
   | false =>
    have HZ:=am (by simpa using hb0:idxFrom p (l.drop (k+1)) (k+1)=some r)
    clear hb0
    go_wp2_with (go_at_call 102;refine (HP.out _ hb _ _ HQ.out).mono ?_;rintro e w' ⟨rfl,hb2⟩)
    go_roundw
    case rel=>exact ⟨k+1,hlt,by go_num,HZ,jM hb hb.size hb2⟩
    case measure=>simp [intOf];omega
  ·have HZ:=am (idxFrom_end (by omega) HA.out)
   clear HA
   go_wp2
   go_ret
   exact ⟨by rw [HZ.out];rfl,hb⟩
def jza.f (l0_0 : List S78) (a1 : ByteArray) : Option Int := idxFrom (fun x : S78 => some (x.f0.toList == a1.toList)) l0_0 0
set_option maxHeartbeats 8000000 in
set_option maxRecDepth 100000 in
theorem jza.calls (A0_0 : Option Addr) (c0_0 : Nat) (l0_0 : List (S78)) (a1 : ByteArray) (r : Int) (w : World) (hr0_0 : Kd.C k78 w A0_0 l0_0.length l0_0) (hc0_0 : l0_0.length ≤ c0_0) (h : jza.f l0_0 a1 = some r) :
  Calls Try.prog 79 #[.agg #[.slice A0_0 l0_0.length c0_0], .string a1] w fun e w'=>e=.returned (.int .i64 r)∧Below w.heap.size w w':=by
 have hu32:=Try.underlying32
 have HF:=am (fun W (hb:Below w.heap.size w W) (B:Nat) (hB:B<W.heap.size) (hc:W.cell? ⟨B,0,none⟩=some (.string a1))=>impl_named_idx A0_0 c0_0 l0_0 B (fun x:S78=>some (x.f0.toList == a1.toList)) r W (Kd.jJ hr0_0 hb) h (fun W' hb' x b hx=>by
  obtain rfl:=Option.some.inj hx
  exact impl_named1_calls x.f0 a1 x.f1 B W' (Nat.lt_of_lt_of_le hB hb'.size) (jja hb' hc)))
 clear h hr0_0
 go_enter Try.func79,Try.ntmps79
 go_wp2_with (go_at_call 101;refine (HF.out _ (((Below.refl _ _).alloc (Nat.le_refl _) _).alloc (by simp) _) _ (by simp) (by simp)).mono ?_;rintro e w' ⟨rfl,hb2⟩)
 go_ret
 exact ⟨rfl,(((Below.refl _ _).alloc (Nat.le_refl _) _).alloc (by simp) _).trans (hb2.mono (by simp;omega))⟩
end Go.Proofs.Ytkhiiiddbmgiaaa.P
end
