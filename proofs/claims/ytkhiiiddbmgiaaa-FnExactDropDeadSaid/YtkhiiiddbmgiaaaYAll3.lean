/- One part of the proofs on this program: functions of the program as plain functions, that the code comes to them, and facts on them. -/
import Derived.Test.YtkhiiiddbmgiaaaYAll1
import Derived.Test.YtkhiiiddbmgiaaaYAll2
import Derived.Test.YtkhiiiddbmgiaaaYWAuto
section
namespace Go.Proofs.Ytkhiiiddbmgiaaa.P
open Go.RowKit Go.Proofs.YtkhiiiddbmgiaaaW.PrintWords Go.Proofs.YtkhiiiddbmgiaaaW.PrintLast Go.Proofs.YtkhiiiddbmgiaaaW.PrintMore
attribute [local go_sem] jV jT jfa jea jL jK jU jS jc
set_option linter.unusedVariables false
set_option linter.unusedSimpArgs false
def jk.inB (a lo hi : Int) : Bool := decide (lo ≤ a) && decide (a ≤ hi)
theorem jDb (a lo hi : Int) : jE.f a lo hi = some (jk.inB a lo hi) := by
 unfold jE.f jk.inB
 by_cases h:lo≤a
 ·rw [if_pos h];simp [h]
 ·rw [if_neg h];simp [h]
theorem spec_opens_eq (a : Int) : jdc.f a = some (jk.inB a 7 12) := by
 unfold jdc.f
 rw [jDb];rfl
theorem spec_follows_eq (a : Int) : jYa.f a = some (jk.inB a 8 10) := by
 unfold jYa.f
 rw [jDb];rfl
def jk.off (p : List S52) (i : Int) (x : S52) : Bool :=
 if (if i=0 then decide (x.f0≠0) else if (wrap64 ((jb p (i - 1)).f0+1))<x.f0 then true else (jk.inB (jb p (i - 1)).f1 7 12 != (x.f0 == wrap64 ((jb p (i - 1)).f0+1)))) then true
 else decide (i+1=(p.length:Int)) && jk.inB x.f1 7 12
def jk.f (k : Nat) (l0_0 : List S78) (l1 : List S52) (a2 : Int) : Option Bool :=
 if 0≤a2 then if a2<(l1.length:Int) then
  (jga.f k l0_0 (jb l1 a2).f0 (jb l1 a2).f1 (jb l1 a2).f2 (jb l1 a2).f3).bind fun v =>
  if v=false then some false else if jk.inB (jb l1 a2).f0 0 5=false then some false else
  if jk.off l1 a2 (jb l1 a2) then some false else
  (if (jb l1 a2).f1=7 then jr.f k l1 a2 else some true).bind fun c1=>if c1=false then some false else
  (if (jb l1 a2).f1=5∨(jb l1 a2).f1=6 then jFa.f k l1 a2 else some true).bind fun c2=>if c2=false then some false else
  if jk.inB (jb l1 a2).f1 8 10=false then some true else
  (jKa.f k l1 a2).bind fun h=>if 0≤h then if h<(l1.length:Int) then some ((jb l1 h).f1 == 7 || jk.inB (jb l1 h).f1 8 10) else none else some false
 else none else none
def VX (W : World) (BX : Nat) (x : S52) : Prop := W.heap[BX]? = some (.cells #[.int .i64 x.f0, .int .i64 x.f1, .int .i64 x.f2, .int .i64 x.f3] 52 (0, 0))
theorem VX.below {W W' : World} {BX : Nat} {x : S52} (h : VX W BX x) (hb : Below W.heap.size W W') : VX W' BX x := (hb.block _ (jQa h)).trans h
theorem VX.cells {W : World} {BX : Nat} {x : S52} (h : VX W BX x) : W.cell? ⟨BX, 0, none⟩ = some (.int .i64 x.f0) ∧ W.cell? ⟨BX, 1, none⟩ = some (.int .i64 x.f1) ∧ W.cell? ⟨BX, 2, none⟩ = some (.int .i64 x.f2) ∧ W.cell? ⟨BX, 3, none⟩ = some (.int .i64 x.f3) :=
 ⟨(jCa h 0).trans rfl,(jCa h 1).trans rfl,(jCa h 2).trans rfl,(jCa h 3).trans rfl⟩
set_option maxHeartbeats 8000000 in
set_option maxRecDepth 100000 in
theorem jk.calls (k : Nat) (A0_0 : Option Addr) (c0_0 : Nat) (l0_0 : List S78) (A1 : Option Addr) (c1 : Nat) (l1 : List S52) (a2 : Int) (r : Bool) (w : World) (hr0_0 : Kd.C k78 w A0_0 l0_0.length l0_0) (hc0_0 : l0_0.length ≤ c0_0) (hr1 : Kd.C k52 w A1 l1.length l1) (hc1 : l1.length ≤ c1) (h : jk.f k l0_0 l1 a2 = some r) :
  Calls Try.prog 57 #[.agg #[.slice A0_0 l0_0.length c0_0], .slice A1 l1.length c1, .int .i64 a2] w fun e w'=>e=.returned (.bool r)∧Below w.heap.size w w':=by
 have hu32:=Try.underlying32
 have hu52:=Try.underlying52
 have hm:l1.length≤9223372036854775807:=Kd.C_max hr1
 unfold jk.f at h
 by_cases h0:0≤a2
 ·rw [if_pos h0] at h
  by_cases h1:a2<(l1.length:Int)
  ·rw [if_pos h1] at h
   obtain ⟨v,hv,h⟩:=bzS h
   have HN:=am (fun W (hb:Below w.heap.size w W)=>jga.calls k A0_0 c0_0 l0_0 _ _ _ _ v W (Kd.jI hr0_0 hb) hc0_0 hv)
   clear hv
   obtain ⟨ad,rfl,hx0,hx1,hx2,hx3⟩:=jaa hr1 a2 h0 h1
   have HR1:=am hr1
   clear hr0_0 hr1
   generalize hgx:jb l1 a2=x at h HN hx0 hx1 hx2 hx3
   clear hgx
   have X1:=am (show VX ((w.alloc (.cells #[.slice A0_0 l0_0.length c0_0] 32)).alloc (.cells #[.int .i64 x.f0, .int .i64 x.f1, .int .i64 x.f2, .int .i64 x.f3] 52)) (w.heap.size+1) x by have:=heap_alloc_new (w.alloc (.cells #[.slice A0_0 l0_0.length c0_0] 32)) (.cells #[.int .i64 x.f0, .int .i64 x.f1, .int .i64 x.f2, .int .i64 x.f3] 52);simpa [VX] using this)
   have HB1:=am (((Below.refl w.heap.size w).alloc (Nat.le_refl _) (.cells #[.slice A0_0 l0_0.length c0_0] 32)).alloc (by simp) (.cells #[.int .i64 x.f0, .int .i64 x.f1, .int .i64 x.f2, .int .i64 x.f3] 52))
   have hbt:=(Below.refl w.heap.size w).alloc (Nat.le_refl _) (.cells #[.slice A0_0 l0_0.length c0_0] 32)
   replace hx0:=jda hbt hx0
   replace hx1:=jda hbt hx1
   replace hx2:=jda hbt hx2
   replace hx3:=jda hbt hx3
   clear hbt
   have p0:=ezT h0
   have p1:=ezT h1
   cases v with
   | false =>
    obtain rfl:false=r:=by simpa using h
    clear h
    go_enter Try.func57,Try.ntmps57
    go_wp2_with (first |(go_at_call 84;refine (HN.out _ HB1.out).mono ?_;rintro e w2 ⟨rfl,hb2⟩;have X2:=am (VX.below X1.out hb2);have HB2:=am (jP HB1.out HB1.out.size hb2);clear hb2;obtain ⟨e0,e1,e2,e3⟩:=VX.cells X2.out))
    go_ret
    exact ⟨rfl,HB2.out⟩
   | true =>
    simp only [Bool.true_eq_false,if_false] at h
    cases h5:jk.inB x.f0 0 5 with
    | false =>
     have H5:=am h5
     rw [h5,if_pos rfl] at h
     obtain rfl:false=r:=by simpa using h
     clear h h5
     go_enter Try.func57,Try.ntmps57
     go_wp2_with (first |(go_at_call 84;refine (HN.out _ HB1.out).mono ?_;rintro e w2 ⟨rfl,hb2⟩;have X2:=am (VX.below X1.out hb2);have HB2:=am (jP HB1.out HB1.out.size hb2);clear hb2;obtain ⟨e0,e1,e2,e3⟩:=VX.cells X2.out) |(go_at_call 85;refine (jE.calls _ _ _ _ _ (jDb _ _ _)).mono ?_;rintro e w3 ⟨rfl,hd3⟩;have hb3:=hd3.below;clear hd3;have X3:=am (VX.below X2.out hb3);have HB3:=am (jP HB2.out HB2.out.size hb3);clear hb3 e0 e1 e2 e3;obtain ⟨e0,e1,e2,e3⟩:=VX.cells X3.out;rw [H5.out]))
     go_ret
     exact ⟨rfl,HB3.out⟩
    | true =>
     have H5:=am h5
     rw [h5] at h
     simp only [Bool.true_eq_false,if_false] at h
     clear h5
     have HH:=am h
     clear h
     go_enter Try.func57,Try.ntmps57
     go_upto_region 4 with (first |(go_at_call 84;refine (HN.out _ HB1.out).mono ?_;rintro e w2 ⟨rfl,hb2⟩;have X2:=am (VX.below X1.out hb2);have HB2:=am (jP HB1.out HB1.out.size hb2);clear hb2;obtain ⟨e0,e1,e2,e3⟩:=VX.cells X2.out) |(go_at_call 85;refine (jE.calls _ _ _ _ _ (jDb _ _ _)).mono ?_;rintro e w3 ⟨rfl,hd3⟩;have hb3:=hd3.below;clear hd3;have X3:=am (VX.below X2.out hb3);have HB3:=am (jP HB2.out HB2.out.size hb3);clear hb3 e0 e1 e2 e3;obtain ⟨e0,e1,e2,e3⟩:=VX.cells X3.out;rw [H5.out]))
     go_cut [77] (fun v77 wc=>v77=.bool (jk.off l1 a2 x)∧jo (VX wc (w.heap.size+1) x)∧jo (Below w.heap.size w wc))
     case first =>
      clear HH
      have HO:=am (fun (a:Int) (b:Bool) (hb:jk.inB a 7 12=b) W=>(jdc.calls a b W (by rw [spec_opens_eq,hb])).mono fun e w' h=>(⟨h.1,h.2.out⟩:e=.returned (.bool b)∧∃ m,w'=W.drewN m))
      have hw2:IntKind.i64.wrap (a2+1)=a2+1:=IntWalk.i64_in _ (by omega)
      by_cases z0:a2=0
      ·have b0:(a2 == 0)=true:=beq_iff_eq.2 z0
       have b0':decide (0<a2)=false:=dzF (by omega)
       by_cases zx:x.f0=0
       ·have b1:(x.f0 != 0)=false:=by simpa using zx
        have HE:=am (by unfold jk.off;rw [if_pos z0];simp [zx]:jk.off l1 a2 x=(decide (a2+1=(l1.length:Int)) && jk.inB x.f1 7 12))
        clear z0
        clear zx
        by_cases zl:a2+1=(l1.length:Int)
        ·have b3:(a2+1 == (l1.length:Int))=true:=by rw [beq_iff_eq];omega
         cases hx:jk.inB x.f1 7 12 with
         | true =>
          have HX:=am hx
          have HF:=am (by rw [HE.out,hx,dzT zl];rfl:jk.off l1 a2 x=true)
          clear zl hx HE
          go_big_quiet ((go_at_call 86;exact Calls.quiet_of (HO.out x.f1 _ HX.out _)))
          go_wp2
          go_meet
          case rel=>exact ⟨by rw [HF.out],X3,⟨jh HB3.out _⟩⟩
         | false =>
          have HX:=am hx
          have HF:=am (by rw [HE.out,hx];simp:jk.off l1 a2 x=false)
          clear zl hx HE
          go_big_quiet ((go_at_call 86;exact Calls.quiet_of (HO.out x.f1 _ HX.out _)))
          go_wp2
          go_meet
          case rel=>exact ⟨by rw [HF.out],X3,⟨jh HB3.out _⟩⟩
        ·have b3:(a2+1 == (l1.length:Int))=false:=by rw [beq_eq_false_iff_ne];omega
         have HF:=am (by rw [HE.out,dzF zl];rfl:jk.off l1 a2 x=false)
         clear zl HE
         go_big_quiet (fail)
         go_wp2
         go_meet
         case rel=>exact ⟨by rw [HF.out],X3,⟨jh HB3.out _⟩⟩
       ·have b1:(x.f0 != 0)=true:=by simpa using zx
        have HF:=am (by unfold jk.off;rw [if_pos z0];simp [zx]:jk.off l1 a2 x=true)
        clear zx z0
        go_big_quiet (fail)
        go_wp2
        go_meet
        case rel=>exact ⟨by rw [HF.out],X3,⟨jh HB3.out _⟩⟩
      ·have b0:(a2 == 0)=false:=beq_eq_false_iff_ne.2 z0
       have b0':decide (0<a2)=true:=dzT (by omega)
       have q0:0≤a2 - 1:=by omega
       have q1:a2 - 1<(l1.length:Int):=by omega
       obtain ⟨j,hj⟩:∃ j,a2 - 1=j:=⟨_,rfl⟩
       rw [hj] at q0 q1
       obtain ⟨ad',he,y0,y1,y2,y3⟩:=jaa HR1.out j q0 q1
       cases he
       replace y0:=jda HB3.out y0
       replace y1:=jda HB3.out y1
       clear y2 y3
       replace q0:=ezT q0
       replace q1:=ezT q1
       have HD:=am (by unfold jk.off;rw [if_neg z0]:jk.off l1 a2 x=if (if (wrap64 ((jb l1 (a2 - 1)).f0+1))<x.f0 then true else (jk.inB (jb l1 (a2 - 1)).f1 7 12 != (x.f0 == wrap64 ((jb l1 (a2 - 1)).f0+1)))) then true else decide (a2+1=(l1.length:Int)) && jk.inB x.f1 7 12)
       clear z0
       rw [hj] at HD
       generalize jb l1 j=y at HD y0 y1
       generalize hz:wrap64 (y.f0+1)=z at HD
       have HZ:=am hz
       by_cases zt:z<x.f0
       ·have b4:decide (z<x.f0)=true:=dzT zt
        have HF:=am (by rw [HD.out];simp [zt]:jk.off l1 a2 x=true)
        clear zt HD
        go_big_quiet (fail)
        go_wp2
        go_meet
        case rel=>exact ⟨by rw [HF.out],X3,⟨jh HB3.out _⟩⟩
       ·have b4:decide (z<x.f0)=false:=dzF zt
        cases hy:jk.inB y.f1 7 12 with
        | true =>
         have HY:=am hy
         by_cases ze:x.f0=z
         ·have b5:(x.f0 == z)=true:=beq_iff_eq.2 ze
          have HE:=am (by rw [HD.out,hy,b5];simp [zt]:jk.off l1 a2 x=(decide (a2+1=(l1.length:Int)) && jk.inB x.f1 7 12))
          clear zt HD hy ze
          by_cases zl:a2+1=(l1.length:Int)
          ·have b3:(a2+1 == (l1.length:Int))=true:=by rw [beq_iff_eq];omega
           cases hx:jk.inB x.f1 7 12 with
           | true =>
            have HX:=am hx
            have HF:=am (by rw [HE.out,hx,dzT zl];rfl:jk.off l1 a2 x=true)
            clear zl hx HE
            go_big_quiet (first |(go_at_call 86;exact Calls.quiet_of (HO.out y.f1 _ HY.out _)) |(go_at_call 86;exact Calls.quiet_of (HO.out x.f1 _ HX.out _)))
            go_wp2
            go_meet
            case rel=>exact ⟨by rw [HF.out],X3,⟨jh HB3.out _⟩⟩
           | false =>
            have HX:=am hx
            have HF:=am (by rw [HE.out,hx];simp:jk.off l1 a2 x=false)
            clear zl hx HE
            go_big_quiet (first |(go_at_call 86;exact Calls.quiet_of (HO.out y.f1 _ HY.out _)) |(go_at_call 86;exact Calls.quiet_of (HO.out x.f1 _ HX.out _)))
            go_wp2
            go_meet
            case rel=>exact ⟨by rw [HF.out],X3,⟨jh HB3.out _⟩⟩
          ·have b3:(a2+1 == (l1.length:Int))=false:=by rw [beq_eq_false_iff_ne];omega
           have HF:=am (by rw [HE.out,dzF zl];rfl:jk.off l1 a2 x=false)
           clear zl HE
           go_big_quiet ((go_at_call 86;exact Calls.quiet_of (HO.out y.f1 _ HY.out _)))
           go_wp2
           go_meet
           case rel=>exact ⟨by rw [HF.out],X3,⟨jh HB3.out _⟩⟩
         ·have b5:(x.f0 == z)=false:=beq_eq_false_iff_ne.2 ze
          have HF:=am (by rw [HD.out,hy,b5];simp:jk.off l1 a2 x=true)
          clear zt HD hy ze
          go_big_quiet ((go_at_call 86;exact Calls.quiet_of (HO.out y.f1 _ HY.out _)))
          go_wp2
          go_meet
          case rel=>exact ⟨by rw [HF.out],X3,⟨jh HB3.out _⟩⟩
        | false =>
         have HY:=am hy
         by_cases ze:x.f0=z
         ·have b5:(x.f0 == z)=true:=beq_iff_eq.2 ze
          have HF:=am (by rw [HD.out,hy,b5];simp:jk.off l1 a2 x=true)
          clear zt HD hy ze
          go_big_quiet ((go_at_call 86;exact Calls.quiet_of (HO.out y.f1 _ HY.out _)))
          go_wp2
          go_meet
          case rel=>exact ⟨by rw [HF.out],X3,⟨jh HB3.out _⟩⟩
         ·have b5:(x.f0 == z)=false:=beq_eq_false_iff_ne.2 ze
          have HE:=am (by rw [HD.out,hy,b5];simp [zt]:jk.off l1 a2 x=(decide (a2+1=(l1.length:Int)) && jk.inB x.f1 7 12))
          clear zt HD hy ze
          by_cases zl:a2+1=(l1.length:Int)
          ·have b3:(a2+1 == (l1.length:Int))=true:=by rw [beq_iff_eq];omega
           cases hx:jk.inB x.f1 7 12 with
           | true =>
            have HX:=am hx
            have HF:=am (by rw [HE.out,hx,dzT zl];rfl:jk.off l1 a2 x=true)
            clear zl hx HE
            go_big_quiet (first |(go_at_call 86;exact Calls.quiet_of (HO.out y.f1 _ HY.out _)) |(go_at_call 86;exact Calls.quiet_of (HO.out x.f1 _ HX.out _)))
            go_wp2
            go_meet
            case rel=>exact ⟨by rw [HF.out],X3,⟨jh HB3.out _⟩⟩
           | false =>
            have HX:=am hx
            have HF:=am (by rw [HE.out,hx];simp:jk.off l1 a2 x=false)
            clear zl hx HE
            go_big_quiet (first |(go_at_call 86;exact Calls.quiet_of (HO.out y.f1 _ HY.out _)) |(go_at_call 86;exact Calls.quiet_of (HO.out x.f1 _ HX.out _)))
            go_wp2
            go_meet
            case rel=>exact ⟨by rw [HF.out],X3,⟨jh HB3.out _⟩⟩
          ·have b3:(a2+1 == (l1.length:Int))=false:=by rw [beq_eq_false_iff_ne];omega
           have HF:=am (by rw [HE.out,dzF zl];rfl:jk.off l1 a2 x=false)
           clear zl HE
           go_big_quiet ((go_at_call 86;exact Calls.quiet_of (HO.out y.f1 _ HY.out _)))
           go_wp2
           go_meet
           case rel=>exact ⟨by rw [HF.out],X3,⟨jh HB3.out _⟩⟩
     case rest =>
      obtain ⟨rfl,X4,HB4⟩:=hcut
      clear X1 HB1
      have h:=HH.out
      clear HH
      obtain ⟨e0,e1,e2,e3⟩:=VX.cells X4.out
      have tok:True:=trivial
      have HO:=am (fun (a:Int) (b:Bool) (hb:jk.inB a 8 10=b) W=>jYa.calls a b W (by rw [spec_follows_eq,hb]))
      cases ho:jk.off l1 a2 x with
      | true =>
       rw [ho,if_pos rfl] at h
       obtain rfl:false=r:=by simpa using h
       clear h ho
       go_wp2
       go_ret
       exact ⟨rfl,HB4.out⟩
      | false =>
       rw [ho] at h
       simp only [Bool.false_eq_true,if_false] at h
       clear ho
       obtain ⟨c,hc,h⟩:=bzS h
       by_cases z7:x.f1=7
       ·rw [if_pos z7] at hc
        have HC:=am (fun W (hb:Below w.heap.size w W)=>jr.calls k _ c1 l1 a2 c W (Kd.jI HR1.out hb) hc1 hc)
        have b7:(x.f1 == 7)=true:=beq_iff_eq.2 z7
        have b5:(x.f1 == 5)=false:=beq_eq_false_iff_ne.2 (by omega)
        have b6:(x.f1 == 6)=false:=beq_eq_false_iff_ne.2 (by omega)
        cases c with
        | false =>
         obtain rfl:false=r:=by simpa using h
         clear h hc z7
         go_wp2_with (first |(go_at_call 87;refine (HC.out _ HB4.out).mono ?_;rintro e w5 ⟨rfl,hb5⟩;have X5:=am (VX.below X4.out hb5);have HB5:=am (jP HB4.out HB4.out.size hb5);clear hb5 e0 e1 e2 e3;obtain ⟨e0,e1,e2,e3⟩:=VX.cells X5.out))
         go_ret
         exact ⟨rfl,HB5.out⟩
        | true =>
         have hx:jk.inB x.f1 8 10=false:=by unfold jk.inB;rw [z7];rfl
         have HX:=am hx
         obtain rfl:true=r:=by simpa [z7,show jk.inB 7 8 10=false from rfl] using h
         clear h hc z7 hx
         go_wp2_with (first |(go_at_call 87;refine (HC.out _ HB4.out).mono ?_;rintro e w5 ⟨rfl,hb5⟩;have X5:=am (VX.below X4.out hb5);have HB5:=am (jP HB4.out HB4.out.size hb5);clear hb5 e0 e1 e2 e3;obtain ⟨e0,e1,e2,e3⟩:=VX.cells X5.out) |(go_at_call 89;have tk:=tok;clear tok;refine (HO.out x.f1 _ HX.out _).mono ?_;rintro e w6 ⟨rfl,hd6⟩;have hb6:=hd6.below;clear hd6;have X6:=am (VX.below X5.out hb6);have HB6:=am (jP HB5.out HB5.out.size hb6);clear hb6 e0 e1 e2 e3;obtain ⟨e0,e1,e2,e3⟩:=VX.cells X6.out))
         go_ret
         exact ⟨rfl,HB6.out⟩
       ·rw [if_neg z7] at hc
        obtain rfl:true=c:=by simpa using hc
        clear hc
        have b7:(x.f1 == 7)=false:=beq_eq_false_iff_ne.2 z7
        simp only [Bool.true_eq_false,if_false] at h
        obtain ⟨c,hc,h⟩:=bzS h
        by_cases z56:x.f1=5∨x.f1=6
        ·rw [if_pos z56] at hc
         have HC:=am (fun W (hb:Below w.heap.size w W)=>jFa.calls k _ c1 l1 a2 c W (Kd.jI HR1.out hb) hc1 hc)
         have hx:jk.inB x.f1 8 10=false:=by rcases z56 with z | z <;> (unfold jk.inB;rw [z];rfl)
         have HX:=am hx
         cases c with
         | false =>
          obtain rfl:false=r:=by simpa using h
          clear h hc hx
          rcases z56 with z | z
          ·have b5:(x.f1 == 5)=true:=beq_iff_eq.2 z
           clear z z7
           go_wp2_with (first |(go_at_call 88;refine (HC.out _ HB4.out).mono ?_;rintro e w5 ⟨rfl,hd5⟩;have hb5:=hd5.below;clear hd5;have X5:=am (VX.below X4.out hb5);have HB5:=am (jP HB4.out HB4.out.size hb5);clear hb5 e0 e1 e2 e3;obtain ⟨e0,e1,e2,e3⟩:=VX.cells X5.out))
           go_ret
           exact ⟨rfl,HB5.out⟩
          ·have b5:(x.f1 == 5)=false:=beq_eq_false_iff_ne.2 (by omega)
           have b6:(x.f1 == 6)=true:=beq_iff_eq.2 z
           clear z z7
           go_wp2_with (first |(go_at_call 88;refine (HC.out _ HB4.out).mono ?_;rintro e w5 ⟨rfl,hd5⟩;have hb5:=hd5.below;clear hd5;have X5:=am (VX.below X4.out hb5);have HB5:=am (jP HB4.out HB4.out.size hb5);clear hb5 e0 e1 e2 e3;obtain ⟨e0,e1,e2,e3⟩:=VX.cells X5.out))
           go_ret
           exact ⟨rfl,HB5.out⟩
         | true =>
          obtain rfl:true=r:=by simpa [hx] using h
          clear h hc hx
          rcases z56 with z | z
          ·have b5:(x.f1 == 5)=true:=beq_iff_eq.2 z
           clear z z7
           go_wp2_with (first |(go_at_call 88;refine (HC.out _ HB4.out).mono ?_;rintro e w5 ⟨rfl,hd5⟩;have hb5:=hd5.below;clear hd5;have X5:=am (VX.below X4.out hb5);have HB5:=am (jP HB4.out HB4.out.size hb5);clear hb5 e0 e1 e2 e3;obtain ⟨e0,e1,e2,e3⟩:=VX.cells X5.out) |(go_at_call 89;have tk:=tok;clear tok;refine (HO.out x.f1 _ HX.out _).mono ?_;rintro e w6 ⟨rfl,hd6⟩;have hb6:=hd6.below;clear hd6;have X6:=am (VX.below X5.out hb6);have HB6:=am (jP HB5.out HB5.out.size hb6);clear hb6 e0 e1 e2 e3;obtain ⟨e0,e1,e2,e3⟩:=VX.cells X6.out))
           go_ret
           exact ⟨rfl,HB6.out⟩
          ·have b5:(x.f1 == 5)=false:=beq_eq_false_iff_ne.2 (by omega)
           have b6:(x.f1 == 6)=true:=beq_iff_eq.2 z
           clear z z7
           go_wp2_with (first |(go_at_call 88;refine (HC.out _ HB4.out).mono ?_;rintro e w5 ⟨rfl,hd5⟩;have hb5:=hd5.below;clear hd5;have X5:=am (VX.below X4.out hb5);have HB5:=am (jP HB4.out HB4.out.size hb5);clear hb5 e0 e1 e2 e3;obtain ⟨e0,e1,e2,e3⟩:=VX.cells X5.out) |(go_at_call 89;have tk:=tok;clear tok;refine (HO.out x.f1 _ HX.out _).mono ?_;rintro e w6 ⟨rfl,hd6⟩;have hb6:=hd6.below;clear hd6;have X6:=am (VX.below X5.out hb6);have HB6:=am (jP HB5.out HB5.out.size hb6);clear hb6 e0 e1 e2 e3;obtain ⟨e0,e1,e2,e3⟩:=VX.cells X6.out))
           go_ret
           exact ⟨rfl,HB6.out⟩
        ·rw [if_neg z56] at hc
         obtain rfl:true=c:=by simpa using hc
         clear hc
         have b5:(x.f1 == 5)=false:=beq_eq_false_iff_ne.2 (fun z=>z56 (.inl z))
         have b6:(x.f1 == 6)=false:=beq_eq_false_iff_ne.2 (fun z=>z56 (.inr z))
         simp only [Bool.true_eq_false,if_false] at h
         clear z7 z56
         cases hx:jk.inB x.f1 8 10 with
         | false =>
          have HX:=am hx
          rw [hx,if_pos rfl] at h
          obtain rfl:true=r:=by simpa using h
          clear h hx
          go_wp2_with (first |(go_at_call 89;have tk:=tok;clear tok;refine (HO.out x.f1 _ HX.out _).mono ?_;rintro e w6 ⟨rfl,hd6⟩;have hb6:=hd6.below;clear hd6;have X6:=am (VX.below X4.out hb6);have HB6:=am (jP HB4.out HB4.out.size hb6);clear hb6 e0 e1 e2 e3;obtain ⟨e0,e1,e2,e3⟩:=VX.cells X6.out))
          go_ret
          exact ⟨rfl,HB6.out⟩
         | true =>
          have HX:=am hx
          rw [hx] at h
          simp only [Bool.true_eq_false,if_false] at h
          clear hx
          obtain ⟨q,hq,h⟩:=bzS h
          have HQ:=am (fun W (hb:Below w.heap.size w W)=>jKa.calls k _ c1 l1 a2 q W (Kd.jI HR1.out hb) hc1 hq)
          clear hq
          by_cases q0:0≤q
          ·rw [if_pos q0] at h
           have q0b:=dzT q0
           by_cases q1:q<(l1.length:Int)
           ·rw [if_pos q1] at h
            obtain ⟨ad',he,y0,y1,y2,y3⟩:=jaa HR1.out q q0 q1
            cases he
            generalize jb l1 q=y at h y0 y1
            have HK:=am y1
            clear y0 y1 y2 y3
            have q0:=ezT q0
            have q1:=ezT q1
            by_cases zy:y.f1=7
            ·have by7:(y.f1 == 7)=true:=beq_iff_eq.2 zy
             obtain rfl:true=r:=by simpa [zy] using h
             clear h zy
             go_wp2_with (first |(go_at_call 89;have tk:=tok;clear tok;refine (HO.out x.f1 _ HX.out _).mono ?_;rintro e w6 ⟨rfl,hd6⟩;have hb6:=hd6.below;clear hd6;have X6:=am (VX.below X4.out hb6);have HB6:=am (jP HB4.out HB4.out.size hb6);clear hb6 e0 e1 e2 e3;obtain ⟨e0,e1,e2,e3⟩:=VX.cells X6.out) |(go_at_call 90;refine (HQ.out _ HB6.out).mono ?_;rintro e w7 ⟨rfl,hd7⟩;have hb7:=hd7.below;clear hd7;have X7:=am (VX.below X6.out hb7);have HB7:=am (jP HB6.out HB6.out.size hb7);clear hb7 e0 e1 e2 e3;obtain ⟨e0,e1,e2,e3⟩:=VX.cells X7.out;have y1:=jda HB7.out HK.out))
             go_ret
             exact ⟨rfl,HB7.out⟩
            ·have by7:(y.f1 == 7)=false:=beq_eq_false_iff_ne.2 zy
             cases hy:jk.inB y.f1 8 10 with
             | true =>
              have HY:=am hy
              obtain rfl:true=r:=by rw [hy,by7] at h;simpa using h
              clear h hy zy
              go_wp2_with (first |(go_at_call 89;have tk:=tok;clear tok;refine (HO.out x.f1 _ HX.out _).mono ?_;rintro e w6 ⟨rfl,hd6⟩;have hb6:=hd6.below;clear hd6;have X6:=am (VX.below X4.out hb6);have HB6:=am (jP HB4.out HB4.out.size hb6);clear hb6 e0 e1 e2 e3;obtain ⟨e0,e1,e2,e3⟩:=VX.cells X6.out) |(go_at_call 90;refine (HQ.out _ HB6.out).mono ?_;rintro e w7 ⟨rfl,hd7⟩;have hb7:=hd7.below;clear hd7;have X7:=am (VX.below X6.out hb7);have HB7:=am (jP HB6.out HB6.out.size hb7);clear hb7 e0 e1 e2 e3;obtain ⟨e0,e1,e2,e3⟩:=VX.cells X7.out;have y1:=jda HB7.out HK.out) |(go_at_call 89;refine (HO.out y.f1 _ HY.out _).mono ?_;rintro e w8 ⟨rfl,hd8⟩;have hb8:=hd8.below;clear hd8;have X8:=am (VX.below X7.out hb8);have HB8:=am (jP HB7.out HB7.out.size hb8);clear hb8 e0 e1 e2 e3;obtain ⟨e0,e1,e2,e3⟩:=VX.cells X8.out))
              go_ret
              exact ⟨rfl,HB8.out⟩
             | false =>
              have HY:=am hy
              obtain rfl:false=r:=by rw [hy,by7] at h;simpa using h
              clear h hy zy
              go_wp2_with (first |(go_at_call 89;have tk:=tok;clear tok;refine (HO.out x.f1 _ HX.out _).mono ?_;rintro e w6 ⟨rfl,hd6⟩;have hb6:=hd6.below;clear hd6;have X6:=am (VX.below X4.out hb6);have HB6:=am (jP HB4.out HB4.out.size hb6);clear hb6 e0 e1 e2 e3;obtain ⟨e0,e1,e2,e3⟩:=VX.cells X6.out) |(go_at_call 90;refine (HQ.out _ HB6.out).mono ?_;rintro e w7 ⟨rfl,hd7⟩;have hb7:=hd7.below;clear hd7;have X7:=am (VX.below X6.out hb7);have HB7:=am (jP HB6.out HB6.out.size hb7);clear hb7 e0 e1 e2 e3;obtain ⟨e0,e1,e2,e3⟩:=VX.cells X7.out;have y1:=jda HB7.out HK.out) |(go_at_call 89;refine (HO.out y.f1 _ HY.out _).mono ?_;rintro e w8 ⟨rfl,hd8⟩;have hb8:=hd8.below;clear hd8;have X8:=am (VX.below X7.out hb8);have HB8:=am (jP HB7.out HB7.out.size hb8);clear hb8 e0 e1 e2 e3;obtain ⟨e0,e1,e2,e3⟩:=VX.cells X8.out))
              go_ret
              exact ⟨rfl,HB8.out⟩
           ·rw [if_neg q1] at h
            cases h
          ·rw [if_neg q0] at h
           have q0b:=dzF q0
           obtain rfl:false=r:=by simpa using h
           clear h q0
           go_wp2_with (first |(go_at_call 89;have tk:=tok;clear tok;refine (HO.out x.f1 _ HX.out _).mono ?_;rintro e w6 ⟨rfl,hd6⟩;have hb6:=hd6.below;clear hd6;have X6:=am (VX.below X4.out hb6);have HB6:=am (jP HB4.out HB4.out.size hb6);clear hb6 e0 e1 e2 e3;obtain ⟨e0,e1,e2,e3⟩:=VX.cells X6.out) |(go_at_call 90;refine (HQ.out _ HB6.out).mono ?_;rintro e w7 ⟨rfl,hd7⟩;have hb7:=hd7.below;clear hd7;have X7:=am (VX.below X6.out hb7);have HB7:=am (jP HB6.out HB6.out.size hb7);clear hb7 e0 e1 e2 e3;obtain ⟨e0,e1,e2,e3⟩:=VX.cells X7.out))
           go_ret
           exact ⟨rfl,HB7.out⟩
  ·rw [if_neg h1] at h
   cases h
 ·rw [if_neg h0] at h
  cases h
def jza.l0 : Nat → ByteArray → Int → Option (Bool)
 | 0,_,_=>none
 | k+1,x0,x3=>if x3<(x0.size:Int) then (if 0≤x3 then (if (bt x0 x3)<97 then (some false) else (if (bt x0 x3) > 122 then (some false) else (jza.l0 k x0 (wrap64 (x3+1))))) else (none)) else ((jE.f (x0.size:Int) 1 6).bind fun t152=>(some t152))
def jza.f (k : Nat) (a0 : ByteArray) : Option (Bool) := jza.l0 k a0 0
set_option maxHeartbeats 8000000 in
set_option maxRecDepth 100000 in
theorem jza.calls (k : Nat) (a0 : ByteArray) (r : Bool) (w : World) (h : jza.f k a0 = some r) :
  Calls Try.prog 91 #[.string a0] w fun e w'=>e=.returned (.bool r)∧jMa w w':=by
 have H:(jza.l0 k a0 0)=some r:=h
 clear h
 have H':=am H
 clear H
 go_enter Try.func91,Try.ntmps91
 go_wp2
 go_loopg [3] k (fun kq v3 w'=>∃ (x3_1:Int),v3=.int .i64 x3_1∧jo (jza.l0 kq a0 x3_1=some r)∧jo (kq≤k)∧jMa w w')
 case atStart=>exact ⟨(0),(sq),H',⟨Nat.le_refl _⟩,Y2⟩
 case round =>
  clear H'
  obtain ⟨x3_1,rfl,HA,HK1,⟨m1,rfl⟩⟩:=hrel
  cases gk with
  | zero=>exact absurd HA.out (by simp [jza.l0])
  | succ k1 =>
   have H:=HA.out
   clear HA
   simp only [jza.l0] at H
   by_cases c2:x3_1<(a0.size:Int)
   ·rw [if_pos c2] at H
    have c2b0:decide (x3_1<(a0.size:Int))=true:=dzT c2
    clear c2
    by_cases c3:0≤x3_1
    ·rw [if_pos c3] at H
     have c3b0:decide (0≤x3_1)=true:=dzT c3
     clear c3
     by_cases c5:(bt a0 x3_1)<97
     ·rw [if_pos c5] at H
      have c5b0:decide ((bt a0 x3_1)<97)=true:=dzT c5
      clear c5
      obtain rfl:=Option.some.inj H
      have p4:0≤(x3_1:Int):=ozD (uq)
      have q4:x3_1<(a0.size:Int):=ozD (uq)
      have hx4:=bt_at a0 x3_1
      replace p4:=ezT p4
      replace q4:=ezT q4
      go_wp2
      go_ret
      exact ⟨sq,Y2⟩
     ·rw [if_neg c5] at H
      have c5b0:decide ((bt a0 x3_1)<97)=false:=dzF c5
      clear c5
      by_cases c7:(bt a0 x3_1) > 122
      ·rw [if_pos c7] at H
       have c7b0:decide (122<(bt a0 x3_1))=true:=dzT c7
       clear c7
       obtain rfl:=Option.some.inj H
       have p4:0≤(x3_1:Int):=ozD (uq)
       have q4:x3_1<(a0.size:Int):=ozD (uq)
       have hx4:=bt_at a0 x3_1
       replace p4:=ezT p4
       replace q4:=ezT q4
       have p6:0≤(x3_1:Int):=ozD (uq)
       have q6:x3_1<(a0.size:Int):=ozD (uq)
       have hx6:=bt_at a0 x3_1
       replace p6:=ezT p6
       replace q6:=ezT q6
       go_wp2
       go_ret
       exact ⟨sq,Y2⟩
      ·rw [if_neg c7] at H
       have c7b0:decide (122<(bt a0 x3_1))=false:=dzF c7
       clear c7
       have H':=am H
       clear H
       have p4:0≤(x3_1:Int):=ozD (uq)
       have q4:x3_1<(a0.size:Int):=ozD (uq)
       have hx4:=bt_at a0 x3_1
       replace p4:=ezT p4
       replace q4:=ezT q4
       have p6:0≤(x3_1:Int):=ozD (uq)
       have q6:x3_1<(a0.size:Int):=ozD (uq)
       have hx6:=bt_at a0 x3_1
       replace p6:=ezT p6
       replace q6:=ezT q6
       go_wp2
       go_roundg k1
       case measure=>have:=HK1.out;omega
       case rel=>exact ⟨(wrap64 (x3_1+1)),(sq),H',⟨by have:=HK1.out;omega⟩,Y2⟩
    ·rw [if_neg c3] at H
     exact absurd H (by simp)
   ·rw [if_neg c2] at H
    have c2b0:decide (x3_1<(a0.size:Int))=false:=dzF c2
    clear c2
    replace H:=bzS H
    obtain ⟨t152,A80,H⟩:=H
    replace H:(some t152)=some r:=H
    have A8:=am A80
    clear A80
    obtain rfl:=Option.some.inj H
    go_wp2_with (first |((with_reducible refine je (f:=85) rfl ?_);refine gL (some 22) Try.func85 #[.int .i64 (a0.size:Int), .int .i64 1, .int .i64 6] ?_;(with_reducible refine (jE.calls (a0.size:Int) 1 6 t152 _ A8.out).mono ?_);rintro e w' ⟨rfl,⟨nd,rfl⟩⟩;refine ⟨_,rfl,?_⟩))
    go_ret
    exact ⟨sq,Y2⟩
def jua.l0 : Nat → List (S78) → ByteArray → Int → Option (Int)
 | 0,_,_,_=>none
 | k+1,x0,x1,x5=>if x5<(x0.length:Int) then (if 0≤x5 then (if ((jJ x0 x5).f0).toList=x1.toList then (some x5) else (jua.l0 k x0 x1 (wrap64 (x5+1)))) else (none)) else (some (-1))
def jua.f (k : Nat) (l0 : List (S78)) (a1 : ByteArray) : Option (Int) := jua.l0 k l0 a1 0
set_option maxHeartbeats 8000000 in
set_option maxRecDepth 100000 in
theorem jua.calls (k : Nat) (A0 : Option Addr) (c0 : Nat) (l0 : List (S78)) (a1 : ByteArray) (r : Int) (w : World) (hr0 : Kd.C k78 w A0 l0.length l0) (hc0 : l0.length ≤ c0) (h : jua.f k l0 a1 = some r) :
  Calls Try.prog 92 #[.slice A0 l0.length c0, .string a1] w fun e w'=>e=.returned (.int .i64 r)∧jMa w w':=by
 have HR0:=am hr0
 have HC0:=am hc0
 clear hr0 hc0
 have H:(jua.l0 k l0 a1 0)=some r:=h
 clear h
 have H':=am H
 clear H
 go_enter Try.func92,Try.ntmps92
 go_wp2
 go_loopg [5] k (fun kq v5 w'=>∃ (x5_1:Int),v5=.int .i64 x5_1∧jo (jua.l0 kq l0 a1 x5_1=some r)∧jo (kq≤k)∧jMa w w')
 case atStart=>exact ⟨(0),(sq),H',⟨Nat.le_refl _⟩,Y2⟩
 case round =>
  clear H'
  try clear p2
  obtain ⟨x5_1,rfl,HA,HK1,⟨m1,rfl⟩⟩:=hrel
  cases gk with
  | zero=>exact absurd HA.out (by simp [jua.l0])
  | succ k1 =>
   have H:=HA.out
   clear HA
   simp only [jua.l0] at H
   by_cases c3:x5_1<(l0.length:Int)
   ·rw [if_pos c3] at H
    have c3b0:decide (x5_1<(l0.length:Int))=true:=dzT c3
    clear c3
    by_cases c4:0≤x5_1
    ·rw [if_pos c4] at H
     have c4b0:decide (0≤x5_1)=true:=dzT c4
     clear c4
     by_cases c5:((jJ l0 x5_1).f0).toList=a1.toList
     ·rw [if_pos c5] at H
      have c5b0:(((jJ l0 x5_1).f0).toList == a1.toList)=true:=beq_iff_eq.mpr c5
      have c5b1:(((jJ l0 x5_1).f0).toList != a1.toList)=false:=bne_eq_false_iff_eq.mpr c5
      clear c5
      obtain rfl:=Option.some.inj H
      have p153:0≤(x5_1:Int):=ozD (uq)
      have q153:x5_1<(l0.length:Int):=ozD (uq)
      obtain ⟨ad153,e153,hx153_0,hx153_1⟩:=at_T78 HR0.out x5_1 p153 q153
      cases e153
      replace p153:=ezT p153
      replace q153:=ezT q153
      go_wp2
      go_ret
      exact ⟨sq,Y2⟩
     ·rw [if_neg c5] at H
      have c5b0:(((jJ l0 x5_1).f0).toList == a1.toList)=false:=beq_eq_false_iff_ne.mpr c5
      have c5b1:(((jJ l0 x5_1).f0).toList != a1.toList)=true:=bne_iff_ne.mpr c5
      have H':=am H
      clear H
      have p153:0≤(x5_1:Int):=ozD (uq)
      have q153:x5_1<(l0.length:Int):=ozD (uq)
      obtain ⟨ad153,e153,hx153_0,hx153_1⟩:=at_T78 HR0.out x5_1 p153 q153
      cases e153
      replace p153:=ezT p153
      replace q153:=ezT q153
      go_wp2
      go_roundg k1
      case measure=>have:=HK1.out;omega
      case rel=>exact ⟨(wrap64 (x5_1+1)),(sq),H',⟨by have:=HK1.out;omega⟩,Y2⟩
    ·rw [if_neg c4] at H
     exact absurd H (by simp)
   ·rw [if_neg c3] at H
    have c3b0:decide (x5_1<(l0.length:Int))=false:=dzF c3
    clear c3
    obtain rfl:=Option.some.inj H
    go_wp2
    go_ret
    exact ⟨sq,Y2⟩
mutual
def jH.l0 : Nat → Int → List (S78) → Option (Bool)
 | 0,_,_=>none
 | k+1,x3,x155000=>if x3<(x155000.length:Int) then (if 0≤x3 then ((jza.f k ((jJ x155000 x3).f0)).bind fun t158=>(if t158=true then (if x3≤(x155000.length:Int) then ((jua.f k (x155000.take (x3:Int).toNat) ((jJ x155000 x3).f0)).bind fun t163=>(if t163≥0 then (jH.j1 k x3 true x155000) else (if x3=0 then (if ((jJ x155000 x3).f1)=(-1) then (if x3 > 0 then ((jE.f ((jJ x155000 x3).f1) 0 (wrap64 (x3 - 1))).bind fun t164=>(jH.j1 k x3 (!t164) x155000)) else (jH.j1 k x3 false x155000)) else (jH.j1 k x3 true x155000)) else (if x3 > 0 then ((jE.f ((jJ x155000 x3).f1) 0 (wrap64 (x3 - 1))).bind fun t165=>(jH.j1 k x3 (!t165) x155000)) else (jH.j1 k x3 false x155000))))) else (none)) else (jH.j1 k x3 true x155000))) else (none)) else ((jE.f (x155000.length:Int) 1 8).bind fun t155=>(some t155))
def jH.j1 : Nat → Int → Bool → List (S78) → Option (Bool)
 | 0,_,_,_=>none
 | k+1,x3,x51,x155000=>if x51=true then (some false) else (jH.l0 k (wrap64 (x3+1)) x155000)
end
def jH.f (k : Nat) (l0_0 : List (S78)) : Option (Bool) := jH.l0 k 0 l0_0
set_option maxHeartbeats 8000000 in
set_option maxRecDepth 100000 in
theorem jH.calls (k : Nat) (A0_0 : Option Addr) (c0_0 : Nat) (l0_0 : List (S78)) (r : Bool) (w : World) (hr0_0 : Kd.C k78 w A0_0 l0_0.length l0_0) (hc0_0 : l0_0.length ≤ c0_0) (h : jH.f k l0_0 = some r) :
  Calls Try.prog 58 #[.agg #[.slice A0_0 l0_0.length c0_0]] w fun e w'=>e=.returned (.bool r)∧Below w.heap.size w w':=by
 have hu32:=Try.underlying32
 have hu78:=Try.underlying78
 have HR0_0:=am hr0_0
 have HC0_0:=am hc0_0
 clear hr0_0 hc0_0
 have HB:=am (Below.refl w.heap.size w)
 have H:(jH.l0 k 0 l0_0)=some r:=h
 clear h
 have H':=am H
 clear H
 go_enter Try.func58,Try.ntmps58
 go_wp2_with (first |((with_reducible refine jO (N:=1) rfl ?_);refine bE (N:=1) (cs:=#[.slice A0_0 l0_0.length c0_0]) (t:=32) ?_;intro gb154 hg w2 hbox hb;have BK154:=am (hbox);have GW154:=am ((Y1:w.heap.size≤gb154));have GE154:=am ((Y1:w.heap.size≤gb154));replace HB:=am (jd (bq) hb);clear hb hbox hg))
 go_loopg [3] k (fun kq v3 w'=>∃ (x3_1:Int),v3=.int .i64 x3_1∧jo (jH.l0 kq x3_1 l0_0=some r)∧jo (kq≤k)∧jo (w'.heap[gb154]?=some (.cells #[(.slice A0_0 l0_0.length c0_0)] 32 (0,0)))∧jo (Below w.heap.size w w'))
 case atStart=>exact ⟨(0),(sq),H',⟨Nat.le_refl _⟩,⟨kq BK154.out⟩,⟨Y12⟩⟩
 case round =>
  clear H'
  try clear c1
  try clear p2
  obtain ⟨x3_1,rfl,HA,HK1,BK154,HB⟩:=hrel
  cases gk with
  | zero=>exact absurd HA.out (by simp [jH.l0])
  | succ k1 =>
   have H:=HA.out
   clear HA
   simp only [jH.l0] at H
   by_cases c3:x3_1<(l0_0.length:Int)
   ·rw [if_pos c3] at H
    have c3b0:decide (x3_1<(l0_0.length:Int))=true:=dzT c3
    clear c3
    by_cases c4:0≤x3_1
    ·rw [if_pos c4] at H
     have c4b0:decide (0≤x3_1)=true:=dzT c4
     clear c4
     have HC5:=am H
     clear H
     have hcz6_0:=bc0 BK154.out
     have hfz6_0:=ja BK154.out 0
     have p156:0≤(x3_1:Int):=ozD (uq)
     have q156:x3_1<(l0_0.length:Int):=ozD (uq)
     obtain ⟨ad156,e156,hx156_0,hx156_1⟩:=at_T78 HR0_0.out x3_1 p156 q156
     cases e156
     replace hx156_0:=cb HB.out hx156_0
     replace hx156_1:=cb HB.out hx156_1
     replace p156:=ezT p156
     replace q156:=ezT q156
     go_upto_region 5 with (first |((with_reducible refine jO (N:=4) rfl ?_);refine bE (N:=4) (cs:=#[.string (⟨#[]⟩:ByteArray), .int .i64 0]) (t:=78) ?_;intro gb157 hg w7 hbox hb;have BK157:=am (hbox);have GW157:=am ((Y52:w.heap.size≤gb157));have GE157:=am ((Y52:w.heap.size≤gb157));have NB154_157:=am ((by rw [hg];exact Nat.ne_of_lt (jQa (g:=gb154) (o:=.cells #[.slice (some ad156) l0_0.length c0_0] 32 (0,0)) (kq BK154.out)):gb154≠gb157));have NB157_154:=am ((by rw [hg];exact Nat.ne_of_gt (jQa (g:=gb154) (o:=.cells #[.slice (some ad156) l0_0.length c0_0] 32 (0,0)) (kq BK154.out)):gb157≠gb154));replace BK154:=am (jm (g:=gb154) (o:=.cells #[.slice (some ad156) l0_0.length c0_0] 32 (0,0)) (kq BK154.out) hb);replace HB:=am (jd (Y12) hb);clear hb hbox hg;have hnb8:=NB157_154.out;have hnc8:=NB154_157.out;have hcz9_0:=bc0 BK157.out;have hcz9_1:=bc1 BK157.out;have hfz9_0:=ja BK157.out 0;have hfz9_1:=ja BK157.out 1))
     (try simp only [Act.put,List.setIfInBounds_toArray,List.set_cons_zero,List.set_cons_succ])
     go_cut [51] (fun v51 wc=>∃ (kq:Nat) (x51_4:Bool),v51=.bool x51_4∧jo (jH.j1 kq x3_1 x51_4 l0_0=some r)∧jo (kq≤k1)∧jo (wc.heap[gb154]?=some (.cells #[(.slice (some ad156) l0_0.length c0_0)] 32 (0,0)))∧jo (wc.heap[gb157]?=some (.cells #[.string ((jJ l0_0 x3_1).f0), .int .i64 ((jJ l0_0 x3_1).f1)] 78 (0,0)))∧jo (Below w.heap.size w wc))
     case first =>
      have n0_:jo (((w7.setCell ⟨gb157,0,none⟩ (.string ((jJ l0_0 x3_1).f0))).setCell ⟨gb157,1,none⟩ (.int .i64 ((jJ l0_0 x3_1).f1))).heap[gb154]?=some (.cells #[.slice (some ad156) l0_0.length c0_0] 32 (0,0))):=⟨by (with_reducible repeat (first | refine jY ?_ _ | refine jma ?_ | refine jia ?_ _));refine jGb ?_ NB154_157.out _;(with_reducible repeat (first | refine jY ?_ _ | refine jma ?_ | refine jia ?_ _));refine jGb ?_ NB154_157.out _;(with_reducible repeat (first | refine jY ?_ _ | refine jma ?_ | refine jia ?_ _));exact BK154.out⟩
      have n1_:jo (((w7.setCell ⟨gb157,0,none⟩ (.string ((jJ l0_0 x3_1).f0))).setCell ⟨gb157,1,none⟩ (.int .i64 ((jJ l0_0 x3_1).f1))).heap[gb157]?=some (.cells #[.string ((jJ l0_0 x3_1).f0), .int .i64 ((jJ l0_0 x3_1).f1)] 78 (0,0))):=⟨by (with_reducible repeat (first | refine jY ?_ _ | refine jma ?_ | refine jia ?_ _));refine jFb (cs:=#[.string ((jJ l0_0 x3_1).f0), .int .i64 0]) ?_ 1 _ rfl;(with_reducible repeat (first | refine jY ?_ _ | refine jma ?_ | refine jia ?_ _));refine jFb (cs:=#[.string (⟨#[]⟩:ByteArray), .int .i64 0]) ?_ 0 _ rfl;(with_reducible repeat (first | refine jY ?_ _ | refine jma ?_ | refine jia ?_ _));exact BK157.out⟩
      have n2_:jo (Below w.heap.size w ((w7.setCell ⟨gb157,0,none⟩ (.string ((jJ l0_0 x3_1).f0))).setCell ⟨gb157,1,none⟩ (.int .i64 ((jJ l0_0 x3_1).f1)))):=⟨Y35⟩
      clear BK154 BK157 HB hcz9_0 hcz9_1 hfz9_0 hfz9_1
      generalize ((w7.setCell ⟨gb157,0,none⟩ (.string ((jJ l0_0 x3_1).f0))).setCell ⟨gb157,1,none⟩ (.int .i64 ((jJ l0_0 x3_1).f1)))=w16 at n0_ n1_ n2_ ⊢
      have BK154:=n0_
      have BK157:=n1_
      have HB:=n2_
      clear n0_ n1_ n2_
      have HRW:=am (Kd.jI HR0_0.out HB.out)
      have e0:w16.cell? ⟨gb157,0,none⟩=some (.string ((jJ l0_0 x3_1).f0)):=(jCa BK157.out 0).trans rfl
      have e1:w16.cell? ⟨gb157,1,none⟩=some (.int .i64 ((jJ l0_0 x3_1).f1)):=(jCa BK157.out 1).trans rfl
      have e2:w16.cell? ⟨gb154,0,none⟩=some (.slice (some ad156) l0_0.length c0_0):=(jCa BK154.out 0).trans rfl
      have H:=HC5.out
      clear HC5
      obtain ⟨v,hv,H⟩:=bzS H
      have HN:=am (fun W=>(jza.calls k1 _ v W hv).mono fun e w' h=>(⟨h.1,h.2.out⟩:e=.returned (.bool v)∧∃ m,w'=W.drewN m))
      clear hv hx156_0 hx156_1
      generalize hgx:jJ l0_0 x3_1=x at H e0 e1 HN BK157
      have HGX:=am hgx
      clear hgx
      cases v with
      | false =>
       have H':=am (show jH.j1 k1 x3_1 true l0_0=some r from H)
       clear H
       go_big_quiet ((go_at_call 91;exact Calls.quiet_of (HN.out _)))
       go_wp2
       go_meet
       case rel=>exact ⟨_,_,rfl,H',⟨by have:=HK1.out;omega⟩,⟨jY BK154.out _⟩,⟨by rw [HGX.out];exact jY BK157.out _⟩,⟨jh HB.out _⟩⟩
      | true =>
       replace H:(if x3_1≤(l0_0.length:Int) then ((jua.f k1 (l0_0.take (x3_1:Int).toNat) x.f0).bind fun t163=>(if t163≥0 then (jH.j1 k1 x3_1 true l0_0) else (if x3_1=0 then (if x.f1=(-1) then (if x3_1 > 0 then ((jE.f x.f1 0 (wrap64 (x3_1 - 1))).bind fun t164=>(jH.j1 k1 x3_1 (!t164) l0_0)) else (jH.j1 k1 x3_1 false l0_0)) else (jH.j1 k1 x3_1 true l0_0)) else (if x3_1 > 0 then ((jE.f x.f1 0 (wrap64 (x3_1 - 1))).bind fun t165=>(jH.j1 k1 x3_1 (!t165) l0_0)) else (jH.j1 k1 x3_1 false l0_0))))) else (none))=some r:=H
       have hle:x3_1≤(l0_0.length:Int):=by have:=ozD c3b0;omega
       have h0:0≤x3_1:=ozD c4b0
       rw [if_pos hle] at H
       obtain ⟨c,hc,H⟩:=bzS H
       obtain ⟨i0,hi0,_,_,_⟩:=info_parts info78
       have hcut:=cut_to (P:=Try.prog) 30 78 .i64 Try.underlying30 hi0 (some ad156) l0_0.length c0_0 x3_1 h0 hle HC0_0.out
       have hr18:=Kd.C_take (m:=(x3_1:Int).toNat) HRW.out (by omega)
       obtain ⟨y,hy⟩:∃ y:List S78,y=l0_0.take (x3_1:Int).toNat:=⟨_,rfl⟩
       have hyl:y.length=(x3_1:Int).toNat:=by rw [hy,List.length_take];omega
       have hyc:y.length≤c0_0:=by have:=HC0_0.out;omega
       rw [← hy] at hr18
       rw [← hyl] at hcut
       rw [← hy] at hc
       have HCN:=am (fun m=>(jua.calls k1 _ _ y x.f0 c (w16.drewN m) (Kd.C_drewN hr18 m) hyc hc).mono fun e w' h=>(⟨h.1,h.2.out⟩:e=.returned (.int .i64 c)∧∃ m',w'=(w16.drewN m).drewN m'))
       clear hr18 hc hy hyl hyc
       have b0:=ezT h0
       have b1:=ezT hle
       by_cases hc0:c≥0
       ·rw [if_pos hc0] at H
        have b2:decide (0≤c)=true:=dzT hc0
        have H':=am H
        clear H hc0 h0 hle
        go_big_quiet (first |(go_at_call 91;exact Calls.quiet_of (HN.out _)) |(go_at_call 92;exact Calls.quiet_of (HCN.out _)))
        go_wp2
        go_meet
        case rel=>exact ⟨_,_,rfl,H',⟨by have:=HK1.out;omega⟩,⟨jY BK154.out _⟩,⟨by rw [HGX.out];exact jY BK157.out _⟩,⟨jh HB.out _⟩⟩
       ·rw [if_neg hc0] at H
        have b2:decide (0≤c)=false:=dzF hc0
        clear hc0
        by_cases hz:x3_1=0
        ·rw [if_pos hz] at H
         have b3:(x3_1 == 0)=true:=beq_iff_eq.2 hz
         have b4:decide (0<x3_1)=false:=dzF (by omega)
         by_cases hf:x.f1 = -1
         ·rw [if_pos hf,if_neg (by omega)] at H
          have b5:(x.f1 != -1)=false:=by simpa using hf
          have H':=am H
          clear H hf h0 hle hz
          go_big_quiet (first |(go_at_call 91;exact Calls.quiet_of (HN.out _)) |(go_at_call 92;exact Calls.quiet_of (HCN.out _)))
          go_wp2
          go_meet
          case rel=>exact ⟨_,_,rfl,H',⟨by have:=HK1.out;omega⟩,⟨jY BK154.out _⟩,⟨by rw [HGX.out];exact jY BK157.out _⟩,⟨jh HB.out _⟩⟩
         ·rw [if_neg hf] at H
          have b5:(x.f1 != -1)=true:=by simpa using hf
          have H':=am H
          clear H hf h0 hle hz
          go_big_quiet (first |(go_at_call 91;exact Calls.quiet_of (HN.out _)) |(go_at_call 92;exact Calls.quiet_of (HCN.out _)))
          go_wp2
          go_meet
          case rel=>exact ⟨_,_,rfl,H',⟨by have:=HK1.out;omega⟩,⟨jY BK154.out _⟩,⟨by rw [HGX.out];exact jY BK157.out _⟩,⟨jh HB.out _⟩⟩
        ·rw [if_neg hz,if_pos (by omega)] at H
         have b3:(x3_1 == 0)=false:=beq_eq_false_iff_ne.2 hz
         have b4:decide (0<x3_1)=true:=dzT (by omega)
         obtain ⟨t,ht,H⟩:=bzS H
         have H':=am H
         have HI:=am (fun W=>(jE.calls _ _ _ t W ht).mono fun e w' h=>(⟨h.1,h.2.out⟩:e=.returned (.bool t)∧∃ m,w'=W.drewN m))
         clear H ht h0 hle hz
         go_big_quiet (first |(go_at_call 91;exact Calls.quiet_of (HN.out _)) |(go_at_call 92;exact Calls.quiet_of (HCN.out _)) |(go_at_call 85;exact Calls.quiet_of (HI.out _)))
         go_wp2
         go_meet
         case rel=>exact ⟨_,_,rfl,H',⟨by have:=HK1.out;omega⟩,⟨jY BK154.out _⟩,⟨by rw [HGX.out];exact jY BK157.out _⟩,⟨jh HB.out _⟩⟩
     case rest =>
      clear HC5
      try clear c1
      try clear c2
      try clear p2
      try clear c3
      try clear q3
      try clear p6
      try clear c11
      try clear c12
      try clear c13
      try clear c21
      try clear c32
      try clear c32b0
      try clear q39
      try clear q39
      obtain ⟨kq,x51_4,rfl,HA,HJ4,BK154,BK157,HB⟩:=hcut
      cases kq with
      | zero=>exact absurd HA.out (by simp [jH.j1])
      | succ kj4 =>
       have H:=HA.out
       clear HA
       simp only [jH.j1] at H
       by_cases c42:x51_4=true
       ·subst c42
        have H1:(some false)=some r:=by rw [if_pos rfl] at H;exact H
        clear H
        have H:=H1
        clear H1
        obtain rfl:=Option.some.inj H
        go_wp2
        go_ret
        exact ⟨Y0,Y35⟩
       ·replace c42:=Bool.eq_false_iff.mpr c42
        subst c42
        have H1:(jH.l0 kj4 (wrap64 (x3_1+1)) l0_0)=some r:=by rw [if_neg (show ¬ (false=true) by decide)] at H;exact H
        clear H
        have H:=H1
        clear H1
        have H':=am H
        clear H
        go_wp2
        go_roundg kj4
        case measure=>have:=HK1.out;have:=HJ4.out;omega
        case rel=>exact ⟨(wrap64 (x3_1+1)),(sq),H',⟨by have:=HK1.out;have:=HJ4.out;omega⟩,⟨kq BK154.out⟩,⟨Y35⟩⟩
    ·rw [if_neg c4] at H
     exact absurd H (by simp)
   ·rw [if_neg c3] at H
    have c3b0:decide (x3_1<(l0_0.length:Int))=false:=dzF c3
    clear c3
    replace H:=bzS H
    obtain ⟨t155,A430,H⟩:=H
    replace H:(some t155)=some r:=H
    have A43:=am A430
    clear A430
    obtain rfl:=Option.some.inj H
    have hcz44_0:=bc0 BK154.out
    have hfz44_0:=ja BK154.out 0
    go_wp2_with (first |((with_reducible refine je (f:=85) rfl ?_);refine gL (some 55) Try.func85 #[.int .i64 (l0_0.length:Int), .int .i64 1, .int .i64 8] ?_;(with_reducible refine (jE.calls (l0_0.length:Int) 1 8 t155 _ A43.out).mono ?_);rintro e w' ⟨rfl,⟨nd,rfl⟩⟩;refine ⟨_,rfl,?_⟩))
    go_ret
    exact ⟨Y0,Y12⟩
def jM.l0 : Nat → List (S52) → Int → List (S78) → Option (Bool)
 | 0,_,_,_=>none
 | k+1,x1,x5,x155000=>if x5<(x1.length:Int) then ((jk.f k x155000 x1 x5).bind fun t156=>(if t156=true then (jM.l0 k x1 (wrap64 (x5+1)) x155000) else (some false))) else ((jH.f k x155000).bind fun t155=>(if t155=true then (some (decide ((x1.length:Int)≤24))) else (some false)))
def jM.f (k : Nat) (l0_0 : List (S78)) (l1 : List (S52)) : Option (Bool) := jM.l0 k l1 0 l0_0
set_option maxHeartbeats 8000000 in
set_option maxRecDepth 100000 in
theorem jM.calls (k : Nat) (A0_0 : Option Addr) (c0_0 : Nat) (l0_0 : List (S78)) (A1 : Option Addr) (c1 : Nat) (l1 : List (S52)) (r : Bool) (w : World) (hr0_0 : Kd.C k78 w A0_0 l0_0.length l0_0) (hc0_0 : l0_0.length ≤ c0_0) (hr1 : Kd.C k52 w A1 l1.length l1) (hc1 : l1.length ≤ c1) (h : jM.f k l0_0 l1 = some r) :
  Calls Try.prog 29 #[.agg #[.slice A0_0 l0_0.length c0_0], .slice A1 l1.length c1] w fun e w'=>e=.returned (.bool r)∧Below w.heap.size w w':=by
 have hu32:=Try.underlying32
 have HR0_0:=am hr0_0
 have HC0_0:=am hc0_0
 clear hr0_0 hc0_0
 have HR1:=am hr1
 have HC1:=am hc1
 clear hr1 hc1
 have HB:=am (Below.refl w.heap.size w)
 have H:(jM.l0 k l1 0 l0_0)=some r:=h
 clear h
 have H':=am H
 clear H
 go_enter Try.func29,Try.ntmps29
 go_wp2_with (first |((with_reducible refine jO (N:=2) rfl ?_);(try (refine gate_guard (by rfl) ?_;dsimp only));refine box_event ?hg (N:=2) ?hd (cs:=#[.slice A0_0 l0_0.length c0_0]) (t:=32) ?hr ?_;(case hd=>rfl);(case hg=>rfl);(case hr=>exact Y6);intro gb154 hg w3 hbox hb;have BK154:=am (hbox);have GW154:=am ((Y1:w.heap.size≤gb154));have GE154:=am ((Y1:w.heap.size≤gb154));replace HB:=am (jd (bq) hb);clear hb hbox hg))
 go_loopg [5] k (fun kq v5 w'=>∃ (x5_1:Int),v5=.int .i64 x5_1∧jo (jM.l0 kq l1 x5_1 l0_0=some r)∧jo (kq≤k)∧jo (w'.heap[gb154]?=some (.cells #[(.slice A0_0 l0_0.length c0_0)] 32 (0,0)))∧jo (Below w.heap.size w w'))
 case atStart=>exact ⟨(0),(sq),H',⟨Nat.le_refl _⟩,⟨kq BK154.out⟩,⟨Y12⟩⟩
 case round =>
  clear H'
  try clear c1
  try clear c2
  try clear p2
  obtain ⟨x5_1,rfl,HA,HK1,BK154,HB⟩:=hrel
  cases gk with
  | zero=>exact absurd HA.out (by simp [jM.l0])
  | succ k1 =>
   have H:=HA.out
   clear HA
   simp only [jM.l0] at H
   by_cases c4:x5_1<(l1.length:Int)
   ·rw [if_pos c4] at H
    have c4b0:decide (x5_1<(l1.length:Int))=true:=dzT c4
    clear c4
    replace H:=bzS H
    obtain ⟨t156,A50,H⟩:=H
    replace H:(if t156=true then (jM.l0 k1 l1 (wrap64 (x5_1+1)) l0_0) else (some false))=some r:=H
    have A5:=am A50
    clear A50
    by_cases c6:t156=true
    ·subst c6
     have H1:(jM.l0 k1 l1 (wrap64 (x5_1+1)) l0_0)=some r:=by rw [if_pos rfl] at H;exact H
     clear H
     have H:=H1
     clear H1
     have H':=am H
     clear H
     have hcz7_0:=bc0 BK154.out
     have hfz7_0:=ja BK154.out 0
     go_wp2_with (first |((with_reducible refine je (f:=57) rfl ?_);refine gL (some 15) Try.func57 #[.agg #[.slice A0_0 l0_0.length c0_0], .slice A1 l1.length c1, .int .i64 x5_1] ?_;(with_reducible refine (jk.calls k1 _ _ l0_0 _ _ l1 x5_1 true _ ?side1 ?side2 ?side3 ?side4 A5.out).mono ?_);(case side1=>exact cq (Kd.jI HR0_0.out HB.out));(case side2=>exact HC0_0.out);(case side3=>exact cq (Kd.jI HR1.out HB.out));(case side4=>exact HC1.out);rintro e w8 ⟨rfl,hb⟩;refine ⟨_,rfl,?_⟩;replace BK154:=am (jm (g:=gb154) (o:=.cells #[.slice A0_0 l0_0.length c0_0] 32 (0,0)) (kq BK154.out) hb);replace HB:=am (jd (Y12) hb);(try clear hb);(try clear hb2);(try clear hk);(try clear hi)))
     go_roundg k1
     case measure=>have:=HK1.out;omega
     case rel=>exact ⟨(wrap64 (x5_1+1)),(sq),H',⟨by have:=HK1.out;omega⟩,⟨kq BK154.out⟩,⟨Y12⟩⟩
    ·replace c6:=Bool.eq_false_iff.mpr c6
     subst c6
     have H1:(some false)=some r:=by rw [if_neg (show ¬ (false=true) by decide)] at H;exact H
     clear H
     have H:=H1
     clear H1
     obtain rfl:=Option.some.inj H
     have hcz9_0:=bc0 BK154.out
     have hfz9_0:=ja BK154.out 0
     go_wp2_with (first |((with_reducible refine je (f:=57) rfl ?_);refine gL (some 15) Try.func57 #[.agg #[.slice A0_0 l0_0.length c0_0], .slice A1 l1.length c1, .int .i64 x5_1] ?_;(with_reducible refine (jk.calls k1 _ _ l0_0 _ _ l1 x5_1 false _ ?side1 ?side2 ?side3 ?side4 A5.out).mono ?_);(case side1=>exact cq (Kd.jI HR0_0.out HB.out));(case side2=>exact HC0_0.out);(case side3=>exact cq (Kd.jI HR1.out HB.out));(case side4=>exact HC1.out);rintro e w10 ⟨rfl,hb⟩;refine ⟨_,rfl,?_⟩;replace BK154:=am (jm (g:=gb154) (o:=.cells #[.slice A0_0 l0_0.length c0_0] 32 (0,0)) (kq BK154.out) hb);replace HB:=am (jd (Y12) hb);(try clear hb);(try clear hb2);(try clear hk);(try clear hi)))
     go_ret
     exact ⟨Y0,Y12⟩
   ·rw [if_neg c4] at H
    have c4b0:decide (x5_1<(l1.length:Int))=false:=dzF c4
    clear c4
    replace H:=bzS H
    obtain ⟨t155,A110,H⟩:=H
    replace H:(if t155=true then (some (decide ((l1.length:Int)≤24))) else (some false))=some r:=H
    have A11:=am A110
    clear A110
    by_cases c12:t155=true
    ·subst c12
     have H1:(some (decide ((l1.length:Int)≤24)))=some r:=by rw [if_pos rfl] at H;exact H
     clear H
     have H:=H1
     clear H1
     obtain rfl:=Option.some.inj H
     have hcz13_0:=bc0 BK154.out
     have hfz13_0:=ja BK154.out 0
     go_wp2_with (first |((with_reducible refine je (f:=58) rfl ?_);refine gL (some 18) Try.func58 #[.agg #[.slice A0_0 l0_0.length c0_0]] ?_;(with_reducible refine (jH.calls k1 _ _ l0_0 true _ ?side1 ?side2 A11.out).mono ?_);(case side1=>exact cq (Kd.jI HR0_0.out HB.out));(case side2=>exact HC0_0.out);rintro e w14 ⟨rfl,hb⟩;refine ⟨_,rfl,?_⟩;replace BK154:=am (jm (g:=gb154) (o:=.cells #[.slice A0_0 l0_0.length c0_0] 32 (0,0)) (kq BK154.out) hb);replace HB:=am (jd (Y12) hb);(try clear hb);(try clear hb2);(try clear hk);(try clear hi)))
     go_ret
     exact ⟨Y0,Y12⟩
    ·replace c12:=Bool.eq_false_iff.mpr c12
     subst c12
     have H1:(some false)=some r:=by rw [if_neg (show ¬ (false=true) by decide)] at H;exact H
     clear H
     have H:=H1
     clear H1
     obtain rfl:=Option.some.inj H
     have hcz15_0:=bc0 BK154.out
     have hfz15_0:=ja BK154.out 0
     go_wp2_with (first |((with_reducible refine je (f:=58) rfl ?_);refine gL (some 18) Try.func58 #[.agg #[.slice A0_0 l0_0.length c0_0]] ?_;(with_reducible refine (jH.calls k1 _ _ l0_0 false _ ?side1 ?side2 A11.out).mono ?_);(case side1=>exact cq (Kd.jI HR0_0.out HB.out));(case side2=>exact HC0_0.out);rintro e w16 ⟨rfl,hb⟩;refine ⟨_,rfl,?_⟩;replace BK154:=am (jm (g:=gb154) (o:=.cells #[.slice A0_0 l0_0.length c0_0] 32 (0,0)) (kq BK154.out) hb);replace HB:=am (jd (Y12) hb);(try clear hb);(try clear hb2);(try clear hk);(try clear hi)))
     go_ret
     exact ⟨Y0,Y12⟩
def jDa.l0 : Nat → List Int → Int → Int → Option (Bool)
 | 0,_,_,_=>none
 | k+1,x0,x1,x5=>if x5<(x0.length:Int) then (if 0≤x5 then (if (rd x0 x5)=x1 then (some true) else (jDa.l0 k x0 x1 (wrap64 (x5+1)))) else (none)) else (some false)
def jDa.f (k : Nat) (l0 : List Int) (a1 : Int) : Option (Bool) := jDa.l0 k l0 a1 0
set_option maxHeartbeats 8000000 in
set_option maxRecDepth 100000 in
theorem jDa.calls (k : Nat) (A0 : Option Addr) (c0 : Nat) (l0 : List Int) (a1 : Int) (r : Bool) (w : World) (hr0 : Kd.C (Kd.int .i64) w A0 l0.length l0) (hc0 : l0.length ≤ c0) (h : jDa.f k l0 a1 = some r) :
  Calls Try.prog 45 #[.slice A0 l0.length c0, .int .i64 a1] w fun e w'=>e=.returned (.bool r)∧jMa w w':=by
 have HR0:=am hr0
 have HC0:=am hc0
 clear hr0 hc0
 have H:(jDa.l0 k l0 a1 0)=some r:=h
 clear h
 have H':=am H
 clear H
 go_enter Try.func45,Try.ntmps45
 go_wp2
 go_loopg [5] k (fun kq v5 w'=>∃ (x5_1:Int),v5=.int .i64 x5_1∧jo (jDa.l0 kq l0 a1 x5_1=some r)∧jo (kq≤k)∧jMa w w')
 case atStart=>exact ⟨(0),(sq),H',⟨Nat.le_refl _⟩,Y2⟩
 case round =>
  clear H'
  try clear p2
  obtain ⟨x5_1,rfl,HA,HK1,⟨m1,rfl⟩⟩:=hrel
  cases gk with
  | zero=>exact absurd HA.out (by simp [jDa.l0])
  | succ k1 =>
   have H:=HA.out
   clear HA
   simp only [jDa.l0] at H
   by_cases c3:x5_1<(l0.length:Int)
   ·rw [if_pos c3] at H
    have c3b0:decide (x5_1<(l0.length:Int))=true:=dzT c3
    clear c3
    by_cases c4:0≤x5_1
    ·rw [if_pos c4] at H
     have c4b0:decide (0≤x5_1)=true:=dzT c4
     clear c4
     by_cases c5:(rd l0 x5_1)=a1
     ·rw [if_pos c5] at H
      have c5b0:((rd l0 x5_1) == a1)=true:=beq_iff_eq.mpr c5
      have c5b1:((rd l0 x5_1) != a1)=false:=bne_eq_false_iff_eq.mpr c5
      clear c5
      obtain rfl:=Option.some.inj H
      have p348:0≤(x5_1:Int):=ozD (uq)
      have q348:x5_1<(l0.length:Int):=ozD (uq)
      obtain ⟨ad348,e348,hx348_0⟩:=Kd.jZa HR0.out x5_1 p348 q348
      cases e348
      replace p348:=ezT p348
      replace q348:=ezT q348
      go_wp2
      go_ret
      exact ⟨sq,Y2⟩
     ·rw [if_neg c5] at H
      have c5b0:((rd l0 x5_1) == a1)=false:=beq_eq_false_iff_ne.mpr c5
      have c5b1:((rd l0 x5_1) != a1)=true:=bne_iff_ne.mpr c5
      have H':=am H
      clear H
      have p348:0≤(x5_1:Int):=ozD (uq)
      have q348:x5_1<(l0.length:Int):=ozD (uq)
      obtain ⟨ad348,e348,hx348_0⟩:=Kd.jZa HR0.out x5_1 p348 q348
      cases e348
      replace p348:=ezT p348
      replace q348:=ezT q348
      go_wp2
      go_roundg k1
      case measure=>have:=HK1.out;omega
      case rel=>exact ⟨(wrap64 (x5_1+1)),(sq),H',⟨by have:=HK1.out;omega⟩,Y2⟩
    ·rw [if_neg c4] at H
     exact absurd H (by simp)
   ·rw [if_neg c3] at H
    have c3b0:decide (x5_1<(l0.length:Int))=false:=dzF c3
    clear c3
    obtain rfl:=Option.some.inj H
    go_wp2
    go_ret
    exact ⟨sq,Y2⟩
def jPa.l0 : Nat → Int → List Int → List (S78) → Option (List Int)
 | 0,_,_,_=>none
 | k+1,x1,x5,x350000=>if x1≥0 then (if x5.length<17592186044416 then (if 0≤x1 then (if x1<(x350000.length:Int) then (jPa.l0 k ((jJ x350000 x1).f1) (x5 ++ [x1]) x350000) else (none)) else (none)) else (none)) else (some x5)
def jPa.f (k : Nat) (l0_0 : List (S78)) (a1 : Int) : Option (List Int) := jPa.l0 k a1 (([] : List Int)) l0_0
set_option maxHeartbeats 8000000 in
set_option maxRecDepth 100000 in
theorem jPa.calls (k : Nat) (A0_0 : Option Addr) (c0_0 : Nat) (l0_0 : List (S78)) (a1 : Int) (r : List Int) (w : World) (hr0_0 : Kd.C k78 w A0_0 l0_0.length l0_0) (hc0_0 : l0_0.length ≤ c0_0) (h : jPa.f k l0_0 a1 = some r) :
  Calls Try.prog 96 #[.agg #[.slice A0_0 l0_0.length c0_0], .int .i64 a1] w fun e w'=>∃ v0_:Value,e=.returned (v0_)∧Kd.R (Kd.int .i64) 3 w' w.heap.size (fun _=>True) v0_ r∧Below w.heap.size w w':=by
 have hu32:=Try.underlying32
 have HR0_0:=am hr0_0
 have HC0_0:=am hc0_0
 clear hr0_0 hc0_0
 have HB:=am (Below.refl w.heap.size w)
 have H:(jPa.l0 k a1 (([]:List Int)) l0_0)=some r:=h
 clear h
 obtain ⟨y350,hy350⟩:∃ y_:List Int,y_=(([]:List Int)):=⟨_,rfl⟩
 replace H:(jPa.l0 k a1 y350 l0_0)=some r:=by first |(rw [hy350];with_reducible exact H) |(have H2_:=(Option.bind_some _ _).symm.trans H;rw [hy350];with_reducible exact H2_) |(have H2_:=(Option.bind_some _ _).symm.trans H;with_reducible exact H2_) | with_reducible exact H |(rw [hy350];exact H) | exact H
 have Ny350:=am hy350
 clear hy350
 have H':=am H
 clear H
 go_enter Try.func96,Try.ntmps96
 go_wp2_with (first |((with_reducible refine jO (N:=2) rfl ?_);refine bE (N:=2) (cs:=#[.slice A0_0 l0_0.length c0_0]) (t:=32) ?_;intro gb349 hg w3 hbox hb;have BK349:=am (hbox);have GW349:=am ((Y1:w.heap.size≤gb349));have GE349:=am ((Y1:w.heap.size≤gb349));replace HB:=am (jd (bq) hb);clear hb hbox hg) |((with_reducible refine jO (N:=6) rfl ?_);refine Kd.R_lit (Kd.int .i64) _ 3 ?hg (N:=6) ?hd (xs:=([]:List Int)) (inner:=[]) (ok:=fun _=>True) (okp:=fun _=>True) ?hr ?hp (fun _ hk=>hk) trivial (Below.refl _ _) (Nat.le_refl _) (by simp) ?_;(case hd=>rfl);(case hg=>rfl);(case hr=>exact Y6);(case hp=>exact (Reps.none _ _));intro v351 w4 ho5 hb hg_ hnew_;clear hg_ hnew_;(first | rw [← Ny350.out] at ho5 |(simp only [Int.reduceToNat] at ho5;rw [← Ny350.out] at ho5));have HO352:=am (Kd.jJa ho5 (jF (Y15)));replace BK349:=am (jm (g:=gb349) (o:=.cells #[.slice A0_0 l0_0.length c0_0] 32 (0,0)) (kq BK349.out) hb);replace HB:=am (jd (Y15) hb);clear hb ho5))
 go_loopg [1,5] k (fun kq v1 v5 w'=>∃ (x1_1:Int) (x5_1:List Int),v1=.int .i64 x1_1∧jo (jPa.l0 kq x1_1 x5_1 l0_0=some r)∧jo (kq≤k)∧jo (Kd.R (Kd.int .i64) 3 w' w.heap.size (fun _=>True) v5 x5_1)∧jo (w'.heap[gb349]?=some (.cells #[(.slice A0_0 l0_0.length c0_0)] 32 (0,0)))∧jo (Below w.heap.size w w'))
 case atStart=>exact ⟨(a1),(y350),(sq),H',⟨Nat.le_refl _⟩,⟨rq HO352.out⟩,⟨kq BK349.out⟩,⟨Y15⟩⟩
 case round =>
  clear H'
  try clear p2
  obtain ⟨x1_1,x5_1,rfl,HA,HK1,HO_5,BK349,HB⟩:=hrel
  cases gk with
  | zero=>exact absurd HA.out (by simp [jPa.l0])
  | succ k1 =>
   have H:=HA.out
   clear HA
   simp only [jPa.l0] at H
   by_cases c6:x1_1≥0
   ·rw [if_pos c6] at H
    have c6b0:decide (0≤x1_1)=true:=dzT c6
    clear c6
    by_cases c7:x5_1.length<17592186044416
    ·rw [if_pos c7] at H
     have LMc7:=am c7
     clear c7
     obtain ⟨y353,hy353⟩:∃ y_:List Int,y_=(x5_1 ++ [x1_1]):=⟨_,rfl⟩
     replace H:(if 0≤x1_1 then (if x1_1<(l0_0.length:Int) then (jPa.l0 k1 ((jJ l0_0 x1_1).f1) y353 l0_0) else (none)) else (none))=some r:=by first |(rw [hy353];with_reducible exact H) |(have H2_:=(Option.bind_some _ _).symm.trans H;rw [hy353];with_reducible exact H2_) |(have H2_:=(Option.bind_some _ _).symm.trans H;with_reducible exact H2_) | with_reducible exact H |(rw [hy353];exact H) | exact H
     have Ny353:=am hy353
     clear hy353
     by_cases c8:0≤x1_1
     ·rw [if_pos c8] at H
      have c8b0:decide (0≤x1_1)=true:=dzT c8
      clear c8
      by_cases c9:x1_1<(l0_0.length:Int)
      ·rw [if_pos c9] at H
       have c9b0:decide (x1_1<(l0_0.length:Int))=true:=dzT c9
       clear c9
       have H':=am H
       clear H
       go_wp2_with (first |((with_reducible refine jLa (b:=.append) (xs:=#[.tmp 15, .tmp 17]) rfl ?_);at_builtin;refine Kd.jkb (Kd.int .i64) (w0:=w) w.heap.size rfl (.tmp 15) (.tmp 17) 40 3 (.int .i64 0) 8 rfl Try.underlying40 info3 rfl (by decide) (by omega) u5 x5_1 x1_1 [.int .i64 x1_1] (fun _=>True) (fun _=>False) rfl rfl ?aP (fun _ hk=>hk.elim) ?aF ?aO ?aB ?aS ?aL ?_;(case aP=>exact rfl);(case aB=>exact (Y15));(case aF=>exact (fun _ _=>trivial));(case aO=>exact (rq HO_5.out));(case aS=>exact (jF (Y15)));(case aL=>have:=LMc7.out;omega);intro v354 w10 ho hb hg hat;rw [← Ny353.out] at ho;have n0_:=am (jfc (g:=gb349) (o:=.cells #[.slice A0_0 l0_0.length c0_0] 32 (0,0)) (kq BK349.out) hg (Kd.R_ne HO_5.out BK349.out (by decide)));have n1_:=am (hb);have n2_:=am (ho);clear BK349 HB HO_5;have BK349:=n0_;have HB:=n1_;have HO355:=n2_;clear n0_ n1_ n2_ ho hb hg hat;have hcz11_0:=bc0 BK349.out;have hfz11_0:=ja BK349.out 0;have p356:0≤(x1_1:Int):=ozD (uq);have q356:x1_1<(l0_0.length:Int):=ozD (uq);obtain ⟨ad356,e356,hx356_0,hx356_1⟩:=at_T78 HR0_0.out x1_1 p356 q356;cases e356;replace hx356_0:=cb HB.out hx356_0;replace hx356_1:=cb HB.out hx356_1;replace p356:=ezT p356;replace q356:=ezT q356))
       go_roundg k1
       case measure=>have:=HK1.out;omega
       case rel=>exact ⟨((jJ l0_0 x1_1).f1),(y353),(sq),H',⟨by have:=HK1.out;omega⟩,⟨rq HO355.out⟩,⟨kq BK349.out⟩,⟨Y15⟩⟩
      ·rw [if_neg c9] at H
       exact absurd H (by simp)
     ·rw [if_neg c8] at H
      exact absurd H (by simp)
    ·rw [if_neg c7] at H
     exact absurd H (by simp)
   ·rw [if_neg c6] at H
    have c6b0:decide (0≤x1_1)=false:=dzF c6
    clear c6
    obtain rfl:=Option.some.inj H
    go_wp2
    go_ret
    exact ⟨_,Y0,rq HO_5.out,Y15⟩
def jgc.f (k : Nat) (l0_0 : List (S78)) (a1 : Int) (a2 : Int) : Option (Bool) := (jPa.f k l0_0 a1).bind fun t358 => ((jDa.f k t358 a2).bind fun t361 => (some t361))
set_option maxHeartbeats 8000000 in
set_option maxRecDepth 100000 in
theorem jgc.calls (k : Nat) (A0_0 : Option Addr) (c0_0 : Nat) (l0_0 : List (S78)) (a1 : Int) (a2 : Int) (r : Bool) (w : World) (hr0_0 : Kd.C k78 w A0_0 l0_0.length l0_0) (hc0_0 : l0_0.length ≤ c0_0) (h : jgc.f k l0_0 a1 a2 = some r) :
  Calls Try.prog 71 #[.agg #[.slice A0_0 l0_0.length c0_0], .int .i64 a1, .int .i64 a2] w fun e w'=>e=.returned (.bool r)∧Below w.heap.size w w':=by
 have hu32:=Try.underlying32
 have HR0_0:=am hr0_0
 have HC0_0:=am hc0_0
 clear hr0_0 hc0_0
 have HB:=am (Below.refl w.heap.size w)
 have H:((jPa.f k l0_0 a1).bind fun t358=>((jDa.f k t358 a2).bind fun t361=>(some t361)))=some r:=h
 clear h
 replace H:=bzS H
 obtain ⟨t358,A40,H⟩:=H
 replace H:((jDa.f k t358 a2).bind fun t361=>(some t361))=some r:=H
 have A4:=am A40
 clear A40
 replace H:=bzS H
 obtain ⟨t361,A50,H⟩:=H
 replace H:(some t361)=some r:=H
 have A5:=am A50
 clear A50
 obtain rfl:=Option.some.inj H
 go_enter Try.func71,Try.ntmps71
 go_wp2_with (first |((with_reducible refine jO (N:=3) rfl ?_);refine bE (N:=3) (cs:=#[.slice A0_0 l0_0.length c0_0]) (t:=32) ?_;intro gb357 hg w6 hbox hb;have BK357:=am (hbox);have GW357:=am ((Y1:w.heap.size≤gb357));have GE357:=am ((Y1:w.heap.size≤gb357));replace HB:=am (jd (bq) hb);clear hb hbox hg;have hcz7_0:=bc0 BK357.out;have hfz7_0:=ja BK357.out 0) |((with_reducible refine je (f:=96) rfl ?_);refine gL (some 9) Try.func96 #[.agg #[.slice A0_0 l0_0.length c0_0], .int .i64 a1] ?_;(with_reducible refine (jPa.calls k _ _ l0_0 a1 t358 _ ?side1 ?side2 A4.out).mono ?_);(case side1=>exact cq (Kd.jI HR0_0.out HB.out));(case side2=>exact HC0_0.out);rintro e w8 ⟨v359,rfl,ho0,hb⟩;refine ⟨_,rfl,?_⟩;have HO360:=am (Kd.jJa ho0 (jF (Y36)));replace BK357:=am (jm (g:=gb357) (o:=.cells #[.slice A0_0 l0_0.length c0_0] 32 (0,0)) (kq BK357.out) hb);replace HB:=am (jd (Y36) hb);(try clear hb);(try clear hb2);(try clear hk);(try clear hi);(try clear ho0);obtain ⟨Ao9,co9,eo9⟩:=Kd.jHa HO360.out;subst eo9) |((with_reducible refine je (f:=45) rfl ?_);refine gL (some 11) Try.func45 #[.slice Ao9 t358.length co9, .int .i64 a2] ?_;(with_reducible refine (jDa.calls k _ _ t358 a2 t361 _ ?side1 ?side2 A5.out).mono ?_);(case side1=>exact cq (Kd.jB HO360.out).2.2);(case side2=>exact (Kd.jB HO360.out).2.1);rintro e w' ⟨rfl,⟨nd,rfl⟩⟩;refine ⟨_,rfl,?_⟩))
 go_ret
 exact ⟨Y0,Y36⟩
def jja.l0 : Nat → List Int → Int → Int → List (S78) → Option (Int)
 | 0,_,_,_,_=>none
 | k+1,x1,x2,x7,x363000=>if x7<(x1.length:Int) then (if 0≤x7 then ((jgc.f k x363000 x2 (rd x1 x7)).bind fun t364=>(if t364=true then (some x7) else (jja.l0 k x1 x2 (wrap64 (x7+1)) x363000))) else (none)) else (some (-1))
def jja.f (k : Nat) (l0_0 : List (S78)) (l1 : List Int) (a2 : Int) : Option (Int) := jja.l0 k l1 a2 0 l0_0
set_option maxHeartbeats 8000000 in
set_option maxRecDepth 100000 in
theorem jja.calls (k : Nat) (A0_0 : Option Addr) (c0_0 : Nat) (l0_0 : List (S78)) (A1 : Option Addr) (c1 : Nat) (l1 : List Int) (a2 : Int) (r : Int) (w : World) (hr0_0 : Kd.C k78 w A0_0 l0_0.length l0_0) (hc0_0 : l0_0.length ≤ c0_0) (hr1 : Kd.C (Kd.int .i64) w A1 l1.length l1) (hc1 : l1.length ≤ c1) (h : jja.f k l0_0 l1 a2 = some r) :
  Calls Try.prog 67 #[.agg #[.slice A0_0 l0_0.length c0_0], .slice A1 l1.length c1, .int .i64 a2] w fun e w'=>e=.returned (.int .i64 r)∧Below w.heap.size w w':=by
 have hu32:=Try.underlying32
 have HR0_0:=am hr0_0
 have HC0_0:=am hc0_0
 clear hr0_0 hc0_0
 have HR1:=am hr1
 have HC1:=am hc1
 clear hr1 hc1
 have HB:=am (Below.refl w.heap.size w)
 have H:(jja.l0 k l1 a2 0 l0_0)=some r:=h
 clear h
 have H':=am H
 clear H
 go_enter Try.func67,Try.ntmps67
 go_wp2_with (first |((with_reducible refine jO (N:=3) rfl ?_);refine bE (N:=3) (cs:=#[.slice A0_0 l0_0.length c0_0]) (t:=32) ?_;intro gb362 hg w4 hbox hb;have BK362:=am (hbox);have GW362:=am ((Y1:w.heap.size≤gb362));have GE362:=am ((Y1:w.heap.size≤gb362));replace HB:=am (jd (bq) hb);clear hb hbox hg))
 go_loopg [7] k (fun kq v7 w'=>∃ (x7_1:Int),v7=.int .i64 x7_1∧jo (jja.l0 kq l1 a2 x7_1 l0_0=some r)∧jo (kq≤k)∧jo (w'.heap[gb362]?=some (.cells #[(.slice A0_0 l0_0.length c0_0)] 32 (0,0)))∧jo (Below w.heap.size w w'))
 case atStart=>exact ⟨(0),(sq),H',⟨Nat.le_refl _⟩,⟨kq BK362.out⟩,⟨Y19⟩⟩
 case round =>
  clear H'
  try clear c1
  try clear p2
  obtain ⟨x7_1,rfl,HA,HK1,BK362,HB⟩:=hrel
  cases gk with
  | zero=>exact absurd HA.out (by simp [jja.l0])
  | succ k1 =>
   have H:=HA.out
   clear HA
   simp only [jja.l0] at H
   by_cases c5:x7_1<(l1.length:Int)
   ·rw [if_pos c5] at H
    have c5b0:decide (x7_1<(l1.length:Int))=true:=dzT c5
    clear c5
    by_cases c6:0≤x7_1
    ·rw [if_pos c6] at H
     have c6b0:decide (0≤x7_1)=true:=dzT c6
     clear c6
     replace H:=bzS H
     obtain ⟨t364,A70,H⟩:=H
     replace H:(if t364=true then (some x7_1) else (jja.l0 k1 l1 a2 (wrap64 (x7_1+1)) l0_0))=some r:=H
     have A7:=am A70
     clear A70
     by_cases c8:t364=true
     ·subst c8
      have H1:(some x7_1)=some r:=by rw [if_pos rfl] at H;exact H
      clear H
      have H:=H1
      clear H1
      obtain rfl:=Option.some.inj H
      try go_wp2
      replace BK362:=am (jma BK362.out)
      replace HB:=am (jv HB.out)
      have p363:0≤(x7_1:Int):=ozD (uq)
      have q363:x7_1<(l1.length:Int):=ozD (uq)
      obtain ⟨ad363,e363,hx363_0⟩:=Kd.jZa HR1.out x7_1 p363 q363
      have hw363_0:=hx363_0
      cases e363
      replace hx363_0:=cb HB.out hx363_0
      replace p363:=ezT p363
      replace q363:=ezT q363
      refine start_ (n:=7) (S:=fun w'=>w'.cell? ⟨gb362,0,none⟩=some (.slice A0_0 l0_0.length c0_0)∧w'.cell? (ad363.add (x7_1).toNat)=some (.int .i64 (rd l1 x7_1))) (ds:=[]) #[false,false,false,false,false,false,false] (by kernel_rfl) rfl rfl ⟨(jCa BK362.out 0).trans rfl,((HB.out.cell (World.block_lt_of_cell? w _ hw363_0)).trans hw363_0)⟩ (fun hHeld=>?_)
      generalize wr.drew=w9 at BK362 HB hx363_0 hHeld ⊢
      refine pure_ (i:=1) (N:=some 15) (v:=?_) (a':=?_) #[false,true,false,false,false,false,false] rfl rfl (by kernel_rfl) (fun _ _ _ h=>h) (Or.inl ⟨by rfl,?_⟩) ?_ ?_
      rotate_left
      ·exact sb
      rotate_left
      ·exact sa
      refine pure_ (i:=2) (N:=some 16) (v:=?_) (a':=?_) #[false,true,true,false,false,false,false] rfl rfl (by kernel_rfl) (fun _ _ _ h=>h) (Or.inl ⟨by rfl,?_⟩) ?_ ?_
      rotate_left
      ·exact sb
      rotate_left
      ·exact sa
      refine pure_ (i:=3) (N:=some 17) (v:=?_) (a':=?_) #[false,true,true,true,false,false,false] rfl rfl (by kernel_rfl) (fun _ _ _ h=>h) (Or.inl ⟨by rfl,?_⟩) ?_ ?_
      rotate_left
      ·exact sb
      rotate_left
      ·exact sa
      refine pure_ (i:=4) (N:=some 18) (v:=?_) (a':=?_) #[false,true,true,true,true,false,false] rfl rfl (by kernel_rfl) (fun _ _ _ h=>h) (Or.inl ⟨by rfl,?_⟩) ?_ ?_
      rotate_left
      ·exact sb
      rotate_left
      ·exact sa
      refine jXb (i:=0) (N:=some 14) (v:=?_) (a':=?_) #[true,true,true,true,true,false,false] rfl rfl (by kernel_rfl) (fun _ _ _ h=>h) (Or.inl ⟨by rfl,?_⟩) hHeld ?_ ?_
      rotate_left
      ·rintro w' ⟨s0,s1⟩
       go_simp
       with_reducible rfl
      rotate_left
      ·exact sa
      refine jXb (i:=5) (N:=some 19) (v:=?_) (a':=?_) #[true,true,true,true,true,true,false] rfl rfl (by kernel_rfl) (fun _ _ _ h=>h) (Or.inl ⟨by rfl,?_⟩) hHeld ?_ ?_
      rotate_left
      ·rintro w' ⟨s0,s1⟩
       go_simp
       with_reducible rfl
      rotate_left
      ·exact sa
      refine one_ (i:=6) (N:=some 20) #[true,true,true,true,true,true,true] rfl rfl (by kernel_rfl) (by decide) (fun K hK=>?_)
      refine goes_ Try.func71 (by kernel_rfl) rfl #[.agg #[.slice A0_0 l0_0.length c0_0], .int .i64 a2, .int .i64 (rd l1 x7_1)] (by rfl) rfl rfl (aq) ?_
      with_reducible refine (jgc.calls k1 _ _ l0_0 a2 (rd l1 x7_1) true _ ?side1 ?side2 A7.out).mono ?_
      (case side1=>exact cq (Kd.jI HR0_0.out HB.out))
      (case side2=>exact HC0_0.out)
      rintro e w10 ⟨rfl,hb⟩
      refine ⟨_,rfl,?_⟩
      replace BK362:=am (jm (g:=gb362) (o:=.cells #[.slice A0_0 l0_0.length c0_0] 32 (0,0)) (kq BK362.out) hb)
      replace HB:=am (jd (Y19) hb)
      (try clear hb)
      (try clear hb2)
      (try clear hk)
      (try clear hi)
      refine hK.out _ _ ⟨(jCa BK362.out 0).trans rfl,((HB.out.cell (World.block_lt_of_cell? w _ hw363_0)).trans hw363_0)⟩ (fun hHeld=>?_)
      clear hK K
      refine norm_ (a':=?_) ?_ ?_
      rotate_left
      ·show Act.put _ (some 20) _=_
       simp only [Act.put,List.setIfInBounds_toArray,List.set_cons_zero,List.set_cons_succ,jub,jxb]
       rfl
      refine done_ (by kernel_rfl) ?_
      try go_wp2
      go_ret
      exact ⟨Y0,Y19⟩
     ·replace c8:=Bool.eq_false_iff.mpr c8
      subst c8
      have H1:(jja.l0 k1 l1 a2 (wrap64 (x7_1+1)) l0_0)=some r:=by rw [if_neg (show ¬ (false=true) by decide)] at H;exact H
      clear H
      have H:=H1
      clear H1
      have H':=am H
      clear H
      try go_wp2
      replace BK362:=am (jma BK362.out)
      replace HB:=am (jv HB.out)
      have p363:0≤(x7_1:Int):=ozD (uq)
      have q363:x7_1<(l1.length:Int):=ozD (uq)
      obtain ⟨ad363,e363,hx363_0⟩:=Kd.jZa HR1.out x7_1 p363 q363
      have hw363_0:=hx363_0
      cases e363
      replace hx363_0:=cb HB.out hx363_0
      replace p363:=ezT p363
      replace q363:=ezT q363
      refine start_ (n:=7) (S:=fun w'=>w'.cell? ⟨gb362,0,none⟩=some (.slice A0_0 l0_0.length c0_0)∧w'.cell? (ad363.add (x7_1).toNat)=some (.int .i64 (rd l1 x7_1))) (ds:=[]) #[false,false,false,false,false,false,false] (by kernel_rfl) rfl rfl ⟨(jCa BK362.out 0).trans rfl,((HB.out.cell (World.block_lt_of_cell? w _ hw363_0)).trans hw363_0)⟩ (fun hHeld=>?_)
      generalize wr.drew=w11 at BK362 HB hx363_0 hHeld ⊢
      refine pure_ (i:=1) (N:=some 15) (v:=?_) (a':=?_) #[false,true,false,false,false,false,false] rfl rfl (by kernel_rfl) (fun _ _ _ h=>h) (Or.inl ⟨by rfl,?_⟩) ?_ ?_
      rotate_left
      ·exact sb
      rotate_left
      ·exact sa
      refine pure_ (i:=2) (N:=some 16) (v:=?_) (a':=?_) #[false,true,true,false,false,false,false] rfl rfl (by kernel_rfl) (fun _ _ _ h=>h) (Or.inl ⟨by rfl,?_⟩) ?_ ?_
      rotate_left
      ·exact sb
      rotate_left
      ·exact sa
      refine pure_ (i:=3) (N:=some 17) (v:=?_) (a':=?_) #[false,true,true,true,false,false,false] rfl rfl (by kernel_rfl) (fun _ _ _ h=>h) (Or.inl ⟨by rfl,?_⟩) ?_ ?_
      rotate_left
      ·exact sb
      rotate_left
      ·exact sa
      refine pure_ (i:=4) (N:=some 18) (v:=?_) (a':=?_) #[false,true,true,true,true,false,false] rfl rfl (by kernel_rfl) (fun _ _ _ h=>h) (Or.inl ⟨by rfl,?_⟩) ?_ ?_
      rotate_left
      ·exact sb
      rotate_left
      ·exact sa
      refine jXb (i:=0) (N:=some 14) (v:=?_) (a':=?_) #[true,true,true,true,true,false,false] rfl rfl (by kernel_rfl) (fun _ _ _ h=>h) (Or.inl ⟨by rfl,?_⟩) hHeld ?_ ?_
      rotate_left
      ·rintro w' ⟨s0,s1⟩
       go_simp
       with_reducible rfl
      rotate_left
      ·exact sa
      refine jXb (i:=5) (N:=some 19) (v:=?_) (a':=?_) #[true,true,true,true,true,true,false] rfl rfl (by kernel_rfl) (fun _ _ _ h=>h) (Or.inl ⟨by rfl,?_⟩) hHeld ?_ ?_
      rotate_left
      ·rintro w' ⟨s0,s1⟩
       go_simp
       with_reducible rfl
      rotate_left
      ·exact sa
      refine one_ (i:=6) (N:=some 20) #[true,true,true,true,true,true,true] rfl rfl (by kernel_rfl) (by decide) (fun K hK=>?_)
      refine goes_ Try.func71 (by kernel_rfl) rfl #[.agg #[.slice A0_0 l0_0.length c0_0], .int .i64 a2, .int .i64 (rd l1 x7_1)] (by rfl) rfl rfl (aq) ?_
      with_reducible refine (jgc.calls k1 _ _ l0_0 a2 (rd l1 x7_1) false _ ?side1 ?side2 A7.out).mono ?_
      (case side1=>exact cq (Kd.jI HR0_0.out HB.out))
      (case side2=>exact HC0_0.out)
      rintro e w12 ⟨rfl,hb⟩
      refine ⟨_,rfl,?_⟩
      replace BK362:=am (jm (g:=gb362) (o:=.cells #[.slice A0_0 l0_0.length c0_0] 32 (0,0)) (kq BK362.out) hb)
      replace HB:=am (jd (Y19) hb)
      (try clear hb)
      (try clear hb2)
      (try clear hk)
      (try clear hi)
      refine hK.out _ _ ⟨(jCa BK362.out 0).trans rfl,((HB.out.cell (World.block_lt_of_cell? w _ hw363_0)).trans hw363_0)⟩ (fun hHeld=>?_)
      clear hK K
      refine norm_ (a':=?_) ?_ ?_
      rotate_left
      ·show Act.put _ (some 20) _=_
       simp only [Act.put,List.setIfInBounds_toArray,List.set_cons_zero,List.set_cons_succ,jub,jxb]
       rfl
      refine done_ (by kernel_rfl) ?_
      try go_wp2
      go_roundg k1
      case measure=>have:=HK1.out;omega
      case rel=>exact ⟨(wrap64 (x7_1+1)),(sq),H',⟨by have:=HK1.out;omega⟩,⟨kq BK362.out⟩,⟨Y19⟩⟩
    ·rw [if_neg c6] at H
     exact absurd H (by simp)
   ·rw [if_neg c5] at H
    have c5b0:decide (x7_1<(l1.length:Int))=false:=dzF c5
    clear c5
    obtain rfl:=Option.some.inj H
    go_wp2
    go_ret
    exact ⟨Y0,Y19⟩
mutual
def jl.l0 : Nat → List (S52) → List Int → Int → List (S78) → Option ((List (S52)))
 | 0,_,_,_,_=>none
 | k+1,x1,x5,x6,x366000=>if x6<(x1.length:Int) then (if 0≤x6 then (if ((jb x1 x6).f1)=7 then ((jna.f k x1 x6).bind fun t370=>(jl.l1 k x1 x5 x6 t370 (([]:List Int)) 1 x366000)) else (jl.l0 k x1 x5 (wrap64 (x6+1)) x366000)) else (none)) else (jl.l2 k x1 x5 (([]:List (S52))) 0)
def jl.l1 : Nat → List (S52) → List Int → Int → List Int → List Int → Int → List (S78) → Option ((List (S52)))
 | 0,_,_,_,_,_,_,_=>none
 | k+1,x1,x5,x6,x7,x8,x9,x366000=>if x9<(x7.length:Int) then (if 0≤x9 then (if 0≤(rd x7 x9) then (if (rd x7 x9)<(x1.length:Int) then (if ((jb x1 (rd x7 x9)).f1)=8 then ((jja.f k x366000 x8 ((jb x1 (rd x7 x9)).f2)).bind fun t380=>(if t380≥0 then (if x5.length<17592186044416 then (if x8.length<17592186044416 then (jl.l1 k x1 (x5 ++ [rd x7 x9]) x6 x7 (x8 ++ [(jb x1 (rd x7 x9)).f2]) (wrap64 (x9+1)) x366000) else (none)) else (none)) else (if x8.length<17592186044416 then (jl.l1 k x1 x5 x6 x7 (x8 ++ [(jb x1 (rd x7 x9)).f2]) (wrap64 (x9+1)) x366000) else (none)))) else (jl.l1 k x1 x5 x6 x7 x8 (wrap64 (x9+1)) x366000)) else (none)) else (none)) else (none)) else (jl.l0 k x1 x5 (wrap64 (x6+1)) x366000)
def jl.l2 : Nat → List (S52) → List Int → List (S52) → Int → Option ((List (S52)))
 | 0,_,_,_,_=>none
 | k+1,x1,x5,x10,x11=>if x11<(x1.length:Int) then ((jDa.f k x5 x11).bind fun t398=>(if t398=true then ((jZ.f k x1 x11).bind fun t399=>(jl.l2 k x1 x5 x10 t399)) else (if 0≤x11 then (if x10.length<4398046511104 then (jl.l2 k x1 x5 (x10 ++ [(⟨(jb x1 x11).f0,(jb x1 x11).f1,(jb x1 x11).f2,(jb x1 x11).f3⟩:S52)]) (wrap64 (x11+1))) else (none)) else (none)))) else (some x10)
end
def jl.f (k : Nat) (l0_0 : List (S78)) (l1 : List (S52)) : Option ((List (S52))) := jl.l0 k l1 (([] : List Int)) 0 l0_0
def jl.T12 : Bool × List (List Nat × List Nat) := (true, [([], []), ([], []), ([], []), ([], []), ([], []), ([3, 4], [3, 4]), ([5], [5]), ([2, 6], [2, 6]), ([7], [7]), ([8], [8]), ([0, 1, 9], [0, 1, 9]), ([10], [10])])
def jl.B12 : List Nat := [0, 0, 0, 0, 0, 24, 56, 124, 252, 508, 1023, 2047]
theorem jl.tab12 : rtab .any (opsOf Try.f40 12) = jl.T12 := by kernel_rfl
theorem jl.bits12 : waitsOk jl.T12.2 jl.B12 = true := by kernel_rfl
set_option maxHeartbeats 8000000 in
set_option maxRecDepth 100000 in
theorem jl.calls (k : Nat) (A0_0 : Option Addr) (c0_0 : Nat) (l0_0 : List (S78)) (A1 : Option Addr) (c1 : Nat) (l1 : List (S52)) (r : List (S52)) (w : World) (hr0_0 : Kd.C k78 w A0_0 l0_0.length l0_0) (hc0_0 : l0_0.length ≤ c0_0) (hr1 : Kd.C k52 w A1 l1.length l1) (hc1 : l1.length ≤ c1) (h : jl.f k l0_0 l1 = some r) :
  Calls Try.prog 40 #[.agg #[.slice A0_0 l0_0.length c0_0], .slice A1 l1.length c1] w fun e w'=>∃ v0_:Value,e=.returned (v0_)∧Kd.R k52 52 w' w.heap.size (fun _=>True) v0_ r∧Below w.heap.size w w':=by
 have hu32:=Try.underlying32
 have hu52:=Try.underlying52
 have HR0_0:=am hr0_0
 have HC0_0:=am hc0_0
 clear hr0_0 hc0_0
 have HR1:=am hr1
 have HC1:=am hc1
 clear hr1 hc1
 have HB:=am (Below.refl w.heap.size w)
 have H:(jl.l0 k l1 (([]:List Int)) 0 l0_0)=some r:=h
 clear h
 obtain ⟨y366,hy366⟩:∃ y_:List Int,y_=(([]:List Int)):=⟨_,rfl⟩
 replace H:(jl.l0 k l1 y366 0 l0_0)=some r:=by first |(rw [hy366];with_reducible exact H) |(have H2_:=(Option.bind_some _ _).symm.trans H;rw [hy366];with_reducible exact H2_) |(have H2_:=(Option.bind_some _ _).symm.trans H;with_reducible exact H2_) | with_reducible exact H |(rw [hy366];exact H) | exact H
 have Ny366:=am hy366
 clear hy366
 have H':=am H
 clear H
 go_enter Try.func40,Try.ntmps40
 go_wp2_with (first |((with_reducible refine jO (N:=2) rfl ?_);refine bE (N:=2) (cs:=#[.slice A0_0 l0_0.length c0_0]) (t:=32) ?_;intro gb365 hg w3 hbox hb;have BK365:=am (hbox);have GW365:=am ((Y1:w.heap.size≤gb365));have GE365:=am ((Y1:w.heap.size≤gb365));replace HB:=am (jd (bq) hb);clear hb hbox hg) |((with_reducible refine jO (N:=12) rfl ?_);refine Kd.R_lit (Kd.int .i64) _ 3 ?hg (N:=12) ?hd (xs:=([]:List Int)) (inner:=[]) (ok:=fun _=>True) (okp:=fun _=>True) ?hr ?hp (fun _ hk=>hk) trivial (Below.refl _ _) (Nat.le_refl _) (by simp) ?_;(case hd=>rfl);(case hg=>rfl);(case hr=>exact Y6);(case hp=>exact (Reps.none _ _));intro v367 w4 ho5 hb hg_ hnew_;clear hg_ hnew_;(first | rw [← Ny366.out] at ho5 |(simp only [Int.reduceToNat] at ho5;rw [← Ny366.out] at ho5));have HO368:=am (Kd.jJa ho5 (jF (Y3)));replace BK365:=am (jm (g:=gb365) (o:=.cells #[.slice A0_0 l0_0.length c0_0] 32 (0,0)) (kq BK365.out) hb);replace HB:=am (jd (Y3) hb);clear hb ho5))
 go_loopg [5,6] k (fun kq v5 v6 w'=>∃ (x5_1:List Int) (x6_1:Int),v6=.int .i64 x6_1∧jo (jl.l0 kq l1 x5_1 x6_1 l0_0=some r)∧jo (kq≤k)∧jo (Kd.R (Kd.int .i64) 3 w' w.heap.size (fun _=>True) v5 x5_1)∧jo (w'.heap[gb365]?=some (.cells #[(.slice A0_0 l0_0.length c0_0)] 32 (0,0)))∧jo (Below w.heap.size w w'))
 case atStart=>exact ⟨(y366),(0),(sq),H',⟨Nat.le_refl _⟩,⟨rq HO368.out⟩,⟨kq BK365.out⟩,⟨Y3⟩⟩
 case round =>
  clear H'
  try clear c1
  try clear p2
  try clear c4
  obtain ⟨x5_1,x6_1,rfl,HA,HK1,HO_5,BK365,HB⟩:=hrel
  cases gk with
  | zero=>exact absurd HA.out (by simp [jl.l0])
  | succ k1 =>
   have H:=HA.out
   clear HA
   simp only [jl.l0] at H
   by_cases c6:x6_1<(l1.length:Int)
   ·rw [if_pos c6] at H
    have c6b0:decide (x6_1<(l1.length:Int))=true:=dzT c6
    clear c6
    by_cases c7:0≤x6_1
    ·rw [if_pos c7] at H
     have c7b0:decide (0≤x6_1)=true:=dzT c7
     clear c7
     by_cases c8:((jb l1 x6_1).f1)=7
     ·rw [if_pos c8] at H
      have c8b0:(((jb l1 x6_1).f1) == 7)=true:=beq_iff_eq.mpr c8
      have c8b1:(((jb l1 x6_1).f1) != 7)=false:=bne_eq_false_iff_eq.mpr c8
      clear c8
      replace H:=bzS H
      obtain ⟨t370,A90,H⟩:=H
      replace H:(jl.l1 k1 l1 x5_1 x6_1 t370 (([]:List Int)) 1 l0_0)=some r:=H
      have A9:=am A90
      clear A90
      obtain ⟨y373,hy373⟩:∃ y_:List Int,y_=(([]:List Int)):=⟨_,rfl⟩
      replace H:(jl.l1 k1 l1 x5_1 x6_1 t370 y373 1 l0_0)=some r:=by first |(rw [hy373];with_reducible exact H) |(have H2_:=(Option.bind_some _ _).symm.trans H;rw [hy373];with_reducible exact H2_) |(have H2_:=(Option.bind_some _ _).symm.trans H;with_reducible exact H2_) | with_reducible exact H |(rw [hy373];exact H) | exact H
      have Ny373:=am hy373
      clear hy373
      have H':=am H
      clear H
      have p369:0≤(x6_1:Int):=ozD (uq)
      have q369:x6_1<(l1.length:Int):=ozD (uq)
      obtain ⟨ad369,e369,hx369_0,hx369_1,hx369_2,hx369_3⟩:=jaa HR1.out x6_1 p369 q369
      cases e369
      replace hx369_0:=cb HB.out hx369_0
      replace hx369_1:=cb HB.out hx369_1
      replace hx369_2:=cb HB.out hx369_2
      replace hx369_3:=cb HB.out hx369_3
      replace p369:=ezT p369
      replace q369:=ezT q369
      go_wp2_with (first |((with_reducible refine je (f:=66) rfl ?_);refine gL (some 27) Try.func66 #[.slice (some ad369) l1.length c1, .int .i64 x6_1] ?_;(with_reducible refine (jna.calls k1 _ _ l1 x6_1 t370 _ ?side1 ?side2 A9.out).mono ?_);(case side1=>exact cq (Kd.jI HR1.out HB.out));(case side2=>exact HC1.out);rintro e w10 ⟨v371,rfl,ho0,hb⟩;refine ⟨_,rfl,?_⟩;have HO372:=am (Kd.jJa (Kd.job ho0 (Kd.R_lt (rq HO_5.out))) (jF (Y3)));replace HO_5:=am (Kd.jTa (rq HO_5.out) (Kd.jpb ho0) hb);replace BK365:=am (jm (g:=gb365) (o:=.cells #[.slice A0_0 l0_0.length c0_0] 32 (0,0)) (kq BK365.out) hb);replace HB:=am (jd (Y3) hb);(try clear hb);(try clear hb2);(try clear hk);(try clear hi);(try clear ho0)) |((with_reducible refine jO (N:=28) rfl ?_);refine Kd.R_lit (Kd.int .i64) _ 3 ?hg (N:=28) ?hd (xs:=([]:List Int)) (inner:=[]) (ok:=fun _=>True) (okp:=fun _=>True) ?hr ?hp (fun _ hk=>hk) trivial (Below.refl _ _) (Nat.le_refl _) (by simp) ?_;(case hd=>rfl);(case hg=>rfl);(case hr=>exact Y6);(case hp=>exact (Reps.none _ _));intro v374 w11 ho12 hb hg_ hnew_;clear hg_ hnew_;(first | rw [← Ny373.out] at ho12 |(simp only [Int.reduceToNat] at ho12;rw [← Ny373.out] at ho12));have HO375:=am (Kd.jJa (Kd.job (Kd.job ho12 (Kd.R_lt (rq HO_5.out))) (Kd.R_lt (rq HO372.out))) (jF (Y3)));replace HO_5:=am (Kd.jTa (rq HO_5.out) (Kd.jpb ho12) hb);replace HO372:=am (Kd.jTa (rq HO372.out) (Kd.jpb ho12) hb);replace BK365:=am (jm (g:=gb365) (o:=.cells #[.slice A0_0 l0_0.length c0_0] 32 (0,0)) (kq BK365.out) hb);replace HB:=am (jd (Y3) hb);clear hb ho12))
      go_loopg [5,8,9] k1 (fun kq v5 v8 v9 w'=>∃ (x5_2:List Int) (x8_2:List Int) (x9_2:Int),v9=.int .i64 x9_2∧jo (jl.l1 kq l1 x5_2 x6_1 t370 x8_2 x9_2 l0_0=some r)∧jo (kq≤k1)∧jo (Kd.R (Kd.int .i64) 3 w' w.heap.size (fun k_=>some k_≠(v371:Value).ownBlock∧some k_≠(v8:Value).ownBlock) v5 x5_2)∧jo (Kd.R (Kd.int .i64) 3 w' w.heap.size (fun k_=>some k_≠(v5:Value).ownBlock∧some k_≠(v8:Value).ownBlock) v371 t370)∧jo (Kd.R (Kd.int .i64) 3 w' w.heap.size (fun k_=>some k_≠(v5:Value).ownBlock∧some k_≠(v371:Value).ownBlock) v8 x8_2)∧jo (w'.heap[gb365]?=some (.cells #[(.slice A0_0 l0_0.length c0_0)] 32 (0,0)))∧jo (Below w.heap.size w w'))
      case atStart=>exact ⟨(x5_1),(y373),(1),(sq),H',⟨Nat.le_refl _⟩,⟨by (with_reducible repeat (first | apply Kd.jcb | apply Kd.jbb | apply Kd.jXa));exact Kd.jEa HO_5.out (fun _ hk=>⟨hk.1.2,hk.2⟩)⟩,⟨by (with_reducible repeat (first | apply Kd.jcb | apply Kd.jbb | apply Kd.jXa));exact Kd.jEa HO372.out (fun _ hk=>⟨hk.1.2,hk.2⟩)⟩,⟨by (with_reducible repeat (first | apply Kd.jcb | apply Kd.jbb | apply Kd.jXa));exact Kd.jEa HO375.out (fun _ hk=>⟨hk.1.2,hk.2⟩)⟩,⟨kq BK365.out⟩,⟨Y3⟩⟩
      case round =>
       clear H'
       try clear c1
       try clear p2
       try clear p3
       try clear q3
       try clear hx3
       try clear c4
       try clear c6
       try clear c6b0
       try clear c7
       try clear c7b0
       try clear c8
       try clear c8b0
       try clear c8b1
       try clear hx369_0
       try clear hx369_1
       try clear hx369_2
       try clear hx369_3
       try clear p2
       try clear p369
       try clear q369
       obtain ⟨x5_2,x8_2,x9_2,rfl,HA,HK2,HO_5,HO_7,HO_8,BK365,HB⟩:=hrel
       cases gk with
       | zero=>exact absurd HA.out (by simp [jl.l1])
       | succ k2 =>
        have H:=HA.out
        clear HA
        simp only [jl.l1] at H
        by_cases c13:x9_2<(t370.length:Int)
        ·rw [if_pos c13] at H
         have c13b0:decide (x9_2<(t370.length:Int))=true:=dzT c13
         clear c13
         by_cases c14:0≤x9_2
         ·rw [if_pos c14] at H
          have c14b0:decide (0≤x9_2)=true:=dzT c14
          clear c14
          by_cases c15:0≤(rd t370 x9_2)
          ·rw [if_pos c15] at H
           have c15b0:decide (0≤(rd t370 x9_2))=true:=dzT c15
           clear c15
           by_cases c16:(rd t370 x9_2)<(l1.length:Int)
           ·rw [if_pos c16] at H
            have c16b0:decide ((rd t370 x9_2)<(l1.length:Int))=true:=dzT c16
            clear c16
            by_cases c17:((jb l1 (rd t370 x9_2)).f1)=8
            ·rw [if_pos c17] at H
             have c17b0:(((jb l1 (rd t370 x9_2)).f1) == 8)=true:=beq_iff_eq.mpr c17
             have c17b1:(((jb l1 (rd t370 x9_2)).f1) != 8)=false:=bne_eq_false_iff_eq.mpr c17
             clear c17
             replace H:=bzS H
             obtain ⟨t380,A180,H⟩:=H
             replace H:(if t380≥0 then (if x5_2.length<17592186044416 then (if x8_2.length<17592186044416 then (jl.l1 k2 l1 (x5_2 ++ [rd t370 x9_2]) x6_1 t370 (x8_2 ++ [(jb l1 (rd t370 x9_2)).f2]) (wrap64 (x9_2+1)) l0_0) else (none)) else (none)) else (if x8_2.length<17592186044416 then (jl.l1 k2 l1 x5_2 x6_1 t370 (x8_2 ++ [(jb l1 (rd t370 x9_2)).f2]) (wrap64 (x9_2+1)) l0_0) else (none)))=some r:=H
             have A18:=am A180
             clear A180
             by_cases c19:t380≥0
             ·rw [if_pos c19] at H
              have c19b0:decide (0≤t380)=true:=dzT c19
              clear c19
              by_cases c20:x5_2.length<17592186044416
              ·rw [if_pos c20] at H
               have LMc20:=am c20
               clear c20
               obtain ⟨y382,hy382⟩:∃ y_:List Int,y_=(x5_2 ++ [rd t370 x9_2]):=⟨_,rfl⟩
               replace H:(if x8_2.length<17592186044416 then (jl.l1 k2 l1 y382 x6_1 t370 (x8_2 ++ [(jb l1 (rd t370 x9_2)).f2]) (wrap64 (x9_2+1)) l0_0) else (none))=some r:=by first |(rw [hy382];with_reducible exact H) |(have H2_:=(Option.bind_some _ _).symm.trans H;rw [hy382];with_reducible exact H2_) |(have H2_:=(Option.bind_some _ _).symm.trans H;with_reducible exact H2_) | with_reducible exact H |(rw [hy382];exact H) | exact H
               have Ny382:=am hy382
               clear hy382
               by_cases c21:x8_2.length<17592186044416
               ·rw [if_pos c21] at H
                have LMc21:=am c21
                clear c21
                obtain ⟨y387,hy387⟩:∃ y_:List Int,y_=(x8_2 ++ [(jb l1 (rd t370 x9_2)).f2]):=⟨_,rfl⟩
                replace H:(jl.l1 k2 l1 y382 x6_1 t370 y387 (wrap64 (x9_2+1)) l0_0)=some r:=by first |(rw [hy387];with_reducible exact H) |(have H2_:=(Option.bind_some _ _).symm.trans H;rw [hy387];with_reducible exact H2_) |(have H2_:=(Option.bind_some _ _).symm.trans H;with_reducible exact H2_) | with_reducible exact H |(rw [hy387];exact H) | exact H
                have Ny387:=am hy387
                clear hy387
                have H':=am H
                clear H
                obtain ⟨Ao22,co22,eo22⟩:=Kd.jHa HO_7.out
                subst eo22
                have p376:0≤(x9_2:Int):=ozD (uq)
                have q376:x9_2<(t370.length:Int):=ozD (uq)
                obtain ⟨ad376,e376,hx376_0⟩:=Kd.jZa (Kd.jB HO_7.out).2.2 x9_2 p376 q376
                cases e376
                replace p376:=ezT p376
                replace q376:=ezT q376
                have p377:0≤((rd t370 x9_2):Int):=ozD (uq)
                have q377:(rd t370 x9_2)<(l1.length:Int):=ozD (uq)
                obtain ⟨ad377,e377,hx377_0,hx377_1,hx377_2,hx377_3⟩:=jaa HR1.out (rd t370 x9_2) p377 q377
                obtain rfl:ad369=ad377:=(by injection e377)
                replace hx377_0:=cb HB.out hx377_0
                replace hx377_1:=cb HB.out hx377_1
                replace hx377_2:=cb HB.out hx377_2
                replace hx377_3:=cb HB.out hx377_3
                replace p377:=ezT p377
                replace q377:=ezT q377
                try go_wp2
                replace HO_5:=am (Kd.jXa HO_5.out)
                replace HO_7:=am (Kd.jXa HO_7.out)
                replace HO_8:=am (Kd.jXa HO_8.out)
                replace BK365:=am (jma BK365.out)
                replace HB:=am (jv HB.out)
                have p378:0≤(x9_2:Int):=ozD (uq)
                have q378:x9_2<(t370.length:Int):=ozD (uq)
                obtain ⟨ad378,e378,hx378_0⟩:=Kd.jZa (Kd.jB HO_7.out).2.2 x9_2 p378 q378
                obtain rfl:ad376=ad378:=(by injection e378)
                replace p378:=ezT p378
                replace q378:=ezT q378
                have p379:0≤((rd t370 x9_2):Int):=ozD (uq)
                have q379:(rd t370 x9_2)<(l1.length:Int):=ozD (uq)
                obtain ⟨ad379,e379,hx379_0,hx379_1,hx379_2,hx379_3⟩:=jaa HR1.out (rd t370 x9_2) p379 q379
                have hw379_3:=hx379_3
                have hw379_2:=hx379_2
                have hw379_1:=hx379_1
                have hw379_0:=hx379_0
                obtain rfl:ad369=ad379:=(by injection e379)
                replace hx379_0:=cb HB.out hx379_0
                replace hx379_1:=cb HB.out hx379_1
                replace hx379_2:=cb HB.out hx379_2
                replace hx379_3:=cb HB.out hx379_3
                replace p379:=ezT p379
                replace q379:=ezT q379
                obtain ⟨Ao24,co24,eo24⟩:=Kd.jHa HO_8.out
                (first | subst eo24 |(injection eo24 with f1_ f2_ f3_;have f4_:=f1_.symm;have f5_:=f3_.symm;clear f1_ f2_ f3_;subst f4_;subst f5_))
                refine start_ (n:=12) (S:=fun w'=>w'.cell? ⟨gb365,0,none⟩=some (.slice A0_0 l0_0.length c0_0)∧w'.cell? (ad376.add (x9_2).toNat)=some (.int .i64 (rd t370 x9_2))∧w'.cell? (ad369.add (((rd t370 x9_2)).toNat * 4))=some (.int .i64 ((jb l1 (rd t370 x9_2)).f0))∧w'.cell? ⟨(ad369.add (((rd t370 x9_2)).toNat * 4)).block,(ad369.add (((rd t370 x9_2)).toNat * 4)).off+1,none⟩=some (.int .i64 ((jb l1 (rd t370 x9_2)).f1))∧w'.cell? ⟨(ad369.add (((rd t370 x9_2)).toNat * 4)).block,(ad369.add (((rd t370 x9_2)).toNat * 4)).off+2,none⟩=some (.int .i64 ((jb l1 (rd t370 x9_2)).f2))∧w'.cell? ⟨(ad369.add (((rd t370 x9_2)).toNat * 4)).block,(ad369.add (((rd t370 x9_2)).toNat * 4)).off+3,none⟩=some (.int .i64 ((jb l1 (rd t370 x9_2)).f3))) (ds:=[]) #[false,false,false,false,false,false,false,false,false,false,false,false] (by kernel_rfl) rfl rfl ⟨(jCa BK365.out 0).trans rfl,hx378_0,((HB.out.cell (World.block_lt_of_cell? w _ hw379_0)).trans hw379_0),((HB.out.cell (World.block_lt_of_cell? w _ hw379_1)).trans hw379_1),((HB.out.cell (World.block_lt_of_cell? w _ hw379_2)).trans hw379_2),((HB.out.cell (World.block_lt_of_cell? w _ hw379_3)).trans hw379_3)⟩ (fun hHeld=>?_);refine jcc jl.tab12 jl.bits12 (fun HT_ HW_=>?_)
                generalize wr.drew=w23 at HO_5 HO_7 HO_8 BK365 HB hx378_0 hx379_0 hx379_1 hx379_2 hx379_3 hHeld ⊢
                refine pq (i:=1) (N:=some 45) #[false,true,false,false,false,false,false,false,false,false,false,false] ?_
                refine pq (i:=2) (N:=some 46) #[false,true,true,false,false,false,false,false,false,false,false,false] ?_
                refine pq (i:=3) (N:=some 47) #[false,true,true,true,false,false,false,false,false,false,false,false] ?_
                refine pq (i:=4) (N:=some 48) #[false,true,true,true,true,false,false,false,false,false,false,false] ?_
                refine pq (i:=5) (N:=some 49) #[false,true,true,true,true,true,false,false,false,false,false,false] ?_
                refine jXb (i:=0) (N:=some 44) (v:=?_) (a':=?_) #[true,true,true,true,true,true,false,false,false,false,false,false] rfl rfl (jmb HT_.out HW_.out (by kernel_rfl)) (fun _ _ _ h=>h) (Or.inl ⟨by rfl,?_⟩) hHeld ?_ ?_
                rotate_left
                ·rintro w' ⟨s0,s1,s2,s3,s4,s5⟩
                 go_simp
                 with_reducible rfl
                rotate_left
                ·exact sa
                refine jXb (i:=6) (N:=some 50) (v:=?_) (a':=?_) #[true,true,true,true,true,true,true,false,false,false,false,false] rfl rfl (jmb HT_.out HW_.out (by kernel_rfl)) (fun _ _ _ h=>h) (Or.inl ⟨by rfl,?_⟩) hHeld ?_ ?_
                rotate_left
                ·rintro w' ⟨s0,s1,s2,s3,s4,s5⟩
                 go_simp
                 with_reducible rfl
                rotate_left
                ·exact sa
                refine pq (i:=7) (N:=some 51) #[true,true,true,true,true,true,true,true,false,false,false,false] ?_
                refine pq (i:=8) (N:=some 52) #[true,true,true,true,true,true,true,true,true,false,false,false] ?_
                refine jXb (i:=9) (N:=some 53) (v:=?_) (a':=?_) #[true,true,true,true,true,true,true,true,true,true,false,false] rfl rfl (jmb HT_.out HW_.out (by kernel_rfl)) (fun _ _ _ h=>h) (Or.inl ⟨by rfl,?_⟩) hHeld ?_ ?_
                rotate_left
                ·rintro w' ⟨s0,s1,s2,s3,s4,s5⟩
                 go_simp
                 with_reducible rfl
                rotate_left
                ·exact sa
                refine one_ (i:=10) (N:=some 54) #[true,true,true,true,true,true,true,true,true,true,true,false] rfl rfl (one_of HT_.out (by kernel_rfl)) (by decide) (fun K hK=>?_)
                refine goes_ Try.func67 (by kernel_rfl) rfl #[.agg #[.slice A0_0 l0_0.length c0_0], .slice Ao24 x8_2.length co24, .int .i64 ((jb l1 (rd t370 x9_2)).f2)] (by rfl) rfl rfl (aq) ?_
                with_reducible refine (jja.calls k2 _ _ l0_0 _ _ x8_2 ((jb l1 (rd t370 x9_2)).f2) t380 _ ?side1 ?side2 ?side3 ?side4 A18.out).mono ?_
                (case side1=>exact cq (Kd.jI HR0_0.out HB.out))
                (case side2=>exact HC0_0.out)
                (case side3=>exact cq (Kd.jB HO_8.out).2.2)
                (case side4=>exact (Kd.jB HO_8.out).2.1)
                rintro e w25 ⟨rfl,hb⟩
                have HS1_:=(hb.cell (World.block_lt_of_cell? _ _ (hHeld.2.1))).trans (hHeld.2.1)
                refine ⟨_,rfl,?_⟩
                replace HO_5:=am (Kd.jN (rq HO_5.out) hb)
                replace HO_7:=am (Kd.jN (rq HO_7.out) hb)
                replace HO_8:=am (Kd.jN (rq HO_8.out) hb)
                replace BK365:=am (jm (g:=gb365) (o:=.cells #[.slice A0_0 l0_0.length c0_0] 32 (0,0)) (kq BK365.out) hb)
                replace HB:=am (jd (Y3) hb)
                (try clear hb)
                (try clear hb2)
                (try clear hk)
                (try clear hi)
                refine hK.out _ _ ⟨(jCa BK365.out 0).trans rfl,HS1_,((HB.out.cell (World.block_lt_of_cell? w _ hw379_0)).trans hw379_0),((HB.out.cell (World.block_lt_of_cell? w _ hw379_1)).trans hw379_1),((HB.out.cell (World.block_lt_of_cell? w _ hw379_2)).trans hw379_2),((HB.out.cell (World.block_lt_of_cell? w _ hw379_3)).trans hw379_3)⟩ (fun hHeld=>?_)
                clear hK K
                refine norm_ (a':=?_) ?_ ?_
                rotate_left
                ·show Act.put _ (some 54) _=_
                 simp only [Act.put,List.setIfInBounds_toArray,List.set_cons_zero,List.set_cons_succ,jub,jxb]
                 rfl
                refine pq (i:=11) (N:=some 55) #[true,true,true,true,true,true,true,true,true,true,true,true] ?_
                refine done_ (done_of HT_.out (by kernel_rfl)) ?_
                have p381:0≤(x9_2:Int):=ozD (uq)
                have q381:x9_2<(t370.length:Int):=ozD (uq)
                obtain ⟨ad381,e381,hx381_0⟩:=Kd.jZa (Kd.jB HO_7.out).2.2 x9_2 p381 q381
                obtain rfl:ad376=ad381:=(by injection e381)
                replace p381:=ezT p381
                replace q381:=ezT q381
                try go_wp2_with (first |((with_reducible refine jLa (b:=.append) (xs:=#[.tmp 56, .tmp 61]) rfl ?_);at_builtin;refine Kd.jkb (Kd.int .i64) (w0:=w) w.heap.size rfl (.tmp 56) (.tmp 61) 40 3 (.int .i64 0) 8 rfl Try.underlying40 info3 rfl (by decide) (by omega) u5 x5_2 (rd t370 x9_2) [.int .i64 (rd t370 x9_2)] (fun k_=>some k_≠(.slice (some ad376) t370.length co22:Value).ownBlock∧some k_≠(.slice Ao24 x8_2.length co24:Value).ownBlock) (fun _=>False) rfl rfl ?aP (fun _ hk=>hk.elim) ?aF ?aO ?aB ?aS ?aL ?_;(case aP=>exact rfl);(case aB=>exact (Y3));(case aF=>exact (fun k_ hk=>⟨Kd.fresh' (Kd.R_lt (rq HO_7.out)) k_ hk,Kd.fresh' (Kd.R_lt (rq HO_8.out)) k_ hk⟩));(case aO=>exact (rq HO_5.out));(case aS=>exact (jF (Y3)));(case aL=>have:=LMc20.out;omega);intro v383 w26 ho hb hg hat;rw [← Ny382.out] at ho;have n0_:=am (Kd.R_after (ok:=(fun k_=>some k_≠(.slice Ao24 x8_2.length co24:Value).ownBlock)) (Y53) hg hat);have n1_:=am (Kd.R_after (ok:=(fun k_=>some k_≠(.slice (some ad376) t370.length co22:Value).ownBlock)) (by (with_reducible repeat (first | apply Kd.jcb | apply Kd.jbb | apply Kd.jXa));exact Kd.jEa HO_8.out (fun _ hk=>⟨hk.2,hk.1⟩)) hg hat);have n2_:=am (jfc (g:=gb365) (o:=.cells #[.slice A0_0 l0_0.length c0_0] 32 (0,0)) (kq BK365.out) hg (Kd.R_ne HO_5.out BK365.out (by decide)));have n3_:=am (hb);have n4_:=am (ho);clear HO_7 HO_8 BK365 HB HO_5;have HO_7:=n0_;have HO_8:=n1_;have BK365:=n2_;have HB:=n3_;have HO384:=n4_;clear n0_ n1_ n2_ n3_ n4_ ho hb hg hat;have p385:0≤(x9_2:Int):=ozD (uq);have q385:x9_2<(t370.length:Int):=ozD (uq);obtain ⟨ad385,e385,hx385_0⟩:=Kd.jZa (Kd.jB HO_7.out).2.2 x9_2 p385 q385;obtain rfl:ad376=ad385:=(by injection e385);replace p385:=ezT p385;replace q385:=ezT q385;have p386:0≤((rd t370 x9_2):Int):=ozD (uq);have q386:(rd t370 x9_2)<(l1.length:Int):=ozD (uq);obtain ⟨ad386,e386,hx386_0,hx386_1,hx386_2,hx386_3⟩:=jaa HR1.out (rd t370 x9_2) p386 q386;obtain rfl:ad369=ad386:=(by injection e386);replace hx386_0:=cb HB.out hx386_0;replace hx386_1:=cb HB.out hx386_1;replace hx386_2:=cb HB.out hx386_2;replace hx386_3:=cb HB.out hx386_3;replace p386:=ezT p386;replace q386:=ezT q386) |((with_reducible refine jLa (b:=.append) (xs:=#[.tmp 63, .tmp 72]) rfl ?_);at_builtin;refine Kd.jkb (Kd.int .i64) (w0:=w) w.heap.size rfl (.tmp 63) (.tmp 72) 40 3 (.int .i64 0) 8 rfl Try.underlying40 info3 rfl (by decide) (by omega) (.slice Ao24 x8_2.length co24) x8_2 ((jb l1 (rd t370 x9_2)).f2) [.int .i64 ((jb l1 (rd t370 x9_2)).f2)] (fun k_=>some k_≠(.slice (some ad376) t370.length co22:Value).ownBlock∧some k_≠(v383:Value).ownBlock) (fun _=>False) rfl rfl ?aP (fun _ hk=>hk.elim) ?aF ?aO ?aB ?aS ?aL ?_;(case aP=>exact rfl);(case aB=>exact (Y3));(case aF=>exact (fun k_ hk=>⟨Kd.fresh' (Kd.R_lt (rq HO_7.out)) k_ hk,Kd.fresh' (Kd.R_lt (rq HO384.out)) k_ hk⟩));(case aO=>exact (rq HO_8.out));(case aS=>exact (jF (Y3)));(case aL=>have:=LMc21.out;omega);intro v388 w27 ho hb hg hat;rw [← Ny387.out] at ho;have n0_:=am (Kd.R_after (ok:=(fun k_=>some k_≠(v383:Value).ownBlock)) (Y53) hg hat);have n1_:=am (jfc (g:=gb365) (o:=.cells #[.slice A0_0 l0_0.length c0_0] 32 (0,0)) (kq BK365.out) hg (Kd.R_ne HO_8.out BK365.out (by decide)));have n2_:=am (Kd.R_after (ok:=(fun k_=>some k_≠(.slice (some ad376) t370.length co22:Value).ownBlock)) (rq HO384.out) hg hat);have n3_:=am (hb);have n4_:=am (ho);clear HO_7 BK365 HO384 HB HO_8;have HO_7:=n0_;have BK365:=n1_;have HO384:=n2_;have HB:=n3_;have HO389:=n4_;clear n0_ n1_ n2_ n3_ n4_ ho hb hg hat))
                go_roundg k2
                case measure=>have:=HK1.out;have:=HK2.out;omega
                case rel=>exact ⟨(y382),(y387),(wrap64 (x9_2+1)),(sq),H',⟨by have:=HK1.out;have:=HK2.out;omega⟩,⟨rq HO384.out⟩,⟨rq HO_7.out⟩,⟨by (with_reducible repeat (first | apply Kd.jcb | apply Kd.jbb | apply Kd.jXa));exact Kd.jEa HO389.out (fun _ hk=>⟨hk.2,hk.1⟩)⟩,⟨kq BK365.out⟩,⟨Y3⟩⟩
               ·rw [if_neg c21] at H
                exact absurd H (by simp)
              ·rw [if_neg c20] at H
               exact absurd H (by simp)
             ·rw [if_neg c19] at H
              have c19b0:decide (0≤t380)=false:=dzF c19
              clear c19
              by_cases c28:x8_2.length<17592186044416
              ·rw [if_pos c28] at H
               have LMc28:=am c28
               clear c28
               obtain ⟨y392,hy392⟩:∃ y_:List Int,y_=(x8_2 ++ [(jb l1 (rd t370 x9_2)).f2]):=⟨_,rfl⟩
               replace H:(jl.l1 k2 l1 x5_2 x6_1 t370 y392 (wrap64 (x9_2+1)) l0_0)=some r:=by first |(rw [hy392];with_reducible exact H) |(have H2_:=(Option.bind_some _ _).symm.trans H;rw [hy392];with_reducible exact H2_) |(have H2_:=(Option.bind_some _ _).symm.trans H;with_reducible exact H2_) | with_reducible exact H |(rw [hy392];exact H) | exact H
               have Ny392:=am hy392
               clear hy392
               have H':=am H
               clear H
               obtain ⟨Ao29,co29,eo29⟩:=Kd.jHa HO_7.out
               subst eo29
               have p376:0≤(x9_2:Int):=ozD (uq)
               have q376:x9_2<(t370.length:Int):=ozD (uq)
               obtain ⟨ad376,e376,hx376_0⟩:=Kd.jZa (Kd.jB HO_7.out).2.2 x9_2 p376 q376
               cases e376
               replace p376:=ezT p376
               replace q376:=ezT q376
               have p377:0≤((rd t370 x9_2):Int):=ozD (uq)
               have q377:(rd t370 x9_2)<(l1.length:Int):=ozD (uq)
               obtain ⟨ad377,e377,hx377_0,hx377_1,hx377_2,hx377_3⟩:=jaa HR1.out (rd t370 x9_2) p377 q377
               obtain rfl:ad369=ad377:=(by injection e377)
               replace hx377_0:=cb HB.out hx377_0
               replace hx377_1:=cb HB.out hx377_1
               replace hx377_2:=cb HB.out hx377_2
               replace hx377_3:=cb HB.out hx377_3
               replace p377:=ezT p377
               replace q377:=ezT q377
               try go_wp2
               replace HO_5:=am (Kd.jXa HO_5.out)
               replace HO_7:=am (Kd.jXa HO_7.out)
               replace HO_8:=am (Kd.jXa HO_8.out)
               replace BK365:=am (jma BK365.out)
               replace HB:=am (jv HB.out)
               have p378:0≤(x9_2:Int):=ozD (uq)
               have q378:x9_2<(t370.length:Int):=ozD (uq)
               obtain ⟨ad378,e378,hx378_0⟩:=Kd.jZa (Kd.jB HO_7.out).2.2 x9_2 p378 q378
               obtain rfl:ad376=ad378:=(by injection e378)
               replace p378:=ezT p378
               replace q378:=ezT q378
               have p379:0≤((rd t370 x9_2):Int):=ozD (uq)
               have q379:(rd t370 x9_2)<(l1.length:Int):=ozD (uq)
               obtain ⟨ad379,e379,hx379_0,hx379_1,hx379_2,hx379_3⟩:=jaa HR1.out (rd t370 x9_2) p379 q379
               have hw379_3:=hx379_3
               have hw379_2:=hx379_2
               have hw379_1:=hx379_1
               have hw379_0:=hx379_0
               obtain rfl:ad369=ad379:=(by injection e379)
               replace hx379_0:=cb HB.out hx379_0
               replace hx379_1:=cb HB.out hx379_1
               replace hx379_2:=cb HB.out hx379_2
               replace hx379_3:=cb HB.out hx379_3
               replace p379:=ezT p379
               replace q379:=ezT q379
               obtain ⟨Ao31,co31,eo31⟩:=Kd.jHa HO_8.out
               (first | subst eo31 |(injection eo31 with f1_ f2_ f3_;have f4_:=f1_.symm;have f5_:=f3_.symm;clear f1_ f2_ f3_;subst f4_;subst f5_))
               refine start_ (n:=12) (S:=fun w'=>w'.cell? ⟨gb365,0,none⟩=some (.slice A0_0 l0_0.length c0_0)∧w'.cell? (ad376.add (x9_2).toNat)=some (.int .i64 (rd t370 x9_2))∧w'.cell? (ad369.add (((rd t370 x9_2)).toNat * 4))=some (.int .i64 ((jb l1 (rd t370 x9_2)).f0))∧w'.cell? ⟨(ad369.add (((rd t370 x9_2)).toNat * 4)).block,(ad369.add (((rd t370 x9_2)).toNat * 4)).off+1,none⟩=some (.int .i64 ((jb l1 (rd t370 x9_2)).f1))∧w'.cell? ⟨(ad369.add (((rd t370 x9_2)).toNat * 4)).block,(ad369.add (((rd t370 x9_2)).toNat * 4)).off+2,none⟩=some (.int .i64 ((jb l1 (rd t370 x9_2)).f2))∧w'.cell? ⟨(ad369.add (((rd t370 x9_2)).toNat * 4)).block,(ad369.add (((rd t370 x9_2)).toNat * 4)).off+3,none⟩=some (.int .i64 ((jb l1 (rd t370 x9_2)).f3))) (ds:=[]) #[false,false,false,false,false,false,false,false,false,false,false,false] (by kernel_rfl) rfl rfl ⟨(jCa BK365.out 0).trans rfl,hx378_0,((HB.out.cell (World.block_lt_of_cell? w _ hw379_0)).trans hw379_0),((HB.out.cell (World.block_lt_of_cell? w _ hw379_1)).trans hw379_1),((HB.out.cell (World.block_lt_of_cell? w _ hw379_2)).trans hw379_2),((HB.out.cell (World.block_lt_of_cell? w _ hw379_3)).trans hw379_3)⟩ (fun hHeld=>?_);refine jcc jl.tab12 jl.bits12 (fun HT_ HW_=>?_)
               generalize wr.drew=w30 at HO_5 HO_7 HO_8 BK365 HB hx378_0 hx379_0 hx379_1 hx379_2 hx379_3 hHeld ⊢
               refine pq (i:=1) (N:=some 45) #[false,true,false,false,false,false,false,false,false,false,false,false] ?_
               refine pq (i:=2) (N:=some 46) #[false,true,true,false,false,false,false,false,false,false,false,false] ?_
               refine pq (i:=3) (N:=some 47) #[false,true,true,true,false,false,false,false,false,false,false,false] ?_
               refine pq (i:=4) (N:=some 48) #[false,true,true,true,true,false,false,false,false,false,false,false] ?_
               refine pq (i:=5) (N:=some 49) #[false,true,true,true,true,true,false,false,false,false,false,false] ?_
               refine jXb (i:=0) (N:=some 44) (v:=?_) (a':=?_) #[true,true,true,true,true,true,false,false,false,false,false,false] rfl rfl (jmb HT_.out HW_.out (by kernel_rfl)) (fun _ _ _ h=>h) (Or.inl ⟨by rfl,?_⟩) hHeld ?_ ?_
               rotate_left
               ·rintro w' ⟨s0,s1,s2,s3,s4,s5⟩
                go_simp
                with_reducible rfl
               rotate_left
               ·exact sa
               refine jXb (i:=6) (N:=some 50) (v:=?_) (a':=?_) #[true,true,true,true,true,true,true,false,false,false,false,false] rfl rfl (jmb HT_.out HW_.out (by kernel_rfl)) (fun _ _ _ h=>h) (Or.inl ⟨by rfl,?_⟩) hHeld ?_ ?_
               rotate_left
               ·rintro w' ⟨s0,s1,s2,s3,s4,s5⟩
                go_simp
                with_reducible rfl
               rotate_left
               ·exact sa
               refine pq (i:=7) (N:=some 51) #[true,true,true,true,true,true,true,true,false,false,false,false] ?_
               refine pq (i:=8) (N:=some 52) #[true,true,true,true,true,true,true,true,true,false,false,false] ?_
               refine jXb (i:=9) (N:=some 53) (v:=?_) (a':=?_) #[true,true,true,true,true,true,true,true,true,true,false,false] rfl rfl (jmb HT_.out HW_.out (by kernel_rfl)) (fun _ _ _ h=>h) (Or.inl ⟨by rfl,?_⟩) hHeld ?_ ?_
               rotate_left
               ·rintro w' ⟨s0,s1,s2,s3,s4,s5⟩
                go_simp
                with_reducible rfl
               rotate_left
               ·exact sa
               refine one_ (i:=10) (N:=some 54) #[true,true,true,true,true,true,true,true,true,true,true,false] rfl rfl (one_of HT_.out (by kernel_rfl)) (by decide) (fun K hK=>?_)
               refine goes_ Try.func67 (by kernel_rfl) rfl #[.agg #[.slice A0_0 l0_0.length c0_0], .slice Ao31 x8_2.length co31, .int .i64 ((jb l1 (rd t370 x9_2)).f2)] (by rfl) rfl rfl (aq) ?_
               with_reducible refine (jja.calls k2 _ _ l0_0 _ _ x8_2 ((jb l1 (rd t370 x9_2)).f2) t380 _ ?side1 ?side2 ?side3 ?side4 A18.out).mono ?_
               (case side1=>exact cq (Kd.jI HR0_0.out HB.out))
               (case side2=>exact HC0_0.out)
               (case side3=>exact cq (Kd.jB HO_8.out).2.2)
               (case side4=>exact (Kd.jB HO_8.out).2.1)
               rintro e w32 ⟨rfl,hb⟩
               have HS1_:=(hb.cell (World.block_lt_of_cell? _ _ (hHeld.2.1))).trans (hHeld.2.1)
               refine ⟨_,rfl,?_⟩
               replace HO_5:=am (Kd.jN (rq HO_5.out) hb)
               replace HO_7:=am (Kd.jN (rq HO_7.out) hb)
               replace HO_8:=am (Kd.jN (rq HO_8.out) hb)
               replace BK365:=am (jm (g:=gb365) (o:=.cells #[.slice A0_0 l0_0.length c0_0] 32 (0,0)) (kq BK365.out) hb)
               replace HB:=am (jd (Y3) hb)
               (try clear hb)
               (try clear hb2)
               (try clear hk)
               (try clear hi)
               refine hK.out _ _ ⟨(jCa BK365.out 0).trans rfl,HS1_,((HB.out.cell (World.block_lt_of_cell? w _ hw379_0)).trans hw379_0),((HB.out.cell (World.block_lt_of_cell? w _ hw379_1)).trans hw379_1),((HB.out.cell (World.block_lt_of_cell? w _ hw379_2)).trans hw379_2),((HB.out.cell (World.block_lt_of_cell? w _ hw379_3)).trans hw379_3)⟩ (fun hHeld=>?_)
               clear hK K
               refine norm_ (a':=?_) ?_ ?_
               rotate_left
               ·show Act.put _ (some 54) _=_
                simp only [Act.put,List.setIfInBounds_toArray,List.set_cons_zero,List.set_cons_succ,jub,jxb]
                rfl
               refine pq (i:=11) (N:=some 55) #[true,true,true,true,true,true,true,true,true,true,true,true] ?_
               refine done_ (done_of HT_.out (by kernel_rfl)) ?_
               have p390:0≤(x9_2:Int):=ozD (uq)
               have q390:x9_2<(t370.length:Int):=ozD (uq)
               obtain ⟨ad390,e390,hx390_0⟩:=Kd.jZa (Kd.jB HO_7.out).2.2 x9_2 p390 q390
               obtain rfl:ad376=ad390:=(by injection e390)
               replace p390:=ezT p390
               replace q390:=ezT q390
               have p391:0≤((rd t370 x9_2):Int):=ozD (uq)
               have q391:(rd t370 x9_2)<(l1.length:Int):=ozD (uq)
               obtain ⟨ad391,e391,hx391_0,hx391_1,hx391_2,hx391_3⟩:=jaa HR1.out (rd t370 x9_2) p391 q391
               obtain rfl:ad369=ad391:=(by injection e391)
               replace hx391_0:=cb HB.out hx391_0
               replace hx391_1:=cb HB.out hx391_1
               replace hx391_2:=cb HB.out hx391_2
               replace hx391_3:=cb HB.out hx391_3
               replace p391:=ezT p391
               replace q391:=ezT q391
               try go_wp2_with (first |((with_reducible refine jLa (b:=.append) (xs:=#[.tmp 63, .tmp 72]) rfl ?_);at_builtin;refine Kd.jkb (Kd.int .i64) (w0:=w) w.heap.size rfl (.tmp 63) (.tmp 72) 40 3 (.int .i64 0) 8 rfl Try.underlying40 info3 rfl (by decide) (by omega) (.slice Ao31 x8_2.length co31) x8_2 ((jb l1 (rd t370 x9_2)).f2) [.int .i64 ((jb l1 (rd t370 x9_2)).f2)] (fun k_=>some k_≠(u5:Value).ownBlock∧some k_≠(.slice (some ad376) t370.length co29:Value).ownBlock) (fun _=>False) rfl rfl ?aP (fun _ hk=>hk.elim) ?aF ?aO ?aB ?aS ?aL ?_;(case aP=>exact rfl);(case aB=>exact (Y3));(case aF=>exact (fun k_ hk=>⟨Kd.fresh' (Kd.R_lt (rq HO_5.out)) k_ hk,Kd.fresh' (Kd.R_lt (rq HO_7.out)) k_ hk⟩));(case aO=>exact (rq HO_8.out));(case aS=>exact (jF (Y3)));(case aL=>have:=LMc28.out;omega);intro v393 w33 ho hb hg hat;rw [← Ny392.out] at ho;have n0_:=am (Kd.R_after (ok:=(fun k_=>some k_≠(.slice (some ad376) t370.length co29:Value).ownBlock)) (rq HO_5.out) hg hat);have n1_:=am (Kd.R_after (ok:=(fun k_=>some k_≠(u5:Value).ownBlock)) (rq HO_7.out) hg hat);have n2_:=am (jfc (g:=gb365) (o:=.cells #[.slice A0_0 l0_0.length c0_0] 32 (0,0)) (kq BK365.out) hg (Kd.R_ne HO_8.out BK365.out (by decide)));have n3_:=am (hb);have n4_:=am (ho);clear HO_5 HO_7 BK365 HB HO_8;have HO_5:=n0_;have HO_7:=n1_;have BK365:=n2_;have HB:=n3_;have HO394:=n4_;clear n0_ n1_ n2_ n3_ n4_ ho hb hg hat))
               go_roundg k2
               case measure=>have:=HK1.out;have:=HK2.out;omega
               case rel=>exact ⟨(x5_2),(y392),(wrap64 (x9_2+1)),(sq),H',⟨by have:=HK1.out;have:=HK2.out;omega⟩,⟨rq HO_5.out⟩,⟨rq HO_7.out⟩,⟨rq HO394.out⟩,⟨kq BK365.out⟩,⟨Y3⟩⟩
              ·rw [if_neg c28] at H
               exact absurd H (by simp)
            ·rw [if_neg c17] at H
             have c17b0:(((jb l1 (rd t370 x9_2)).f1) == 8)=false:=beq_eq_false_iff_ne.mpr c17
             have c17b1:(((jb l1 (rd t370 x9_2)).f1) != 8)=true:=bne_iff_ne.mpr c17
             have H':=am H
             clear H
             obtain ⟨Ao34,co34,eo34⟩:=Kd.jHa HO_7.out
             subst eo34
             have p376:0≤(x9_2:Int):=ozD (uq)
             have q376:x9_2<(t370.length:Int):=ozD (uq)
             obtain ⟨ad376,e376,hx376_0⟩:=Kd.jZa (Kd.jB HO_7.out).2.2 x9_2 p376 q376
             cases e376
             replace p376:=ezT p376
             replace q376:=ezT q376
             have p377:0≤((rd t370 x9_2):Int):=ozD (uq)
             have q377:(rd t370 x9_2)<(l1.length:Int):=ozD (uq)
             obtain ⟨ad377,e377,hx377_0,hx377_1,hx377_2,hx377_3⟩:=jaa HR1.out (rd t370 x9_2) p377 q377
             obtain rfl:ad369=ad377:=(by injection e377)
             replace hx377_0:=cb HB.out hx377_0
             replace hx377_1:=cb HB.out hx377_1
             replace hx377_2:=cb HB.out hx377_2
             replace hx377_3:=cb HB.out hx377_3
             replace p377:=ezT p377
             replace q377:=ezT q377
             go_wp2
             go_roundg k2
             case measure=>have:=HK1.out;have:=HK2.out;omega
             case rel=>exact ⟨(x5_2),(x8_2),(wrap64 (x9_2+1)),(sq),H',⟨by have:=HK1.out;have:=HK2.out;omega⟩,⟨rq HO_5.out⟩,⟨rq HO_7.out⟩,⟨rq HO_8.out⟩,⟨kq BK365.out⟩,⟨Y3⟩⟩
           ·rw [if_neg c16] at H
            exact absurd H (by simp)
          ·rw [if_neg c15] at H
           exact absurd H (by simp)
         ·rw [if_neg c14] at H
          exact absurd H (by simp)
        ·rw [if_neg c13] at H
         have c13b0:decide (x9_2<(t370.length:Int))=false:=dzF c13
         clear c13
         have H':=am H
         clear H
         obtain ⟨Ao35,co35,eo35⟩:=Kd.jHa HO_7.out
         subst eo35
         go_wp2
         go_roundg k2
         case measure=>have:=HK1.out;have:=HK2.out;omega
         case rel=>exact ⟨(x5_2),(wrap64 (x6_1+1)),(sq),H',⟨by have:=HK1.out;have:=HK2.out;omega⟩,⟨by (with_reducible repeat (first | apply Kd.jcb | apply Kd.jbb | apply Kd.jXa));exact Kd.jEa HO_5.out (fun _ hk=>trivial)⟩,⟨kq BK365.out⟩,⟨Y3⟩⟩
     ·rw [if_neg c8] at H
      have c8b0:(((jb l1 x6_1).f1) == 7)=false:=beq_eq_false_iff_ne.mpr c8
      have c8b1:(((jb l1 x6_1).f1) != 7)=true:=bne_iff_ne.mpr c8
      have H':=am H
      clear H
      have p369:0≤(x6_1:Int):=ozD (uq)
      have q369:x6_1<(l1.length:Int):=ozD (uq)
      obtain ⟨ad369,e369,hx369_0,hx369_1,hx369_2,hx369_3⟩:=jaa HR1.out x6_1 p369 q369
      cases e369
      replace hx369_0:=cb HB.out hx369_0
      replace hx369_1:=cb HB.out hx369_1
      replace hx369_2:=cb HB.out hx369_2
      replace hx369_3:=cb HB.out hx369_3
      replace p369:=ezT p369
      replace q369:=ezT q369
      go_wp2
      go_roundg k1
      case measure=>have:=HK1.out;omega
      case rel=>exact ⟨(x5_1),(wrap64 (x6_1+1)),(sq),H',⟨by have:=HK1.out;omega⟩,⟨rq HO_5.out⟩,⟨kq BK365.out⟩,⟨Y3⟩⟩
    ·rw [if_neg c7] at H
     exact absurd H (by simp)
   ·rw [if_neg c6] at H
    have c6b0:decide (x6_1<(l1.length:Int))=false:=dzF c6
    clear c6
    obtain ⟨y395,hy395⟩:∃ y_:List (S52),y_=(([]:List (S52))):=⟨_,rfl⟩
    replace H:(jl.l2 k1 l1 x5_1 y395 0)=some r:=by first |(rw [hy395];with_reducible exact H) |(have H2_:=(Option.bind_some _ _).symm.trans H;rw [hy395];with_reducible exact H2_) |(have H2_:=(Option.bind_some _ _).symm.trans H;with_reducible exact H2_) | with_reducible exact H |(rw [hy395];exact H) | exact H
    have Ny395:=am hy395
    clear hy395
    have H':=am H
    clear H
    go_wp2_with (first |((with_reducible refine jO (N:=74) rfl ?_);refine Kd.R_lit k52 _ 52 ?hg (N:=74) ?hd (xs:=([]:List (S52))) (inner:=[]) (ok:=fun _=>True) (okp:=fun _=>True) ?hr ?hp (fun _ hk=>hk) trivial (Below.refl _ _) (Nat.le_refl _) (by simp) ?_;(case hd=>rfl);(case hg=>rfl);(case hr=>exact Y6);(case hp=>exact (Reps.none _ _));intro v396 w36 ho37 hb hg_ hnew_;clear hg_ hnew_;(first | rw [← Ny395.out] at ho37 |(simp only [Int.reduceToNat] at ho37;rw [← Ny395.out] at ho37));have HO397:=am (Kd.jJa ho37 (jF (Y3)));replace HO_5:=am (Kd.jN (rq HO_5.out) hb);replace BK365:=am (jm (g:=gb365) (o:=.cells #[.slice A0_0 l0_0.length c0_0] 32 (0,0)) (kq BK365.out) hb);replace HB:=am (jd (Y3) hb);clear hb ho37))
    go_loopg [10,11] k1 (fun kq v10 v11 w'=>∃ (x10_2:List (S52)) (x11_2:Int),v11=.int .i64 x11_2∧jo (jl.l2 kq l1 x5_1 x10_2 x11_2=some r)∧jo (kq≤k1)∧jo (Kd.R (Kd.int .i64) 3 w' w.heap.size (fun _=>True) u5 x5_1)∧jo (Kd.R k52 52 w' w.heap.size (fun _=>True) v10 x10_2)∧jo (w'.heap[gb365]?=some (.cells #[(.slice A0_0 l0_0.length c0_0)] 32 (0,0)))∧jo (Below w.heap.size w w'))
    case atStart=>exact ⟨(y395),(0),(sq),H',⟨Nat.le_refl _⟩,⟨rq HO_5.out⟩,⟨rq HO397.out⟩,⟨kq BK365.out⟩,⟨Y3⟩⟩
    case round =>
     clear H'
     try clear c1
     try clear c2
     try clear p2
     try clear p3
     try clear q3
     try clear hx3
     try clear c4
     try clear c6
     try clear c6b0
     try clear p6
     try clear c7
     try clear c7b0
     try clear c8
     try clear c8b0
     try clear c8b1
     try clear c13
     try clear c13b0
     try clear c14
     try clear c14b0
     try clear c15
     try clear c15b0
     try clear c16
     try clear c16b0
     try clear c17
     try clear c17b0
     try clear c17b1
     try clear c19
     try clear c19b0
     try clear c20
     try clear c21
     try clear c28
     try clear p36
     try clear q36
     try clear hx36
     try clear p37
     try clear q37
     try clear hx37
     try clear hx369_0
     try clear hx369_1
     try clear hx369_2
     try clear hx369_3
     try clear hx376_0
     try clear hx377_0
     try clear hx377_1
     try clear hx377_2
     try clear hx377_3
     try clear hx378_0
     try clear hx379_0
     try clear hx379_1
     try clear hx379_2
     try clear hx379_3
     try clear hx381_0
     try clear hx385_0
     try clear hx386_0
     try clear hx386_1
     try clear hx386_2
     try clear hx386_3
     try clear hx390_0
     try clear hx391_0
     try clear hx391_1
     try clear hx391_2
     try clear hx391_3
     try clear p2
     try clear p3
     try clear p369
     try clear p376
     try clear p377
     try clear p378
     try clear p379
     try clear p381
     try clear p385
     try clear p386
     try clear p390
     try clear p391
     try clear q3
     try clear q369
     try clear q376
     try clear q377
     try clear q378
     try clear q379
     try clear q381
     try clear q385
     try clear q386
     try clear q390
     try clear q391
     obtain ⟨x10_2,x11_2,rfl,HA,HK2,HO_5,HO_10,BK365,HB⟩:=hrel
     cases gk with
     | zero=>exact absurd HA.out (by simp [jl.l2])
     | succ k2 =>
      have H:=HA.out
      clear HA
      simp only [jl.l2] at H
      by_cases c38:x11_2<(l1.length:Int)
      ·rw [if_pos c38] at H
       have c38b0:decide (x11_2<(l1.length:Int))=true:=dzT c38
       clear c38
       replace H:=bzS H
       obtain ⟨t398,A390,H⟩:=H
       replace H:(if t398=true then ((jZ.f k2 l1 x11_2).bind fun t399=>(jl.l2 k2 l1 x5_1 x10_2 t399)) else (if 0≤x11_2 then (if x10_2.length<4398046511104 then (jl.l2 k2 l1 x5_1 (x10_2 ++ [(⟨(jb l1 x11_2).f0,(jb l1 x11_2).f1,(jb l1 x11_2).f2,(jb l1 x11_2).f3⟩:S52)]) (wrap64 (x11_2+1))) else (none)) else (none)))=some r:=H
       have A39:=am A390
       clear A390
       by_cases c40:t398=true
       ·subst c40
        have H1:((jZ.f k2 l1 x11_2).bind fun t399=>(jl.l2 k2 l1 x5_1 x10_2 t399))=some r:=by rw [if_pos rfl] at H;exact H
        clear H
        have H:=H1
        clear H1
        replace H:=bzS H
        obtain ⟨t399,A410,H⟩:=H
        replace H:(jl.l2 k2 l1 x5_1 x10_2 t399)=some r:=H
        have A41:=am A410
        clear A410
        have H':=am H
        clear H
        obtain ⟨Ao42,co42,eo42⟩:=Kd.jHa HO_5.out
        subst eo42
        go_wp2_with (first |((with_reducible refine je (f:=45) rfl ?_);refine gL (some 81) Try.func45 #[.slice Ao42 x5_1.length co42, .int .i64 x11_2] ?_;(with_reducible refine (jDa.calls k2 _ _ x5_1 x11_2 true _ ?side1 ?side2 A39.out).mono ?_);(case side1=>exact cq (Kd.jB HO_5.out).2.2);(case side2=>exact (Kd.jB HO_5.out).2.1);rintro e w' ⟨rfl,⟨nd,rfl⟩⟩;refine ⟨_,rfl,?_⟩) |((with_reducible refine je (f:=31) rfl ?_);refine gL (some 84) Try.func31 #[.slice A1 l1.length c1, .int .i64 x11_2] ?_;(with_reducible refine (jZ.calls k2 _ _ l1 x11_2 t399 _ ?side1 ?side2 A41.out).mono ?_);(case side1=>repeat (first | exact (Kd.jI HR1.out (by repeat (first |(with_reducible first | exact HB.out | apply jC | apply jh | apply jv | refine jA ?_ GE365.out) | exact HB.out))) |(with_reducible refine Kd.C_alloc ?_ _) |(with_reducible refine Kd.C_drewN ?_ _) |(with_reducible refine Kd.C_drew ?_)));(case side2=>exact HC1.out);rintro e w' ⟨rfl,⟨nd,rfl⟩⟩;refine ⟨_,rfl,?_⟩))
        go_roundg k2
        case measure=>have:=HK1.out;have:=HK2.out;omega
        case rel=>exact ⟨(x10_2),(t399),(sq),H',⟨by have:=HK1.out;have:=HK2.out;omega⟩,⟨rq HO_5.out⟩,⟨rq HO_10.out⟩,⟨kq BK365.out⟩,⟨Y3⟩⟩
       ·replace c40:=Bool.eq_false_iff.mpr c40
        subst c40
        have H1:(if 0≤x11_2 then (if x10_2.length<4398046511104 then (jl.l2 k2 l1 x5_1 (x10_2 ++ [(⟨(jb l1 x11_2).f0,(jb l1 x11_2).f1,(jb l1 x11_2).f2,(jb l1 x11_2).f3⟩:S52)]) (wrap64 (x11_2+1))) else (none)) else (none))=some r:=by rw [if_neg (show ¬ (false=true) by decide)] at H;exact H
        clear H
        have H:=H1
        clear H1
        by_cases c43:0≤x11_2
        ·rw [if_pos c43] at H
         have c43b0:decide (0≤x11_2)=true:=dzT c43
         clear c43
         by_cases c44:x10_2.length<4398046511104
         ·rw [if_pos c44] at H
          have LMc44:=am c44
          clear c44
          obtain ⟨y401,hy401⟩:∃ y_:List (S52),y_=(x10_2 ++ [(⟨(jb l1 x11_2).f0,(jb l1 x11_2).f1,(jb l1 x11_2).f2,(jb l1 x11_2).f3⟩:S52)]):=⟨_,rfl⟩
          replace H:(jl.l2 k2 l1 x5_1 y401 (wrap64 (x11_2+1)))=some r:=by first |(rw [hy401];with_reducible exact H) |(have H2_:=(Option.bind_some _ _).symm.trans H;rw [hy401];with_reducible exact H2_) |(have H2_:=(Option.bind_some _ _).symm.trans H;with_reducible exact H2_) | with_reducible exact H |(rw [hy401];exact H) | exact H
          have Ny401:=am hy401
          clear hy401
          have H':=am H
          clear H
          obtain ⟨Ao45,co45,eo45⟩:=Kd.jHa HO_5.out
          subst eo45
          go_wp2_with (first |((with_reducible refine je (f:=45) rfl ?_);refine gL (some 81) Try.func45 #[.slice Ao45 x5_1.length co45, .int .i64 x11_2] ?_;(with_reducible refine (jDa.calls k2 _ _ x5_1 x11_2 false _ ?side1 ?side2 A39.out).mono ?_);(case side1=>exact cq (Kd.jB HO_5.out).2.2);(case side2=>exact (Kd.jB HO_5.out).2.1);rintro e w' ⟨rfl,⟨nd,rfl⟩⟩;refine ⟨_,rfl,?_⟩;have p400:0≤(x11_2:Int):=ozD (uq);have q400:x11_2<(l1.length:Int):=ozD (uq);obtain ⟨ad400,e400,hx400_0,hx400_1,hx400_2,hx400_3⟩:=jaa HR1.out x11_2 p400 q400;cases e400;replace hx400_0:=cb HB.out hx400_0;replace hx400_1:=cb HB.out hx400_1;replace hx400_2:=cb HB.out hx400_2;replace hx400_3:=cb HB.out hx400_3;replace p400:=ezT p400;replace q400:=ezT q400) |((with_reducible refine jLa (b:=.append) (xs:=#[.tmp 85, .tmp 90]) rfl ?_);at_builtin;refine Kd.jkb k52 (w0:=w) w.heap.size rfl (.tmp 85) (.tmp 90) 28 52 (.agg #[(.int .i64 0),(.int .i64 0),(.int .i64 0),(.int .i64 0)]) 32 rfl Try.underlying28 info52 rfl (by decide) (by omega) u10 x10_2 (⟨(jb l1 x11_2).f0,(jb l1 x11_2).f1,(jb l1 x11_2).f2,(jb l1 x11_2).f3⟩:S52) [.int .i64 ((jb l1 x11_2).f0), .int .i64 ((jb l1 x11_2).f1), .int .i64 ((jb l1 x11_2).f2), .int .i64 ((jb l1 x11_2).f3)] (fun _=>True) (fun _=>False) rfl rfl ?aP (fun _ hk=>hk.elim) ?aF ?aO ?aB ?aS ?aL ?_;(case aP=>exact k52_mkM _ _ _ (⟨(jb l1 x11_2).f0,(jb l1 x11_2).f1,(jb l1 x11_2).f2,(jb l1 x11_2).f3⟩:S52));(case aB=>exact (Y3));(case aF=>exact (fun _ _=>trivial));(case aO=>exact (rq HO_10.out));(case aS=>exact (jF (Y3)));(case aL=>have:=LMc44.out;omega);intro v402 w46 ho hb hg hat;rw [← Ny401.out] at ho;have n0_:=am (Kd.R_over' (rq HO_5.out) (Kd.jbc (rq HO_10.out)) (by decide) hg);have n1_:=am (jfc (g:=gb365) (o:=.cells #[.slice A0_0 l0_0.length c0_0] 32 (0,0)) (kq BK365.out) hg (Kd.R_ne HO_10.out BK365.out (by decide)));have n2_:=am (hb);have n3_:=am (ho);clear HO_5 BK365 HB HO_10;have HO_5:=n0_;have BK365:=n1_;have HB:=n2_;have HO403:=n3_;clear n0_ n1_ n2_ n3_ ho hb hg hat))
          go_roundg k2
          case measure=>have:=HK1.out;have:=HK2.out;omega
          case rel=>exact ⟨(y401),(wrap64 (x11_2+1)),(sq),H',⟨by have:=HK1.out;have:=HK2.out;omega⟩,⟨rq HO_5.out⟩,⟨rq HO403.out⟩,⟨kq BK365.out⟩,⟨Y3⟩⟩
         ·rw [if_neg c44] at H
          exact absurd H (by simp)
        ·rw [if_neg c43] at H
         exact absurd H (by simp)
      ·rw [if_neg c38] at H
       have c38b0:decide (x11_2<(l1.length:Int))=false:=dzF c38
       clear c38
       obtain rfl:=Option.some.inj H
       go_wp2
       go_ret
       exact ⟨_,Y0,rq HO_10.out,Y3⟩
end Go.Proofs.Ytkhiiiddbmgiaaa.P
end
