/- One part of the proofs on this program: functions of the program as plain functions, that the code comes to them, and facts on them. -/
import Derived.Test.YtkhiiiddbmgiaaaYAll1
import Derived.Test.YtkhiiiddbmgiaaaYAll2
import Derived.Test.YtkhiiiddbmgiaaaYWAuto
section
namespace Go.Proofs.Ytkhiiiddbmgiaaa.P
open Go.RowKit Go.Proofs.YtkhiiiddbmgiaaaW.PrintWords Go.Proofs.YtkhiiiddbmgiaaaW.PrintLast Go.Proofs.YtkhiiiddbmgiaaaW.PrintMore
attribute [local go_sem] jU jS jia jha jM jL jT jR jc
set_option linter.unusedVariables false
set_option linter.unusedSimpArgs false
def ji.inB (a lo hi : Int) : Bool := decide (lo ≤ a) && decide (a ≤ hi)
theorem jJb (a lo hi : Int) : jB.f a lo hi = some (ji.inB a lo hi) := by
 unfold jB.f ji.inB
 by_cases h:lo≤a
 ·rw [if_pos h];simp [h]
 ·rw [if_neg h];simp [h]
theorem spec_opens_eq (a : Int) : jjc.f a = some (ji.inB a 7 12) := by
 unfold jjc.f
 rw [jJb];rfl
theorem spec_follows_eq (a : Int) : jdb.f a = some (ji.inB a 8 10) := by
 unfold jdb.f
 rw [jJb];rfl
def ji.off (p : List S52) (i : Int) (x : S52) : Bool :=
 if (if i=0 then decide (x.f0≠0) else if (wrap64 ((jb p (i - 1)).f0+1))<x.f0 then true else (ji.inB (jb p (i - 1)).f1 7 12 != (x.f0 == wrap64 ((jb p (i - 1)).f0+1)))) then true
 else decide (i+1=(p.length:Int)) && ji.inB x.f1 7 12
def ji.f (k : Nat) (l0_0 : List S78) (l1 : List S52) (a2 : Int) : Option Bool :=
 if 0≤a2 then if a2<(l1.length:Int) then
  (jla.f k l0_0 (jb l1 a2).f0 (jb l1 a2).f1 (jb l1 a2).f2 (jb l1 a2).f3).bind fun v =>
  if v=false then some false else if ji.inB (jb l1 a2).f0 0 5=false then some false else
  if ji.off l1 a2 (jb l1 a2) then some false else
  (if (jb l1 a2).f1=7 then jq.f k l1 a2 else some true).bind fun c1=>if c1=false then some false else
  (if (jb l1 a2).f1=5∨(jb l1 a2).f1=6 then jLa.f k l1 a2 else some true).bind fun c2=>if c2=false then some false else
  if ji.inB (jb l1 a2).f1 8 10=false then some true else
  (jMa.f k l1 a2).bind fun h=>if 0≤h then if h<(l1.length:Int) then some ((jb l1 h).f1 == 7 || ji.inB (jb l1 h).f1 8 10) else none else some false
 else none else none
def VX (W : World) (BX : Nat) (x : S52) : Prop := W.heap[BX]? = some (.cells #[.int .i64 x.f0, .int .i64 x.f1, .int .i64 x.f2, .int .i64 x.f3] 52 (0, 0))
theorem VX.below {W W' : World} {BX : Nat} {x : S52} (h : VX W BX x) (hb : Below W.heap.size W W') : VX W' BX x := (hb.block _ (jVa h)).trans h
theorem VX.cells {W : World} {BX : Nat} {x : S52} (h : VX W BX x) : W.cell? ⟨BX, 0, none⟩ = some (.int .i64 x.f0) ∧ W.cell? ⟨BX, 1, none⟩ = some (.int .i64 x.f1) ∧ W.cell? ⟨BX, 2, none⟩ = some (.int .i64 x.f2) ∧ W.cell? ⟨BX, 3, none⟩ = some (.int .i64 x.f3) :=
 ⟨(jDa h 0).trans rfl,(jDa h 1).trans rfl,(jDa h 2).trans rfl,(jDa h 3).trans rfl⟩
set_option maxHeartbeats 8000000 in
set_option maxRecDepth 100000 in
theorem ji.calls (k : Nat) (A0_0 : Option Addr) (c0_0 : Nat) (l0_0 : List S78) (A1 : Option Addr) (c1 : Nat) (l1 : List S52) (a2 : Int) (r : Bool) (w : World) (hr0_0 : Kd.C k78 w A0_0 l0_0.length l0_0) (hc0_0 : l0_0.length ≤ c0_0) (hr1 : Kd.C k52 w A1 l1.length l1) (hc1 : l1.length ≤ c1) (h : ji.f k l0_0 l1 a2 = some r) :
  Calls Try.prog 57 #[.agg #[.slice A0_0 l0_0.length c0_0], .slice A1 l1.length c1, .int .i64 a2] w fun e w'=>e=.returned (.bool r)∧Below w.heap.size w w':=by
 have hu32:=Try.underlying32
 have hu52:=Try.underlying52
 have hm:l1.length≤9223372036854775807:=Kd.C_max hr1
 unfold ji.f at h
 by_cases h0:0≤a2
 ·rw [if_pos h0] at h
  by_cases h1:a2<(l1.length:Int)
  ·rw [if_pos h1] at h
   obtain ⟨v,hv,h⟩:=bzS h
   have HN:=am (fun W (hb:Below w.heap.size w W)=>jla.calls k A0_0 c0_0 l0_0 _ _ _ _ v W (Kd.jF hr0_0 hb) hc0_0 hv)
   clear hv
   obtain ⟨ad,rfl,hx0,hx1,hx2,hx3⟩:=jba hr1 a2 h0 h1
   have HR1:=am hr1
   clear hr0_0 hr1
   generalize hgx:jb l1 a2=x at h HN hx0 hx1 hx2 hx3
   clear hgx
   have X1:=am (show VX ((w.alloc (.cells #[.slice A0_0 l0_0.length c0_0] 32)).alloc (.cells #[.int .i64 x.f0, .int .i64 x.f1, .int .i64 x.f2, .int .i64 x.f3] 52)) (w.heap.size+1) x by have:=heap_alloc_new (w.alloc (.cells #[.slice A0_0 l0_0.length c0_0] 32)) (.cells #[.int .i64 x.f0, .int .i64 x.f1, .int .i64 x.f2, .int .i64 x.f3] 52);simpa [VX] using this)
   have HB1:=am (((Below.refl w.heap.size w).alloc (Nat.le_refl _) (.cells #[.slice A0_0 l0_0.length c0_0] 32)).alloc (by simp) (.cells #[.int .i64 x.f0, .int .i64 x.f1, .int .i64 x.f2, .int .i64 x.f3] 52))
   have hbt:=(Below.refl w.heap.size w).alloc (Nat.le_refl _) (.cells #[.slice A0_0 l0_0.length c0_0] 32)
   replace hx0:=jZ hbt hx0
   replace hx1:=jZ hbt hx1
   replace hx2:=jZ hbt hx2
   replace hx3:=jZ hbt hx3
   clear hbt
   have p0:=ezT h0
   have p1:=ezT h1
   cases v with
   | false =>
    obtain rfl:false=r:=by simpa using h
    clear h
    go_enter Try.func57,Try.ntmps57
    go_wp2_with (first |(go_at_call 84;refine (HN.out _ HB1.out).mono ?_;rintro e w2 ⟨rfl,hb2⟩;have X2:=am (VX.below X1.out hb2);have HB2:=am (jV HB1.out HB1.out.size hb2);clear hb2;obtain ⟨e0,e1,e2,e3⟩:=VX.cells X2.out))
    go_ret
    exact ⟨rfl,HB2.out⟩
   | true =>
    simp only [Bool.true_eq_false,if_false] at h
    cases h5:ji.inB x.f0 0 5 with
    | false =>
     have H5:=am h5
     rw [h5,if_pos rfl] at h
     obtain rfl:false=r:=by simpa using h
     clear h h5
     go_enter Try.func57,Try.ntmps57
     go_wp2_with (first |(go_at_call 84;refine (HN.out _ HB1.out).mono ?_;rintro e w2 ⟨rfl,hb2⟩;have X2:=am (VX.below X1.out hb2);have HB2:=am (jV HB1.out HB1.out.size hb2);clear hb2;obtain ⟨e0,e1,e2,e3⟩:=VX.cells X2.out) |(go_at_call 85;refine (jB.calls _ _ _ _ _ (jJb _ _ _)).mono ?_;rintro e w3 ⟨rfl,hd3⟩;have hb3:=hd3.below;clear hd3;have X3:=am (VX.below X2.out hb3);have HB3:=am (jV HB2.out HB2.out.size hb3);clear hb3 e0 e1 e2 e3;obtain ⟨e0,e1,e2,e3⟩:=VX.cells X3.out;rw [H5.out]))
     go_ret
     exact ⟨rfl,HB3.out⟩
    | true =>
     have H5:=am h5
     rw [h5] at h
     simp only [Bool.true_eq_false,if_false] at h
     clear h5
     have HH:=am h
     clear h
     go_enter Try.func57,Try.ntmps57
     go_upto_region 4 with (first |(go_at_call 84;refine (HN.out _ HB1.out).mono ?_;rintro e w2 ⟨rfl,hb2⟩;have X2:=am (VX.below X1.out hb2);have HB2:=am (jV HB1.out HB1.out.size hb2);clear hb2;obtain ⟨e0,e1,e2,e3⟩:=VX.cells X2.out) |(go_at_call 85;refine (jB.calls _ _ _ _ _ (jJb _ _ _)).mono ?_;rintro e w3 ⟨rfl,hd3⟩;have hb3:=hd3.below;clear hd3;have X3:=am (VX.below X2.out hb3);have HB3:=am (jV HB2.out HB2.out.size hb3);clear hb3 e0 e1 e2 e3;obtain ⟨e0,e1,e2,e3⟩:=VX.cells X3.out;rw [H5.out]))
     go_cut [77] (fun v77 wc=>v77=.bool (ji.off l1 a2 x)∧jk (VX wc (w.heap.size+1) x)∧jk (Below w.heap.size w wc))
     case first =>
      clear HH
      have HO:=am (fun (a:Int) (b:Bool) (hb:ji.inB a 7 12=b) W=>(jjc.calls a b W (by rw [spec_opens_eq,hb])).mono fun e w' h=>(⟨h.1,h.2.out⟩:e=.returned (.bool b)∧∃ m,w'=W.drewN m))
      have hw2:IntKind.i64.wrap (a2+1)=a2+1:=IntWalk.i64_in _ (by omega)
      by_cases z0:a2=0
      ·have b0:(a2 == 0)=true:=beq_iff_eq.2 z0
       have b0':decide (0<a2)=false:=dzF (by omega)
       by_cases zx:x.f0=0
       ·have b1:(x.f0 != 0)=false:=by simpa using zx
        have HE:=am (by unfold ji.off;rw [if_pos z0];simp [zx]:ji.off l1 a2 x=(decide (a2+1=(l1.length:Int)) && ji.inB x.f1 7 12))
        clear z0
        clear zx
        by_cases zl:a2+1=(l1.length:Int)
        ·have b3:(a2+1 == (l1.length:Int))=true:=by rw [beq_iff_eq];omega
         cases hx:ji.inB x.f1 7 12 with
         | true =>
          have HX:=am hx
          have HF:=am (by rw [HE.out,hx,dzT zl];rfl:ji.off l1 a2 x=true)
          clear zl hx HE
          go_big_quiet ((go_at_call 86;exact Calls.quiet_of (HO.out x.f1 _ HX.out _)))
          go_wp2
          go_meet
          case rel=>exact ⟨by rw [HF.out],X3,⟨jg HB3.out _⟩⟩
         | false =>
          have HX:=am hx
          have HF:=am (by rw [HE.out,hx];simp:ji.off l1 a2 x=false)
          clear zl hx HE
          go_big_quiet ((go_at_call 86;exact Calls.quiet_of (HO.out x.f1 _ HX.out _)))
          go_wp2
          go_meet
          case rel=>exact ⟨by rw [HF.out],X3,⟨jg HB3.out _⟩⟩
        ·have b3:(a2+1 == (l1.length:Int))=false:=by rw [beq_eq_false_iff_ne];omega
         have HF:=am (by rw [HE.out,dzF zl];rfl:ji.off l1 a2 x=false)
         clear zl HE
         go_big_quiet (fail)
         go_wp2
         go_meet
         case rel=>exact ⟨by rw [HF.out],X3,⟨jg HB3.out _⟩⟩
       ·have b1:(x.f0 != 0)=true:=by simpa using zx
        have HF:=am (by unfold ji.off;rw [if_pos z0];simp [zx]:ji.off l1 a2 x=true)
        clear zx z0
        go_big_quiet (fail)
        go_wp2
        go_meet
        case rel=>exact ⟨by rw [HF.out],X3,⟨jg HB3.out _⟩⟩
      ·have b0:(a2 == 0)=false:=beq_eq_false_iff_ne.2 z0
       have b0':decide (0<a2)=true:=dzT (by omega)
       have q0:0≤a2 - 1:=by omega
       have q1:a2 - 1<(l1.length:Int):=by omega
       obtain ⟨j,hj⟩:∃ j,a2 - 1=j:=⟨_,rfl⟩
       rw [hj] at q0 q1
       obtain ⟨ad',he,y0,y1,y2,y3⟩:=jba HR1.out j q0 q1
       cases he
       replace y0:=jZ HB3.out y0
       replace y1:=jZ HB3.out y1
       clear y2 y3
       replace q0:=ezT q0
       replace q1:=ezT q1
       have HD:=am (by unfold ji.off;rw [if_neg z0]:ji.off l1 a2 x=if (if (wrap64 ((jb l1 (a2 - 1)).f0+1))<x.f0 then true else (ji.inB (jb l1 (a2 - 1)).f1 7 12 != (x.f0 == wrap64 ((jb l1 (a2 - 1)).f0+1)))) then true else decide (a2+1=(l1.length:Int)) && ji.inB x.f1 7 12)
       clear z0
       rw [hj] at HD
       generalize jb l1 j=y at HD y0 y1
       generalize hz:wrap64 (y.f0+1)=z at HD
       have HZ:=am hz
       by_cases zt:z<x.f0
       ·have b4:decide (z<x.f0)=true:=dzT zt
        have HF:=am (by rw [HD.out];simp [zt]:ji.off l1 a2 x=true)
        clear zt HD
        go_big_quiet (fail)
        go_wp2
        go_meet
        case rel=>exact ⟨by rw [HF.out],X3,⟨jg HB3.out _⟩⟩
       ·have b4:decide (z<x.f0)=false:=dzF zt
        cases hy:ji.inB y.f1 7 12 with
        | true =>
         have HY:=am hy
         by_cases ze:x.f0=z
         ·have b5:(x.f0 == z)=true:=beq_iff_eq.2 ze
          have HE:=am (by rw [HD.out,hy,b5];simp [zt]:ji.off l1 a2 x=(decide (a2+1=(l1.length:Int)) && ji.inB x.f1 7 12))
          clear zt HD hy ze
          by_cases zl:a2+1=(l1.length:Int)
          ·have b3:(a2+1 == (l1.length:Int))=true:=by rw [beq_iff_eq];omega
           cases hx:ji.inB x.f1 7 12 with
           | true =>
            have HX:=am hx
            have HF:=am (by rw [HE.out,hx,dzT zl];rfl:ji.off l1 a2 x=true)
            clear zl hx HE
            go_big_quiet (first |(go_at_call 86;exact Calls.quiet_of (HO.out y.f1 _ HY.out _)) |(go_at_call 86;exact Calls.quiet_of (HO.out x.f1 _ HX.out _)))
            go_wp2
            go_meet
            case rel=>exact ⟨by rw [HF.out],X3,⟨jg HB3.out _⟩⟩
           | false =>
            have HX:=am hx
            have HF:=am (by rw [HE.out,hx];simp:ji.off l1 a2 x=false)
            clear zl hx HE
            go_big_quiet (first |(go_at_call 86;exact Calls.quiet_of (HO.out y.f1 _ HY.out _)) |(go_at_call 86;exact Calls.quiet_of (HO.out x.f1 _ HX.out _)))
            go_wp2
            go_meet
            case rel=>exact ⟨by rw [HF.out],X3,⟨jg HB3.out _⟩⟩
          ·have b3:(a2+1 == (l1.length:Int))=false:=by rw [beq_eq_false_iff_ne];omega
           have HF:=am (by rw [HE.out,dzF zl];rfl:ji.off l1 a2 x=false)
           clear zl HE
           go_big_quiet ((go_at_call 86;exact Calls.quiet_of (HO.out y.f1 _ HY.out _)))
           go_wp2
           go_meet
           case rel=>exact ⟨by rw [HF.out],X3,⟨jg HB3.out _⟩⟩
         ·have b5:(x.f0 == z)=false:=beq_eq_false_iff_ne.2 ze
          have HF:=am (by rw [HD.out,hy,b5];simp:ji.off l1 a2 x=true)
          clear zt HD hy ze
          go_big_quiet ((go_at_call 86;exact Calls.quiet_of (HO.out y.f1 _ HY.out _)))
          go_wp2
          go_meet
          case rel=>exact ⟨by rw [HF.out],X3,⟨jg HB3.out _⟩⟩
        | false =>
         have HY:=am hy
         by_cases ze:x.f0=z
         ·have b5:(x.f0 == z)=true:=beq_iff_eq.2 ze
          have HF:=am (by rw [HD.out,hy,b5];simp:ji.off l1 a2 x=true)
          clear zt HD hy ze
          go_big_quiet ((go_at_call 86;exact Calls.quiet_of (HO.out y.f1 _ HY.out _)))
          go_wp2
          go_meet
          case rel=>exact ⟨by rw [HF.out],X3,⟨jg HB3.out _⟩⟩
         ·have b5:(x.f0 == z)=false:=beq_eq_false_iff_ne.2 ze
          have HE:=am (by rw [HD.out,hy,b5];simp [zt]:ji.off l1 a2 x=(decide (a2+1=(l1.length:Int)) && ji.inB x.f1 7 12))
          clear zt HD hy ze
          by_cases zl:a2+1=(l1.length:Int)
          ·have b3:(a2+1 == (l1.length:Int))=true:=by rw [beq_iff_eq];omega
           cases hx:ji.inB x.f1 7 12 with
           | true =>
            have HX:=am hx
            have HF:=am (by rw [HE.out,hx,dzT zl];rfl:ji.off l1 a2 x=true)
            clear zl hx HE
            go_big_quiet (first |(go_at_call 86;exact Calls.quiet_of (HO.out y.f1 _ HY.out _)) |(go_at_call 86;exact Calls.quiet_of (HO.out x.f1 _ HX.out _)))
            go_wp2
            go_meet
            case rel=>exact ⟨by rw [HF.out],X3,⟨jg HB3.out _⟩⟩
           | false =>
            have HX:=am hx
            have HF:=am (by rw [HE.out,hx];simp:ji.off l1 a2 x=false)
            clear zl hx HE
            go_big_quiet (first |(go_at_call 86;exact Calls.quiet_of (HO.out y.f1 _ HY.out _)) |(go_at_call 86;exact Calls.quiet_of (HO.out x.f1 _ HX.out _)))
            go_wp2
            go_meet
            case rel=>exact ⟨by rw [HF.out],X3,⟨jg HB3.out _⟩⟩
          ·have b3:(a2+1 == (l1.length:Int))=false:=by rw [beq_eq_false_iff_ne];omega
           have HF:=am (by rw [HE.out,dzF zl];rfl:ji.off l1 a2 x=false)
           clear zl HE
           go_big_quiet ((go_at_call 86;exact Calls.quiet_of (HO.out y.f1 _ HY.out _)))
           go_wp2
           go_meet
           case rel=>exact ⟨by rw [HF.out],X3,⟨jg HB3.out _⟩⟩
     case rest =>
      obtain ⟨rfl,X4,HB4⟩:=hcut
      clear X1 HB1
      have h:=HH.out
      clear HH
      obtain ⟨e0,e1,e2,e3⟩:=VX.cells X4.out
      have tok:True:=trivial
      have HO:=am (fun (a:Int) (b:Bool) (hb:ji.inB a 8 10=b) W=>jdb.calls a b W (by rw [spec_follows_eq,hb]))
      cases ho:ji.off l1 a2 x with
      | true =>
       rw [ho,if_pos rfl] at h
       obtain rfl:false=r:=by simpa using h
       clear h ho
       go_wp2
       go_ret
       exact ⟨rfl,HB4.out⟩
      | false =>
       rw [ho] at h
       simp only [Bool.false_eq_true,if_false] at h
       clear ho
       obtain ⟨c,hc,h⟩:=bzS h
       by_cases z7:x.f1=7
       ·rw [if_pos z7] at hc
        have HC:=am (fun W (hb:Below w.heap.size w W)=>jq.calls k _ c1 l1 a2 c W (Kd.jF HR1.out hb) hc1 hc)
        have b7:(x.f1 == 7)=true:=beq_iff_eq.2 z7
        have b5:(x.f1 == 5)=false:=beq_eq_false_iff_ne.2 (by omega)
        have b6:(x.f1 == 6)=false:=beq_eq_false_iff_ne.2 (by omega)
        cases c with
        | false =>
         obtain rfl:false=r:=by simpa using h
         clear h hc z7
         go_wp2_with (first |(go_at_call 87;refine (HC.out _ HB4.out).mono ?_;rintro e w5 ⟨rfl,hb5⟩;have X5:=am (VX.below X4.out hb5);have HB5:=am (jV HB4.out HB4.out.size hb5);clear hb5 e0 e1 e2 e3;obtain ⟨e0,e1,e2,e3⟩:=VX.cells X5.out))
         go_ret
         exact ⟨rfl,HB5.out⟩
        | true =>
         have hx:ji.inB x.f1 8 10=false:=by unfold ji.inB;rw [z7];rfl
         have HX:=am hx
         obtain rfl:true=r:=by simpa [z7,show ji.inB 7 8 10=false from rfl] using h
         clear h hc z7 hx
         go_wp2_with (first |(go_at_call 87;refine (HC.out _ HB4.out).mono ?_;rintro e w5 ⟨rfl,hb5⟩;have X5:=am (VX.below X4.out hb5);have HB5:=am (jV HB4.out HB4.out.size hb5);clear hb5 e0 e1 e2 e3;obtain ⟨e0,e1,e2,e3⟩:=VX.cells X5.out) |(go_at_call 89;have tk:=tok;clear tok;refine (HO.out x.f1 _ HX.out _).mono ?_;rintro e w6 ⟨rfl,hd6⟩;have hb6:=hd6.below;clear hd6;have X6:=am (VX.below X5.out hb6);have HB6:=am (jV HB5.out HB5.out.size hb6);clear hb6 e0 e1 e2 e3;obtain ⟨e0,e1,e2,e3⟩:=VX.cells X6.out))
         go_ret
         exact ⟨rfl,HB6.out⟩
       ·rw [if_neg z7] at hc
        obtain rfl:true=c:=by simpa using hc
        clear hc
        have b7:(x.f1 == 7)=false:=beq_eq_false_iff_ne.2 z7
        simp only [Bool.true_eq_false,if_false] at h
        obtain ⟨c,hc,h⟩:=bzS h
        by_cases z56:x.f1=5∨x.f1=6
        ·rw [if_pos z56] at hc
         have HC:=am (fun W (hb:Below w.heap.size w W)=>jLa.calls k _ c1 l1 a2 c W (Kd.jF HR1.out hb) hc1 hc)
         have hx:ji.inB x.f1 8 10=false:=by rcases z56 with z | z <;> (unfold ji.inB;rw [z];rfl)
         have HX:=am hx
         cases c with
         | false =>
          obtain rfl:false=r:=by simpa using h
          clear h hc hx
          rcases z56 with z | z
          ·have b5:(x.f1 == 5)=true:=beq_iff_eq.2 z
           clear z z7
           go_wp2_with (first |(go_at_call 88;refine (HC.out _ HB4.out).mono ?_;rintro e w5 ⟨rfl,hd5⟩;have hb5:=hd5.below;clear hd5;have X5:=am (VX.below X4.out hb5);have HB5:=am (jV HB4.out HB4.out.size hb5);clear hb5 e0 e1 e2 e3;obtain ⟨e0,e1,e2,e3⟩:=VX.cells X5.out))
           go_ret
           exact ⟨rfl,HB5.out⟩
          ·have b5:(x.f1 == 5)=false:=beq_eq_false_iff_ne.2 (by omega)
           have b6:(x.f1 == 6)=true:=beq_iff_eq.2 z
           clear z z7
           go_wp2_with (first |(go_at_call 88;refine (HC.out _ HB4.out).mono ?_;rintro e w5 ⟨rfl,hd5⟩;have hb5:=hd5.below;clear hd5;have X5:=am (VX.below X4.out hb5);have HB5:=am (jV HB4.out HB4.out.size hb5);clear hb5 e0 e1 e2 e3;obtain ⟨e0,e1,e2,e3⟩:=VX.cells X5.out))
           go_ret
           exact ⟨rfl,HB5.out⟩
         | true =>
          obtain rfl:true=r:=by simpa [hx] using h
          clear h hc hx
          rcases z56 with z | z
          ·have b5:(x.f1 == 5)=true:=beq_iff_eq.2 z
           clear z z7
           go_wp2_with (first |(go_at_call 88;refine (HC.out _ HB4.out).mono ?_;rintro e w5 ⟨rfl,hd5⟩;have hb5:=hd5.below;clear hd5;have X5:=am (VX.below X4.out hb5);have HB5:=am (jV HB4.out HB4.out.size hb5);clear hb5 e0 e1 e2 e3;obtain ⟨e0,e1,e2,e3⟩:=VX.cells X5.out) |(go_at_call 89;have tk:=tok;clear tok;refine (HO.out x.f1 _ HX.out _).mono ?_;rintro e w6 ⟨rfl,hd6⟩;have hb6:=hd6.below;clear hd6;have X6:=am (VX.below X5.out hb6);have HB6:=am (jV HB5.out HB5.out.size hb6);clear hb6 e0 e1 e2 e3;obtain ⟨e0,e1,e2,e3⟩:=VX.cells X6.out))
           go_ret
           exact ⟨rfl,HB6.out⟩
          ·have b5:(x.f1 == 5)=false:=beq_eq_false_iff_ne.2 (by omega)
           have b6:(x.f1 == 6)=true:=beq_iff_eq.2 z
           clear z z7
           go_wp2_with (first |(go_at_call 88;refine (HC.out _ HB4.out).mono ?_;rintro e w5 ⟨rfl,hd5⟩;have hb5:=hd5.below;clear hd5;have X5:=am (VX.below X4.out hb5);have HB5:=am (jV HB4.out HB4.out.size hb5);clear hb5 e0 e1 e2 e3;obtain ⟨e0,e1,e2,e3⟩:=VX.cells X5.out) |(go_at_call 89;have tk:=tok;clear tok;refine (HO.out x.f1 _ HX.out _).mono ?_;rintro e w6 ⟨rfl,hd6⟩;have hb6:=hd6.below;clear hd6;have X6:=am (VX.below X5.out hb6);have HB6:=am (jV HB5.out HB5.out.size hb6);clear hb6 e0 e1 e2 e3;obtain ⟨e0,e1,e2,e3⟩:=VX.cells X6.out))
           go_ret
           exact ⟨rfl,HB6.out⟩
        ·rw [if_neg z56] at hc
         obtain rfl:true=c:=by simpa using hc
         clear hc
         have b5:(x.f1 == 5)=false:=beq_eq_false_iff_ne.2 (fun z=>z56 (.inl z))
         have b6:(x.f1 == 6)=false:=beq_eq_false_iff_ne.2 (fun z=>z56 (.inr z))
         simp only [Bool.true_eq_false,if_false] at h
         clear z7 z56
         cases hx:ji.inB x.f1 8 10 with
         | false =>
          have HX:=am hx
          rw [hx,if_pos rfl] at h
          obtain rfl:true=r:=by simpa using h
          clear h hx
          go_wp2_with (first |(go_at_call 89;have tk:=tok;clear tok;refine (HO.out x.f1 _ HX.out _).mono ?_;rintro e w6 ⟨rfl,hd6⟩;have hb6:=hd6.below;clear hd6;have X6:=am (VX.below X4.out hb6);have HB6:=am (jV HB4.out HB4.out.size hb6);clear hb6 e0 e1 e2 e3;obtain ⟨e0,e1,e2,e3⟩:=VX.cells X6.out))
          go_ret
          exact ⟨rfl,HB6.out⟩
         | true =>
          have HX:=am hx
          rw [hx] at h
          simp only [Bool.true_eq_false,if_false] at h
          clear hx
          obtain ⟨q,hq,h⟩:=bzS h
          have HQ:=am (fun W (hb:Below w.heap.size w W)=>jMa.calls k _ c1 l1 a2 q W (Kd.jF HR1.out hb) hc1 hq)
          clear hq
          by_cases q0:0≤q
          ·rw [if_pos q0] at h
           have q0b:=dzT q0
           by_cases q1:q<(l1.length:Int)
           ·rw [if_pos q1] at h
            obtain ⟨ad',he,y0,y1,y2,y3⟩:=jba HR1.out q q0 q1
            cases he
            generalize jb l1 q=y at h y0 y1
            have HK:=am y1
            clear y0 y1 y2 y3
            have q0:=ezT q0
            have q1:=ezT q1
            by_cases zy:y.f1=7
            ·have by7:(y.f1 == 7)=true:=beq_iff_eq.2 zy
             obtain rfl:true=r:=by simpa [zy] using h
             clear h zy
             go_wp2_with (first |(go_at_call 89;have tk:=tok;clear tok;refine (HO.out x.f1 _ HX.out _).mono ?_;rintro e w6 ⟨rfl,hd6⟩;have hb6:=hd6.below;clear hd6;have X6:=am (VX.below X4.out hb6);have HB6:=am (jV HB4.out HB4.out.size hb6);clear hb6 e0 e1 e2 e3;obtain ⟨e0,e1,e2,e3⟩:=VX.cells X6.out) |(go_at_call 90;refine (HQ.out _ HB6.out).mono ?_;rintro e w7 ⟨rfl,hd7⟩;have hb7:=hd7.below;clear hd7;have X7:=am (VX.below X6.out hb7);have HB7:=am (jV HB6.out HB6.out.size hb7);clear hb7 e0 e1 e2 e3;obtain ⟨e0,e1,e2,e3⟩:=VX.cells X7.out;have y1:=jZ HB7.out HK.out))
             go_ret
             exact ⟨rfl,HB7.out⟩
            ·have by7:(y.f1 == 7)=false:=beq_eq_false_iff_ne.2 zy
             cases hy:ji.inB y.f1 8 10 with
             | true =>
              have HY:=am hy
              obtain rfl:true=r:=by rw [hy,by7] at h;simpa using h
              clear h hy zy
              go_wp2_with (first |(go_at_call 89;have tk:=tok;clear tok;refine (HO.out x.f1 _ HX.out _).mono ?_;rintro e w6 ⟨rfl,hd6⟩;have hb6:=hd6.below;clear hd6;have X6:=am (VX.below X4.out hb6);have HB6:=am (jV HB4.out HB4.out.size hb6);clear hb6 e0 e1 e2 e3;obtain ⟨e0,e1,e2,e3⟩:=VX.cells X6.out) |(go_at_call 90;refine (HQ.out _ HB6.out).mono ?_;rintro e w7 ⟨rfl,hd7⟩;have hb7:=hd7.below;clear hd7;have X7:=am (VX.below X6.out hb7);have HB7:=am (jV HB6.out HB6.out.size hb7);clear hb7 e0 e1 e2 e3;obtain ⟨e0,e1,e2,e3⟩:=VX.cells X7.out;have y1:=jZ HB7.out HK.out) |(go_at_call 89;refine (HO.out y.f1 _ HY.out _).mono ?_;rintro e w8 ⟨rfl,hd8⟩;have hb8:=hd8.below;clear hd8;have X8:=am (VX.below X7.out hb8);have HB8:=am (jV HB7.out HB7.out.size hb8);clear hb8 e0 e1 e2 e3;obtain ⟨e0,e1,e2,e3⟩:=VX.cells X8.out))
              go_ret
              exact ⟨rfl,HB8.out⟩
             | false =>
              have HY:=am hy
              obtain rfl:false=r:=by rw [hy,by7] at h;simpa using h
              clear h hy zy
              go_wp2_with (first |(go_at_call 89;have tk:=tok;clear tok;refine (HO.out x.f1 _ HX.out _).mono ?_;rintro e w6 ⟨rfl,hd6⟩;have hb6:=hd6.below;clear hd6;have X6:=am (VX.below X4.out hb6);have HB6:=am (jV HB4.out HB4.out.size hb6);clear hb6 e0 e1 e2 e3;obtain ⟨e0,e1,e2,e3⟩:=VX.cells X6.out) |(go_at_call 90;refine (HQ.out _ HB6.out).mono ?_;rintro e w7 ⟨rfl,hd7⟩;have hb7:=hd7.below;clear hd7;have X7:=am (VX.below X6.out hb7);have HB7:=am (jV HB6.out HB6.out.size hb7);clear hb7 e0 e1 e2 e3;obtain ⟨e0,e1,e2,e3⟩:=VX.cells X7.out;have y1:=jZ HB7.out HK.out) |(go_at_call 89;refine (HO.out y.f1 _ HY.out _).mono ?_;rintro e w8 ⟨rfl,hd8⟩;have hb8:=hd8.below;clear hd8;have X8:=am (VX.below X7.out hb8);have HB8:=am (jV HB7.out HB7.out.size hb8);clear hb8 e0 e1 e2 e3;obtain ⟨e0,e1,e2,e3⟩:=VX.cells X8.out))
              go_ret
              exact ⟨rfl,HB8.out⟩
           ·rw [if_neg q1] at h
            cases h
          ·rw [if_neg q0] at h
           have q0b:=dzF q0
           obtain rfl:false=r:=by simpa using h
           clear h q0
           go_wp2_with (first |(go_at_call 89;have tk:=tok;clear tok;refine (HO.out x.f1 _ HX.out _).mono ?_;rintro e w6 ⟨rfl,hd6⟩;have hb6:=hd6.below;clear hd6;have X6:=am (VX.below X4.out hb6);have HB6:=am (jV HB4.out HB4.out.size hb6);clear hb6 e0 e1 e2 e3;obtain ⟨e0,e1,e2,e3⟩:=VX.cells X6.out) |(go_at_call 90;refine (HQ.out _ HB6.out).mono ?_;rintro e w7 ⟨rfl,hd7⟩;have hb7:=hd7.below;clear hd7;have X7:=am (VX.below X6.out hb7);have HB7:=am (jV HB6.out HB6.out.size hb7);clear hb7 e0 e1 e2 e3;obtain ⟨e0,e1,e2,e3⟩:=VX.cells X7.out))
           go_ret
           exact ⟨rfl,HB7.out⟩
  ·rw [if_neg h1] at h
   cases h
 ·rw [if_neg h0] at h
  cases h
def jHa.l0 : Nat → ByteArray → Int → Option (Bool)
 | 0,_,_=>none
 | k+1,x0,x3=>if x3<(x0.size:Int) then (if 0≤x3 then (if (bt x0 x3)<97 then (some false) else (if (bt x0 x3) > 122 then (some false) else (jHa.l0 k x0 (wrap64 (x3+1))))) else (none)) else ((jB.f (x0.size:Int) 1 6).bind fun t152=>(some t152))
def jHa.f (k : Nat) (a0 : ByteArray) : Option (Bool) := jHa.l0 k a0 0
set_option maxHeartbeats 8000000 in
set_option maxRecDepth 100000 in
theorem jHa.calls (k : Nat) (a0 : ByteArray) (r : Bool) (w : World) (h : jHa.f k a0 = some r) :
  Calls Try.prog 91 #[.string a0] w fun e w'=>e=.returned (.bool r)∧jKa w w':=by
 have H:(jHa.l0 k a0 0)=some r:=h
 clear h
 have H':=am H
 clear H
 go_enter Try.func91,Try.ntmps91
 go_wp2
 go_loopg [3] k (fun kq v3 w'=>∃ (x3_1:Int),v3=.int .i64 x3_1∧jk (jHa.l0 kq a0 x3_1=some r)∧jk (kq≤k)∧jKa w w')
 case atStart=>exact ⟨(0),(sq),H',⟨Nat.le_refl _⟩,Y2⟩
 case round =>
  clear H'
  obtain ⟨x3_1,rfl,HA,HK1,⟨m1,rfl⟩⟩:=hrel
  cases gk with
  | zero=>exact absurd HA.out (by simp [jHa.l0])
  | succ k1 =>
   have H:=HA.out
   clear HA
   simp only [jHa.l0] at H
   by_cases c2:x3_1<(a0.size:Int)
   ·rw [if_pos c2] at H
    have c2b0:decide (x3_1<(a0.size:Int))=true:=dzT c2
    clear c2
    by_cases c3:0≤x3_1
    ·rw [if_pos c3] at H
     have c3b0:decide (0≤x3_1)=true:=dzT c3
     clear c3
     by_cases c5:(bt a0 x3_1)<97
     ·rw [if_pos c5] at H
      have c5b0:decide ((bt a0 x3_1)<97)=true:=dzT c5
      clear c5
      obtain rfl:=Option.some.inj H
      have p4:0≤(x3_1:Int):=ozD (uq)
      have q4:x3_1<(a0.size:Int):=ozD (uq)
      have hx4:=bt_at a0 x3_1
      replace p4:=ezT p4
      replace q4:=ezT q4
      go_wp2
      go_ret
      exact ⟨sq,Y2⟩
     ·rw [if_neg c5] at H
      have c5b0:decide ((bt a0 x3_1)<97)=false:=dzF c5
      clear c5
      by_cases c7:(bt a0 x3_1) > 122
      ·rw [if_pos c7] at H
       have c7b0:decide (122<(bt a0 x3_1))=true:=dzT c7
       clear c7
       obtain rfl:=Option.some.inj H
       have p4:0≤(x3_1:Int):=ozD (uq)
       have q4:x3_1<(a0.size:Int):=ozD (uq)
       have hx4:=bt_at a0 x3_1
       replace p4:=ezT p4
       replace q4:=ezT q4
       have p6:0≤(x3_1:Int):=ozD (uq)
       have q6:x3_1<(a0.size:Int):=ozD (uq)
       have hx6:=bt_at a0 x3_1
       replace p6:=ezT p6
       replace q6:=ezT q6
       go_wp2
       go_ret
       exact ⟨sq,Y2⟩
      ·rw [if_neg c7] at H
       have c7b0:decide (122<(bt a0 x3_1))=false:=dzF c7
       clear c7
       have H':=am H
       clear H
       have p4:0≤(x3_1:Int):=ozD (uq)
       have q4:x3_1<(a0.size:Int):=ozD (uq)
       have hx4:=bt_at a0 x3_1
       replace p4:=ezT p4
       replace q4:=ezT q4
       have p6:0≤(x3_1:Int):=ozD (uq)
       have q6:x3_1<(a0.size:Int):=ozD (uq)
       have hx6:=bt_at a0 x3_1
       replace p6:=ezT p6
       replace q6:=ezT q6
       go_wp2
       go_roundg k1
       case measure=>have:=HK1.out;omega
       case rel=>exact ⟨(wrap64 (x3_1+1)),(sq),H',⟨by have:=HK1.out;omega⟩,Y2⟩
    ·rw [if_neg c3] at H
     exact absurd H (by simp)
   ·rw [if_neg c2] at H
    have c2b0:decide (x3_1<(a0.size:Int))=false:=dzF c2
    clear c2
    replace H:=bzS H
    obtain ⟨t152,A80,H⟩:=H
    replace H:(some t152)=some r:=H
    have A8:=am A80
    clear A80
    obtain rfl:=Option.some.inj H
    go_wp2_with (first |((with_reducible refine je (f:=85) rfl ?_);refine gL (some 22) Try.func85 #[.int .i64 (a0.size:Int), .int .i64 1, .int .i64 6] ?_;(with_reducible refine (jB.calls (a0.size:Int) 1 6 t152 _ A8.out).mono ?_);rintro e w' ⟨rfl,⟨nd,rfl⟩⟩;refine ⟨_,rfl,?_⟩))
    go_ret
    exact ⟨sq,Y2⟩
def jya.l0 : Nat → List (S78) → ByteArray → Int → Option (Int)
 | 0,_,_,_=>none
 | k+1,x0,x1,x5=>if x5<(x0.length:Int) then (if 0≤x5 then (if ((jK x0 x5).f0).toList=x1.toList then (some x5) else (jya.l0 k x0 x1 (wrap64 (x5+1)))) else (none)) else (some (-1))
def jya.f (k : Nat) (l0 : List (S78)) (a1 : ByteArray) : Option (Int) := jya.l0 k l0 a1 0
set_option maxHeartbeats 8000000 in
set_option maxRecDepth 100000 in
theorem jya.calls (k : Nat) (A0 : Option Addr) (c0 : Nat) (l0 : List (S78)) (a1 : ByteArray) (r : Int) (w : World) (hr0 : Kd.C k78 w A0 l0.length l0) (hc0 : l0.length ≤ c0) (h : jya.f k l0 a1 = some r) :
  Calls Try.prog 92 #[.slice A0 l0.length c0, .string a1] w fun e w'=>e=.returned (.int .i64 r)∧jKa w w':=by
 have HR0:=am hr0
 have HC0:=am hc0
 clear hr0 hc0
 have H:(jya.l0 k l0 a1 0)=some r:=h
 clear h
 have H':=am H
 clear H
 go_enter Try.func92,Try.ntmps92
 go_wp2
 go_loopg [5] k (fun kq v5 w'=>∃ (x5_1:Int),v5=.int .i64 x5_1∧jk (jya.l0 kq l0 a1 x5_1=some r)∧jk (kq≤k)∧jKa w w')
 case atStart=>exact ⟨(0),(sq),H',⟨Nat.le_refl _⟩,Y2⟩
 case round =>
  clear H'
  try clear p2
  obtain ⟨x5_1,rfl,HA,HK1,⟨m1,rfl⟩⟩:=hrel
  cases gk with
  | zero=>exact absurd HA.out (by simp [jya.l0])
  | succ k1 =>
   have H:=HA.out
   clear HA
   simp only [jya.l0] at H
   by_cases c3:x5_1<(l0.length:Int)
   ·rw [if_pos c3] at H
    have c3b0:decide (x5_1<(l0.length:Int))=true:=dzT c3
    clear c3
    by_cases c4:0≤x5_1
    ·rw [if_pos c4] at H
     have c4b0:decide (0≤x5_1)=true:=dzT c4
     clear c4
     by_cases c5:((jK l0 x5_1).f0).toList=a1.toList
     ·rw [if_pos c5] at H
      have c5b0:(((jK l0 x5_1).f0).toList == a1.toList)=true:=beq_iff_eq.mpr c5
      have c5b1:(((jK l0 x5_1).f0).toList != a1.toList)=false:=bne_eq_false_iff_eq.mpr c5
      clear c5
      obtain rfl:=Option.some.inj H
      have p153:0≤(x5_1:Int):=ozD (uq)
      have q153:x5_1<(l0.length:Int):=ozD (uq)
      obtain ⟨ad153,e153,hx153_0,hx153_1⟩:=at_T78 HR0.out x5_1 p153 q153
      cases e153
      replace p153:=ezT p153
      replace q153:=ezT q153
      go_wp2
      go_ret
      exact ⟨sq,Y2⟩
     ·rw [if_neg c5] at H
      have c5b0:(((jK l0 x5_1).f0).toList == a1.toList)=false:=beq_eq_false_iff_ne.mpr c5
      have c5b1:(((jK l0 x5_1).f0).toList != a1.toList)=true:=bne_iff_ne.mpr c5
      have H':=am H
      clear H
      have p153:0≤(x5_1:Int):=ozD (uq)
      have q153:x5_1<(l0.length:Int):=ozD (uq)
      obtain ⟨ad153,e153,hx153_0,hx153_1⟩:=at_T78 HR0.out x5_1 p153 q153
      cases e153
      replace p153:=ezT p153
      replace q153:=ezT q153
      go_wp2
      go_roundg k1
      case measure=>have:=HK1.out;omega
      case rel=>exact ⟨(wrap64 (x5_1+1)),(sq),H',⟨by have:=HK1.out;omega⟩,Y2⟩
    ·rw [if_neg c4] at H
     exact absurd H (by simp)
   ·rw [if_neg c3] at H
    have c3b0:decide (x5_1<(l0.length:Int))=false:=dzF c3
    clear c3
    obtain rfl:=Option.some.inj H
    go_wp2
    go_ret
    exact ⟨sq,Y2⟩
mutual
def jG.l0 : Nat → Int → List (S78) → Option (Bool)
 | 0,_,_=>none
 | k+1,x3,x155000=>if x3<(x155000.length:Int) then (if 0≤x3 then ((jHa.f k ((jK x155000 x3).f0)).bind fun t158=>(if t158=true then (if x3≤(x155000.length:Int) then ((jya.f k (x155000.take (x3:Int).toNat) ((jK x155000 x3).f0)).bind fun t163=>(if t163≥0 then (jG.j1 k x3 true x155000) else (if x3=0 then (if ((jK x155000 x3).f1)=(-1) then (if x3 > 0 then ((jB.f ((jK x155000 x3).f1) 0 (wrap64 (x3 - 1))).bind fun t164=>(jG.j1 k x3 (!t164) x155000)) else (jG.j1 k x3 false x155000)) else (jG.j1 k x3 true x155000)) else (if x3 > 0 then ((jB.f ((jK x155000 x3).f1) 0 (wrap64 (x3 - 1))).bind fun t165=>(jG.j1 k x3 (!t165) x155000)) else (jG.j1 k x3 false x155000))))) else (none)) else (jG.j1 k x3 true x155000))) else (none)) else ((jB.f (x155000.length:Int) 1 8).bind fun t155=>(some t155))
def jG.j1 : Nat → Int → Bool → List (S78) → Option (Bool)
 | 0,_,_,_=>none
 | k+1,x3,x51,x155000=>if x51=true then (some false) else (jG.l0 k (wrap64 (x3+1)) x155000)
end
def jG.f (k : Nat) (l0_0 : List (S78)) : Option (Bool) := jG.l0 k 0 l0_0
set_option maxHeartbeats 8000000 in
set_option maxRecDepth 100000 in
theorem jG.calls (k : Nat) (A0_0 : Option Addr) (c0_0 : Nat) (l0_0 : List (S78)) (r : Bool) (w : World) (hr0_0 : Kd.C k78 w A0_0 l0_0.length l0_0) (hc0_0 : l0_0.length ≤ c0_0) (h : jG.f k l0_0 = some r) :
  Calls Try.prog 58 #[.agg #[.slice A0_0 l0_0.length c0_0]] w fun e w'=>e=.returned (.bool r)∧Below w.heap.size w w':=by
 have hu32:=Try.underlying32
 have hu78:=Try.underlying78
 have HR0_0:=am hr0_0
 have HC0_0:=am hc0_0
 clear hr0_0 hc0_0
 have HB:=am (Below.refl w.heap.size w)
 have H:(jG.l0 k 0 l0_0)=some r:=h
 clear h
 have H':=am H
 clear H
 go_enter Try.func58,Try.ntmps58
 go_wp2_with (first |((with_reducible refine jP (N:=1) rfl ?_);refine bE (N:=1) (cs:=#[.slice A0_0 l0_0.length c0_0]) (t:=32) ?_;intro gb154 hg w2 hbox hb;have BK154:=am (hbox);have GW154:=am ((Y1:w.heap.size≤gb154));have GE154:=am ((Y1:w.heap.size≤gb154));replace HB:=am (jd (bq) hb);clear hb hbox hg))
 go_loopg [3] k (fun kq v3 w'=>∃ (x3_1:Int),v3=.int .i64 x3_1∧jk (jG.l0 kq x3_1 l0_0=some r)∧jk (kq≤k)∧jk (w'.heap[gb154]?=some (.cells #[(.slice A0_0 l0_0.length c0_0)] 32 (0,0)))∧jk (Below w.heap.size w w'))
 case atStart=>exact ⟨(0),(sq),H',⟨Nat.le_refl _⟩,⟨kq BK154.out⟩,⟨Y12⟩⟩
 case round =>
  clear H'
  try clear c1
  try clear p2
  obtain ⟨x3_1,rfl,HA,HK1,BK154,HB⟩:=hrel
  cases gk with
  | zero=>exact absurd HA.out (by simp [jG.l0])
  | succ k1 =>
   have H:=HA.out
   clear HA
   simp only [jG.l0] at H
   by_cases c3:x3_1<(l0_0.length:Int)
   ·rw [if_pos c3] at H
    have c3b0:decide (x3_1<(l0_0.length:Int))=true:=dzT c3
    clear c3
    by_cases c4:0≤x3_1
    ·rw [if_pos c4] at H
     have c4b0:decide (0≤x3_1)=true:=dzT c4
     clear c4
     have HC5:=am H
     clear H
     have hcz6_0:=bc0 BK154.out
     have hfz6_0:=ja BK154.out 0
     have p156:0≤(x3_1:Int):=ozD (uq)
     have q156:x3_1<(l0_0.length:Int):=ozD (uq)
     obtain ⟨ad156,e156,hx156_0,hx156_1⟩:=at_T78 HR0_0.out x3_1 p156 q156
     cases e156
     replace hx156_0:=cb HB.out hx156_0
     replace hx156_1:=cb HB.out hx156_1
     replace p156:=ezT p156
     replace q156:=ezT q156
     go_upto_region 5 with (first |((with_reducible refine jP (N:=4) rfl ?_);refine bE (N:=4) (cs:=#[.string (⟨#[]⟩:ByteArray), .int .i64 0]) (t:=78) ?_;intro gb157 hg w7 hbox hb;have BK157:=am (hbox);have GW157:=am ((Y51:w.heap.size≤gb157));have GE157:=am ((Y51:w.heap.size≤gb157));have NB154_157:=am ((by rw [hg];exact Nat.ne_of_lt (jVa (g:=gb154) (o:=.cells #[.slice (some ad156) l0_0.length c0_0] 32 (0,0)) (kq BK154.out)):gb154≠gb157));have NB157_154:=am ((by rw [hg];exact Nat.ne_of_gt (jVa (g:=gb154) (o:=.cells #[.slice (some ad156) l0_0.length c0_0] 32 (0,0)) (kq BK154.out)):gb157≠gb154));replace BK154:=am (jm (g:=gb154) (o:=.cells #[.slice (some ad156) l0_0.length c0_0] 32 (0,0)) (kq BK154.out) hb);replace HB:=am (jd (Y12) hb);clear hb hbox hg;have hnb8:=NB157_154.out;have hnc8:=NB154_157.out;have hcz9_0:=bc0 BK157.out;have hcz9_1:=bc1 BK157.out;have hfz9_0:=ja BK157.out 0;have hfz9_1:=ja BK157.out 1))
     (try simp only [Act.put,List.setIfInBounds_toArray,List.set_cons_zero,List.set_cons_succ])
     go_cut [51] (fun v51 wc=>∃ (kq:Nat) (x51_4:Bool),v51=.bool x51_4∧jk (jG.j1 kq x3_1 x51_4 l0_0=some r)∧jk (kq≤k1)∧jk (wc.heap[gb154]?=some (.cells #[(.slice (some ad156) l0_0.length c0_0)] 32 (0,0)))∧jk (wc.heap[gb157]?=some (.cells #[.string ((jK l0_0 x3_1).f0), .int .i64 ((jK l0_0 x3_1).f1)] 78 (0,0)))∧jk (Below w.heap.size w wc))
     case first =>
      have n0_:jk (((w7.setCell ⟨gb157,0,none⟩ (.string ((jK l0_0 x3_1).f0))).setCell ⟨gb157,1,none⟩ (.int .i64 ((jK l0_0 x3_1).f1))).heap[gb154]?=some (.cells #[.slice (some ad156) l0_0.length c0_0] 32 (0,0))):=⟨by (with_reducible repeat (first | refine jea ?_ _ | refine jta ?_ | refine joa ?_ _));refine jMb ?_ NB154_157.out _;(with_reducible repeat (first | refine jea ?_ _ | refine jta ?_ | refine joa ?_ _));refine jMb ?_ NB154_157.out _;(with_reducible repeat (first | refine jea ?_ _ | refine jta ?_ | refine joa ?_ _));exact BK154.out⟩
      have n1_:jk (((w7.setCell ⟨gb157,0,none⟩ (.string ((jK l0_0 x3_1).f0))).setCell ⟨gb157,1,none⟩ (.int .i64 ((jK l0_0 x3_1).f1))).heap[gb157]?=some (.cells #[.string ((jK l0_0 x3_1).f0), .int .i64 ((jK l0_0 x3_1).f1)] 78 (0,0))):=⟨by (with_reducible repeat (first | refine jea ?_ _ | refine jta ?_ | refine joa ?_ _));refine jLb (cs:=#[.string ((jK l0_0 x3_1).f0), .int .i64 0]) ?_ 1 _ rfl;(with_reducible repeat (first | refine jea ?_ _ | refine jta ?_ | refine joa ?_ _));refine jLb (cs:=#[.string (⟨#[]⟩:ByteArray), .int .i64 0]) ?_ 0 _ rfl;(with_reducible repeat (first | refine jea ?_ _ | refine jta ?_ | refine joa ?_ _));exact BK157.out⟩
      have n2_:jk (Below w.heap.size w ((w7.setCell ⟨gb157,0,none⟩ (.string ((jK l0_0 x3_1).f0))).setCell ⟨gb157,1,none⟩ (.int .i64 ((jK l0_0 x3_1).f1)))):=⟨Y34⟩
      clear BK154 BK157 HB hcz9_0 hcz9_1 hfz9_0 hfz9_1
      generalize ((w7.setCell ⟨gb157,0,none⟩ (.string ((jK l0_0 x3_1).f0))).setCell ⟨gb157,1,none⟩ (.int .i64 ((jK l0_0 x3_1).f1)))=w16 at n0_ n1_ n2_ ⊢
      have BK154:=n0_
      have BK157:=n1_
      have HB:=n2_
      clear n0_ n1_ n2_
      have HRW:=am (Kd.jF HR0_0.out HB.out)
      have e0:w16.cell? ⟨gb157,0,none⟩=some (.string ((jK l0_0 x3_1).f0)):=(jDa BK157.out 0).trans rfl
      have e1:w16.cell? ⟨gb157,1,none⟩=some (.int .i64 ((jK l0_0 x3_1).f1)):=(jDa BK157.out 1).trans rfl
      have e2:w16.cell? ⟨gb154,0,none⟩=some (.slice (some ad156) l0_0.length c0_0):=(jDa BK154.out 0).trans rfl
      have H:=HC5.out
      clear HC5
      obtain ⟨v,hv,H⟩:=bzS H
      have HN:=am (fun W=>(jHa.calls k1 _ v W hv).mono fun e w' h=>(⟨h.1,h.2.out⟩:e=.returned (.bool v)∧∃ m,w'=W.drewN m))
      clear hv hx156_0 hx156_1
      generalize hgx:jK l0_0 x3_1=x at H e0 e1 HN BK157
      have HGX:=am hgx
      clear hgx
      cases v with
      | false =>
       have H':=am (show jG.j1 k1 x3_1 true l0_0=some r from H)
       clear H
       go_big_quiet ((go_at_call 91;exact Calls.quiet_of (HN.out _)))
       go_wp2
       go_meet
       case rel=>exact ⟨_,_,rfl,H',⟨by have:=HK1.out;omega⟩,⟨jea BK154.out _⟩,⟨by rw [HGX.out];exact jea BK157.out _⟩,⟨jg HB.out _⟩⟩
      | true =>
       replace H:(if x3_1≤(l0_0.length:Int) then ((jya.f k1 (l0_0.take (x3_1:Int).toNat) x.f0).bind fun t163=>(if t163≥0 then (jG.j1 k1 x3_1 true l0_0) else (if x3_1=0 then (if x.f1=(-1) then (if x3_1 > 0 then ((jB.f x.f1 0 (wrap64 (x3_1 - 1))).bind fun t164=>(jG.j1 k1 x3_1 (!t164) l0_0)) else (jG.j1 k1 x3_1 false l0_0)) else (jG.j1 k1 x3_1 true l0_0)) else (if x3_1 > 0 then ((jB.f x.f1 0 (wrap64 (x3_1 - 1))).bind fun t165=>(jG.j1 k1 x3_1 (!t165) l0_0)) else (jG.j1 k1 x3_1 false l0_0))))) else (none))=some r:=H
       have hle:x3_1≤(l0_0.length:Int):=by have:=ozD c3b0;omega
       have h0:0≤x3_1:=ozD c4b0
       rw [if_pos hle] at H
       obtain ⟨c,hc,H⟩:=bzS H
       obtain ⟨i0,hi0,_,_,_⟩:=info_parts info78
       have hcut:=cut_to (P:=Try.prog) 30 78 .i64 Try.underlying30 hi0 (some ad156) l0_0.length c0_0 x3_1 h0 hle HC0_0.out
       have hr18:=Kd.C_take (m:=(x3_1:Int).toNat) HRW.out (by omega)
       obtain ⟨y,hy⟩:∃ y:List S78,y=l0_0.take (x3_1:Int).toNat:=⟨_,rfl⟩
       have hyl:y.length=(x3_1:Int).toNat:=by rw [hy,List.length_take];omega
       have hyc:y.length≤c0_0:=by have:=HC0_0.out;omega
       rw [← hy] at hr18
       rw [← hyl] at hcut
       rw [← hy] at hc
       have HCN:=am (fun m=>(jya.calls k1 _ _ y x.f0 c (w16.drewN m) (Kd.C_drewN hr18 m) hyc hc).mono fun e w' h=>(⟨h.1,h.2.out⟩:e=.returned (.int .i64 c)∧∃ m',w'=(w16.drewN m).drewN m'))
       clear hr18 hc hy hyl hyc
       have b0:=ezT h0
       have b1:=ezT hle
       by_cases hc0:c≥0
       ·rw [if_pos hc0] at H
        have b2:decide (0≤c)=true:=dzT hc0
        have H':=am H
        clear H hc0 h0 hle
        go_big_quiet (first |(go_at_call 91;exact Calls.quiet_of (HN.out _)) |(go_at_call 92;exact Calls.quiet_of (HCN.out _)))
        go_wp2
        go_meet
        case rel=>exact ⟨_,_,rfl,H',⟨by have:=HK1.out;omega⟩,⟨jea BK154.out _⟩,⟨by rw [HGX.out];exact jea BK157.out _⟩,⟨jg HB.out _⟩⟩
       ·rw [if_neg hc0] at H
        have b2:decide (0≤c)=false:=dzF hc0
        clear hc0
        by_cases hz:x3_1=0
        ·rw [if_pos hz] at H
         have b3:(x3_1 == 0)=true:=beq_iff_eq.2 hz
         have b4:decide (0<x3_1)=false:=dzF (by omega)
         by_cases hf:x.f1 = -1
         ·rw [if_pos hf,if_neg (by omega)] at H
          have b5:(x.f1 != -1)=false:=by simpa using hf
          have H':=am H
          clear H hf h0 hle hz
          go_big_quiet (first |(go_at_call 91;exact Calls.quiet_of (HN.out _)) |(go_at_call 92;exact Calls.quiet_of (HCN.out _)))
          go_wp2
          go_meet
          case rel=>exact ⟨_,_,rfl,H',⟨by have:=HK1.out;omega⟩,⟨jea BK154.out _⟩,⟨by rw [HGX.out];exact jea BK157.out _⟩,⟨jg HB.out _⟩⟩
         ·rw [if_neg hf] at H
          have b5:(x.f1 != -1)=true:=by simpa using hf
          have H':=am H
          clear H hf h0 hle hz
          go_big_quiet (first |(go_at_call 91;exact Calls.quiet_of (HN.out _)) |(go_at_call 92;exact Calls.quiet_of (HCN.out _)))
          go_wp2
          go_meet
          case rel=>exact ⟨_,_,rfl,H',⟨by have:=HK1.out;omega⟩,⟨jea BK154.out _⟩,⟨by rw [HGX.out];exact jea BK157.out _⟩,⟨jg HB.out _⟩⟩
        ·rw [if_neg hz,if_pos (by omega)] at H
         have b3:(x3_1 == 0)=false:=beq_eq_false_iff_ne.2 hz
         have b4:decide (0<x3_1)=true:=dzT (by omega)
         obtain ⟨t,ht,H⟩:=bzS H
         have H':=am H
         have HI:=am (fun W=>(jB.calls _ _ _ t W ht).mono fun e w' h=>(⟨h.1,h.2.out⟩:e=.returned (.bool t)∧∃ m,w'=W.drewN m))
         clear H ht h0 hle hz
         go_big_quiet (first |(go_at_call 91;exact Calls.quiet_of (HN.out _)) |(go_at_call 92;exact Calls.quiet_of (HCN.out _)) |(go_at_call 85;exact Calls.quiet_of (HI.out _)))
         go_wp2
         go_meet
         case rel=>exact ⟨_,_,rfl,H',⟨by have:=HK1.out;omega⟩,⟨jea BK154.out _⟩,⟨by rw [HGX.out];exact jea BK157.out _⟩,⟨jg HB.out _⟩⟩
     case rest =>
      clear HC5
      try clear c1
      try clear c2
      try clear p2
      try clear c3
      try clear q3
      try clear p6
      try clear c11
      try clear c12
      try clear c13
      try clear c21
      try clear c32
      try clear c32b0
      try clear q39
      try clear q39
      obtain ⟨kq,x51_4,rfl,HA,HJ4,BK154,BK157,HB⟩:=hcut
      cases kq with
      | zero=>exact absurd HA.out (by simp [jG.j1])
      | succ kj4 =>
       have H:=HA.out
       clear HA
       simp only [jG.j1] at H
       by_cases c42:x51_4=true
       ·subst c42
        have H1:(some false)=some r:=by rw [if_pos rfl] at H;exact H
        clear H
        have H:=H1
        clear H1
        obtain rfl:=Option.some.inj H
        go_wp2
        go_ret
        exact ⟨Y0,Y34⟩
       ·replace c42:=Bool.eq_false_iff.mpr c42
        subst c42
        have H1:(jG.l0 kj4 (wrap64 (x3_1+1)) l0_0)=some r:=by rw [if_neg (show ¬ (false=true) by decide)] at H;exact H
        clear H
        have H:=H1
        clear H1
        have H':=am H
        clear H
        go_wp2
        go_roundg kj4
        case measure=>have:=HK1.out;have:=HJ4.out;omega
        case rel=>exact ⟨(wrap64 (x3_1+1)),(sq),H',⟨by have:=HK1.out;have:=HJ4.out;omega⟩,⟨kq BK154.out⟩,⟨Y34⟩⟩
    ·rw [if_neg c4] at H
     exact absurd H (by simp)
   ·rw [if_neg c3] at H
    have c3b0:decide (x3_1<(l0_0.length:Int))=false:=dzF c3
    clear c3
    replace H:=bzS H
    obtain ⟨t155,A430,H⟩:=H
    replace H:(some t155)=some r:=H
    have A43:=am A430
    clear A430
    obtain rfl:=Option.some.inj H
    have hcz44_0:=bc0 BK154.out
    have hfz44_0:=ja BK154.out 0
    go_wp2_with (first |((with_reducible refine je (f:=85) rfl ?_);refine gL (some 55) Try.func85 #[.int .i64 (l0_0.length:Int), .int .i64 1, .int .i64 8] ?_;(with_reducible refine (jB.calls (l0_0.length:Int) 1 8 t155 _ A43.out).mono ?_);rintro e w' ⟨rfl,⟨nd,rfl⟩⟩;refine ⟨_,rfl,?_⟩))
    go_ret
    exact ⟨Y0,Y12⟩
def jO.l0 : Nat → List (S52) → Int → List (S78) → Option (Bool)
 | 0,_,_,_=>none
 | k+1,x1,x5,x155000=>if x5<(x1.length:Int) then ((ji.f k x155000 x1 x5).bind fun t156=>(if t156=true then (jO.l0 k x1 (wrap64 (x5+1)) x155000) else (some false))) else ((jG.f k x155000).bind fun t155=>(if t155=true then (some (decide ((x1.length:Int)≤24))) else (some false)))
def jO.f (k : Nat) (l0_0 : List (S78)) (l1 : List (S52)) : Option (Bool) := jO.l0 k l1 0 l0_0
set_option maxHeartbeats 8000000 in
set_option maxRecDepth 100000 in
theorem jO.calls (k : Nat) (A0_0 : Option Addr) (c0_0 : Nat) (l0_0 : List (S78)) (A1 : Option Addr) (c1 : Nat) (l1 : List (S52)) (r : Bool) (w : World) (hr0_0 : Kd.C k78 w A0_0 l0_0.length l0_0) (hc0_0 : l0_0.length ≤ c0_0) (hr1 : Kd.C k52 w A1 l1.length l1) (hc1 : l1.length ≤ c1) (h : jO.f k l0_0 l1 = some r) :
  Calls Try.prog 29 #[.agg #[.slice A0_0 l0_0.length c0_0], .slice A1 l1.length c1] w fun e w'=>e=.returned (.bool r)∧Below w.heap.size w w':=by
 have hu32:=Try.underlying32
 have HR0_0:=am hr0_0
 have HC0_0:=am hc0_0
 clear hr0_0 hc0_0
 have HR1:=am hr1
 have HC1:=am hc1
 clear hr1 hc1
 have HB:=am (Below.refl w.heap.size w)
 have H:(jO.l0 k l1 0 l0_0)=some r:=h
 clear h
 have H':=am H
 clear H
 go_enter Try.func29,Try.ntmps29
 go_wp2_with (first |((with_reducible refine jP (N:=2) rfl ?_);(try (refine gate_guard (by rfl) ?_;dsimp only));refine box_event ?hg (N:=2) ?hd (cs:=#[.slice A0_0 l0_0.length c0_0]) (t:=32) ?hr ?_;(case hd=>rfl);(case hg=>rfl);(case hr=>exact Y4);intro gb154 hg w3 hbox hb;have BK154:=am (hbox);have GW154:=am ((Y1:w.heap.size≤gb154));have GE154:=am ((Y1:w.heap.size≤gb154));replace HB:=am (jd (bq) hb);clear hb hbox hg))
 go_loopg [5] k (fun kq v5 w'=>∃ (x5_1:Int),v5=.int .i64 x5_1∧jk (jO.l0 kq l1 x5_1 l0_0=some r)∧jk (kq≤k)∧jk (w'.heap[gb154]?=some (.cells #[(.slice A0_0 l0_0.length c0_0)] 32 (0,0)))∧jk (Below w.heap.size w w'))
 case atStart=>exact ⟨(0),(sq),H',⟨Nat.le_refl _⟩,⟨kq BK154.out⟩,⟨Y12⟩⟩
 case round =>
  clear H'
  try clear c1
  try clear c2
  try clear p2
  obtain ⟨x5_1,rfl,HA,HK1,BK154,HB⟩:=hrel
  cases gk with
  | zero=>exact absurd HA.out (by simp [jO.l0])
  | succ k1 =>
   have H:=HA.out
   clear HA
   simp only [jO.l0] at H
   by_cases c4:x5_1<(l1.length:Int)
   ·rw [if_pos c4] at H
    have c4b0:decide (x5_1<(l1.length:Int))=true:=dzT c4
    clear c4
    replace H:=bzS H
    obtain ⟨t156,A50,H⟩:=H
    replace H:(if t156=true then (jO.l0 k1 l1 (wrap64 (x5_1+1)) l0_0) else (some false))=some r:=H
    have A5:=am A50
    clear A50
    by_cases c6:t156=true
    ·subst c6
     have H1:(jO.l0 k1 l1 (wrap64 (x5_1+1)) l0_0)=some r:=by rw [if_pos rfl] at H;exact H
     clear H
     have H:=H1
     clear H1
     have H':=am H
     clear H
     have hcz7_0:=bc0 BK154.out
     have hfz7_0:=ja BK154.out 0
     go_wp2_with (first |((with_reducible refine je (f:=57) rfl ?_);refine gL (some 15) Try.func57 #[.agg #[.slice A0_0 l0_0.length c0_0], .slice A1 l1.length c1, .int .i64 x5_1] ?_;(with_reducible refine (ji.calls k1 _ _ l0_0 _ _ l1 x5_1 true _ ?side1 ?side2 ?side3 ?side4 A5.out).mono ?_);(case side1=>exact cq (Kd.jF HR0_0.out HB.out));(case side2=>exact HC0_0.out);(case side3=>exact cq (Kd.jF HR1.out HB.out));(case side4=>exact HC1.out);rintro e w8 ⟨rfl,hb⟩;refine ⟨_,rfl,?_⟩;replace BK154:=am (jm (g:=gb154) (o:=.cells #[.slice A0_0 l0_0.length c0_0] 32 (0,0)) (kq BK154.out) hb);replace HB:=am (jd (Y12) hb);(try clear hb);(try clear hb2);(try clear hk);(try clear hi)))
     go_roundg k1
     case measure=>have:=HK1.out;omega
     case rel=>exact ⟨(wrap64 (x5_1+1)),(sq),H',⟨by have:=HK1.out;omega⟩,⟨kq BK154.out⟩,⟨Y12⟩⟩
    ·replace c6:=Bool.eq_false_iff.mpr c6
     subst c6
     have H1:(some false)=some r:=by rw [if_neg (show ¬ (false=true) by decide)] at H;exact H
     clear H
     have H:=H1
     clear H1
     obtain rfl:=Option.some.inj H
     have hcz9_0:=bc0 BK154.out
     have hfz9_0:=ja BK154.out 0
     go_wp2_with (first |((with_reducible refine je (f:=57) rfl ?_);refine gL (some 15) Try.func57 #[.agg #[.slice A0_0 l0_0.length c0_0], .slice A1 l1.length c1, .int .i64 x5_1] ?_;(with_reducible refine (ji.calls k1 _ _ l0_0 _ _ l1 x5_1 false _ ?side1 ?side2 ?side3 ?side4 A5.out).mono ?_);(case side1=>exact cq (Kd.jF HR0_0.out HB.out));(case side2=>exact HC0_0.out);(case side3=>exact cq (Kd.jF HR1.out HB.out));(case side4=>exact HC1.out);rintro e w10 ⟨rfl,hb⟩;refine ⟨_,rfl,?_⟩;replace BK154:=am (jm (g:=gb154) (o:=.cells #[.slice A0_0 l0_0.length c0_0] 32 (0,0)) (kq BK154.out) hb);replace HB:=am (jd (Y12) hb);(try clear hb);(try clear hb2);(try clear hk);(try clear hi)))
     go_ret
     exact ⟨Y0,Y12⟩
   ·rw [if_neg c4] at H
    have c4b0:decide (x5_1<(l1.length:Int))=false:=dzF c4
    clear c4
    replace H:=bzS H
    obtain ⟨t155,A110,H⟩:=H
    replace H:(if t155=true then (some (decide ((l1.length:Int)≤24))) else (some false))=some r:=H
    have A11:=am A110
    clear A110
    by_cases c12:t155=true
    ·subst c12
     have H1:(some (decide ((l1.length:Int)≤24)))=some r:=by rw [if_pos rfl] at H;exact H
     clear H
     have H:=H1
     clear H1
     obtain rfl:=Option.some.inj H
     have hcz13_0:=bc0 BK154.out
     have hfz13_0:=ja BK154.out 0
     go_wp2_with (first |((with_reducible refine je (f:=58) rfl ?_);refine gL (some 18) Try.func58 #[.agg #[.slice A0_0 l0_0.length c0_0]] ?_;(with_reducible refine (jG.calls k1 _ _ l0_0 true _ ?side1 ?side2 A11.out).mono ?_);(case side1=>exact cq (Kd.jF HR0_0.out HB.out));(case side2=>exact HC0_0.out);rintro e w14 ⟨rfl,hb⟩;refine ⟨_,rfl,?_⟩;replace BK154:=am (jm (g:=gb154) (o:=.cells #[.slice A0_0 l0_0.length c0_0] 32 (0,0)) (kq BK154.out) hb);replace HB:=am (jd (Y12) hb);(try clear hb);(try clear hb2);(try clear hk);(try clear hi)))
     go_ret
     exact ⟨Y0,Y12⟩
    ·replace c12:=Bool.eq_false_iff.mpr c12
     subst c12
     have H1:(some false)=some r:=by rw [if_neg (show ¬ (false=true) by decide)] at H;exact H
     clear H
     have H:=H1
     clear H1
     obtain rfl:=Option.some.inj H
     have hcz15_0:=bc0 BK154.out
     have hfz15_0:=ja BK154.out 0
     go_wp2_with (first |((with_reducible refine je (f:=58) rfl ?_);refine gL (some 18) Try.func58 #[.agg #[.slice A0_0 l0_0.length c0_0]] ?_;(with_reducible refine (jG.calls k1 _ _ l0_0 false _ ?side1 ?side2 A11.out).mono ?_);(case side1=>exact cq (Kd.jF HR0_0.out HB.out));(case side2=>exact HC0_0.out);rintro e w16 ⟨rfl,hb⟩;refine ⟨_,rfl,?_⟩;replace BK154:=am (jm (g:=gb154) (o:=.cells #[.slice A0_0 l0_0.length c0_0] 32 (0,0)) (kq BK154.out) hb);replace HB:=am (jd (Y12) hb);(try clear hb);(try clear hb2);(try clear hk);(try clear hi)))
     go_ret
     exact ⟨Y0,Y12⟩
def jhb.f (a0 : Int) : Option (Bool) := (jB.f a0 2 6).bind fun t157 => (some t157)
set_option maxHeartbeats 8000000 in
set_option maxRecDepth 100000 in
theorem jhb.calls (a0 : Int) (r : Bool) (w : World) (h : jhb.f a0 = some r) :
  Calls Try.prog 59 #[.int .i64 a0] w fun e w'=>e=.returned (.bool r)∧jKa w w':=by
 have H:((jB.f a0 2 6).bind fun t157=>(some t157))=some r:=h
 clear h
 replace H:=bzS H
 obtain ⟨t157,A20,H⟩:=H
 replace H:(some t157)=some r:=H
 have A2:=am A20
 clear A20
 obtain rfl:=Option.some.inj H
 go_enter Try.func59,Try.ntmps59
 go_wp2_with (first |((with_reducible refine je (f:=85) rfl ?_);refine gL (some 4) Try.func85 #[.int .i64 a0, .int .i64 2, .int .i64 6] ?_;(with_reducible refine (jB.calls a0 2 6 t157 _ A2.out).mono ?_);rintro e w' ⟨rfl,⟨nd,rfl⟩⟩;refine ⟨_,rfl,?_⟩))
 go_ret
 exact ⟨sq,Y2⟩
mutual
def jQ.l0 : Nat → List (S52) → Int → Int → Option (Bool)
 | 0,_,_,_=>none
 | k+1,x0,x1,x5=>if x5≥0 then (if 0≤x5 then (if x5<(x0.length:Int) then (if 0≤x1 then (if x1<(x0.length:Int) then (jQ.j1 k x0 x1 x5 (decide (((jb x0 x5).f0)≥((jb x0 x1).f0)))) else (none)) else (none)) else (none)) else (none)) else (jQ.j1 k x0 x1 x5 false)
def jQ.j1 : Nat → List (S52) → Int → Int → Bool → Option (Bool)
 | 0,_,_,_,_=>none
 | k+1,x0,x1,x5,x22=>if x22=true then (if 0≤x5 then (if x5<(x0.length:Int) then (if 0≤x1 then (if x1<(x0.length:Int) then (if ((jb x0 x5).f0)=((jb x0 x1).f0) then ((jhb.f ((jb x0 x5).f1)).bind fun t163=>(if t163=true then (some true) else (jQ.l0 k x0 x1 (wrap64 (x5 - 1))))) else (jQ.l0 k x0 x1 (wrap64 (x5 - 1)))) else (none)) else (none)) else (none)) else (none)) else (some false)
end
def jQ.f (k : Nat) (l0 : List (S52)) (a1 : Int) : Option (Bool) := jQ.l0 k l0 a1 (wrap64 (a1 - 1))
set_option maxHeartbeats 8000000 in
set_option maxRecDepth 100000 in
theorem jQ.calls (k : Nat) (A0 : Option Addr) (c0 : Nat) (l0 : List (S52)) (a1 : Int) (r : Bool) (w : World) (hr0 : Kd.C k52 w A0 l0.length l0) (hc0 : l0.length ≤ c0) (h : jQ.f k l0 a1 = some r) :
  Calls Try.prog 30 #[.slice A0 l0.length c0, .int .i64 a1] w fun e w'=>e=.returned (.bool r)∧jKa w w':=by
 have HR0:=am hr0
 have HC0:=am hc0
 clear hr0 hc0
 have H:(jQ.l0 k l0 a1 (wrap64 (a1 - 1)))=some r:=h
 clear h
 have H':=am H
 clear H
 go_enter Try.func30,Try.ntmps30
 go_wp2
 repeat (go_quiet (fail);try go_wp2)
 go_loopg [5] k (fun kq v5 w'=>∃ (x5_1:Int),v5=.int .i64 x5_1∧jk (jQ.l0 kq l0 a1 x5_1=some r)∧jk (kq≤k)∧jKa w w')
 case atStart=>exact ⟨(wrap64 (a1 - 1)),(sq),H',⟨Nat.le_refl _⟩,Y2⟩
 case round =>
  clear H'
  try clear p2
  obtain ⟨x5_1,rfl,HA,HK1,⟨m1,rfl⟩⟩:=hrel
  cases gk with
  | zero=>exact absurd HA.out (by simp [jQ.l0])
  | succ k1 =>
   have H:=HA.out
   clear HA
   simp only [jQ.l0] at H
   have HC3:=am H
   clear H
   go_upto_region 2 with (fail)
   repeat (go_quiet (fail);go_upto_region 2 with (fail))
   go_cut [22] (fun v22 wc=>∃ (kq:Nat) (x22_2:Bool),v22=.bool x22_2∧jk (jQ.j1 kq l0 a1 x5_1 x22_2=some r)∧jk (kq≤k1)∧jKa w wc)
   case first =>
    have H:=HC3.out
    clear HC3
    by_cases c4:x5_1≥0
    ·rw [if_pos c4] at H
     have c4b0:decide (0≤x5_1)=true:=dzT c4
     clear c4
     (first | rw [c4b0] |(simp only [jub,jvb];rw [c4b0]) | skip)
     by_cases c5:0≤x5_1
     ·rw [if_pos c5] at H
      have c5b0:decide (0≤x5_1)=true:=dzT c5
      clear c5
      by_cases c6:x5_1<(l0.length:Int)
      ·rw [if_pos c6] at H
       have c6b0:decide (x5_1<(l0.length:Int))=true:=dzT c6
       clear c6
       by_cases c7:0≤a1
       ·rw [if_pos c7] at H
        have c7b0:decide (0≤a1)=true:=dzT c7
        clear c7
        by_cases c8:a1<(l0.length:Int)
        ·rw [if_pos c8] at H
         have c8b0:decide (a1<(l0.length:Int))=true:=dzT c8
         clear c8
         have H':=am H
         clear H
         have p158:0≤(x5_1:Int):=ozD (uq)
         have q158:x5_1<(l0.length:Int):=ozD (uq)
         obtain ⟨ad158,e158,hx158_0,hx158_1,hx158_2,hx158_3⟩:=jba HR0.out x5_1 p158 q158
         cases e158
         replace p158:=ezT p158
         replace q158:=ezT q158
         have p159:0≤(a1:Int):=ozD (uq)
         have q159:a1<(l0.length:Int):=ozD (uq)
         obtain ⟨ad159,e159,hx159_0,hx159_1,hx159_2,hx159_3⟩:=jba HR0.out a1 p159 q159
         obtain rfl:ad158=ad159:=(by injection e159)
         replace p159:=ezT p159
         replace q159:=ezT q159
         go_wp2
         repeat (go_quiet (fail);try go_wp2)
         go_meet
         case rel=>exact ⟨_,(decide (((jb l0 x5_1).f0)≥((jb l0 a1).f0))),(sq),H',⟨by have:=HK1.out;first | omega | exact Nat.le_refl _⟩,Y2⟩
        ·rw [if_neg c8] at H
         exact absurd H (by simp)
       ·rw [if_neg c7] at H
        exact absurd H (by simp)
      ·rw [if_neg c6] at H
       exact absurd H (by simp)
     ·rw [if_neg c5] at H
      exact absurd H (by simp)
    ·rw [if_neg c4] at H
     have c4b0:decide (0≤x5_1)=false:=dzF c4
     clear c4
     (first | rw [c4b0] |(simp only [jub,jvb];rw [c4b0]) | skip)
     have H':=am H
     clear H
     go_wp2
     repeat (go_quiet (fail);try go_wp2)
     go_meet
     case rel=>exact ⟨_,(false),(sq),H',⟨by have:=HK1.out;first | omega | exact Nat.le_refl _⟩,Y2⟩
   case rest =>
    clear HC3
    try clear p1
    try clear q1
    try clear hx1
    try clear p2
    try clear c3
    try clear c4
    try clear c4b0
    try clear c5
    try clear c5b0
    try clear c6
    try clear c6b0
    try clear p6
    try clear c7
    try clear c7b0
    try clear c8
    try clear c8b0
    try clear hx158_0
    try clear hx158_1
    try clear hx158_2
    try clear hx158_3
    try clear hx159_0
    try clear hx159_1
    try clear hx159_2
    try clear hx159_3
    try clear p158
    try clear p159
    try clear p2
    try clear q158
    try clear q159
    obtain ⟨kq,x22_2,rfl,HA,HJ2,⟨mc2,rfl⟩⟩:=hcut
    cases kq with
    | zero=>exact absurd HA.out (by simp [jQ.j1])
    | succ kj2 =>
     have H:=HA.out
     clear HA
     simp only [jQ.j1] at H
     by_cases c9:x22_2=true
     ·subst c9
      have H1:(if 0≤x5_1 then (if x5_1<(l0.length:Int) then (if 0≤a1 then (if a1<(l0.length:Int) then (if ((jb l0 x5_1).f0)=((jb l0 a1).f0) then ((jhb.f ((jb l0 x5_1).f1)).bind fun t163=>(if t163=true then (some true) else (jQ.l0 kj2 l0 a1 (wrap64 (x5_1 - 1))))) else (jQ.l0 kj2 l0 a1 (wrap64 (x5_1 - 1)))) else (none)) else (none)) else (none)) else (none))=some r:=by rw [if_pos rfl] at H;exact H
      clear H
      have H:=H1
      clear H1
      by_cases c10:0≤x5_1
      ·rw [if_pos c10] at H
       have c10b0:decide (0≤x5_1)=true:=dzT c10
       clear c10
       by_cases c11:x5_1<(l0.length:Int)
       ·rw [if_pos c11] at H
        have c11b0:decide (x5_1<(l0.length:Int))=true:=dzT c11
        clear c11
        by_cases c12:0≤a1
        ·rw [if_pos c12] at H
         have c12b0:decide (0≤a1)=true:=dzT c12
         clear c12
         by_cases c13:a1<(l0.length:Int)
         ·rw [if_pos c13] at H
          have c13b0:decide (a1<(l0.length:Int))=true:=dzT c13
          clear c13
          by_cases c14:((jb l0 x5_1).f0)=((jb l0 a1).f0)
          ·rw [if_pos c14] at H
           have c14b0:(((jb l0 x5_1).f0) == ((jb l0 a1).f0))=true:=beq_iff_eq.mpr c14
           have c14b1:(((jb l0 x5_1).f0) != ((jb l0 a1).f0))=false:=bne_eq_false_iff_eq.mpr c14
           clear c14
           replace H:=bzS H
           obtain ⟨t163,A150,H⟩:=H
           replace H:(if t163=true then (some true) else (jQ.l0 kj2 l0 a1 (wrap64 (x5_1 - 1))))=some r:=H
           have A15:=am A150
           clear A150
           by_cases c16:t163=true
           ·subst c16
            have H1:(some true)=some r:=by rw [if_pos rfl] at H;exact H
            clear H
            have H:=H1
            clear H1
            obtain rfl:=Option.some.inj H
            have p160:0≤(x5_1:Int):=ozD (uq)
            have q160:x5_1<(l0.length:Int):=ozD (uq)
            obtain ⟨ad160,e160,hx160_0,hx160_1,hx160_2,hx160_3⟩:=jba HR0.out x5_1 p160 q160
            cases e160
            replace p160:=ezT p160
            replace q160:=ezT q160
            have p161:0≤(a1:Int):=ozD (uq)
            have q161:a1<(l0.length:Int):=ozD (uq)
            obtain ⟨ad161,e161,hx161_0,hx161_1,hx161_2,hx161_3⟩:=jba HR0.out a1 p161 q161
            obtain rfl:ad160=ad161:=(by injection e161)
            replace p161:=ezT p161
            replace q161:=ezT q161
            have p162:0≤(x5_1:Int):=ozD (uq)
            have q162:x5_1<(l0.length:Int):=ozD (uq)
            obtain ⟨ad162,e162,hx162_0,hx162_1,hx162_2,hx162_3⟩:=jba HR0.out x5_1 p162 q162
            obtain rfl:ad160=ad162:=(by injection e162)
            replace p162:=ezT p162
            replace q162:=ezT q162
            go_wp2_with (first |(go_at_call 59;(with_reducible refine (jhb.calls ((jb l0 x5_1).f1) true _ A15.out).mono ?_);rintro e w' ⟨rfl,⟨nd,rfl⟩⟩;(try first | exact ⟨rfl,_,World.drewN_drewN _ _ _⟩ | exact ⟨rfl,_,Eq.trans (World.drewN_drewN _ _ _) (congrArg (World.drewN _) (Nat.add_assoc _ _ _))⟩)))
            repeat (go_quiet (first |(go_at_call 59;(with_reducible refine (jhb.calls ((jb l0 x5_1).f1) true _ A15.out).mono ?_);rintro e w' ⟨rfl,⟨nd,rfl⟩⟩;(try first | exact ⟨rfl,_,World.drewN_drewN _ _ _⟩ | exact ⟨rfl,_,Eq.trans (World.drewN_drewN _ _ _) (congrArg (World.drewN _) (Nat.add_assoc _ _ _))⟩)));try go_wp2_with (first |(go_at_call 59;(with_reducible refine (jhb.calls ((jb l0 x5_1).f1) true _ A15.out).mono ?_);rintro e w' ⟨rfl,⟨nd,rfl⟩⟩;(try first | exact ⟨rfl,_,World.drewN_drewN _ _ _⟩ | exact ⟨rfl,_,Eq.trans (World.drewN_drewN _ _ _) (congrArg (World.drewN _) (Nat.add_assoc _ _ _))⟩))))
            go_ret
            exact ⟨sq,Y2⟩
           ·replace c16:=Bool.eq_false_iff.mpr c16
            subst c16
            have H1:(jQ.l0 kj2 l0 a1 (wrap64 (x5_1 - 1)))=some r:=by rw [if_neg (show ¬ (false=true) by decide)] at H;exact H
            clear H
            have H:=H1
            clear H1
            have H':=am H
            clear H
            have p160:0≤(x5_1:Int):=ozD (uq)
            have q160:x5_1<(l0.length:Int):=ozD (uq)
            obtain ⟨ad160,e160,hx160_0,hx160_1,hx160_2,hx160_3⟩:=jba HR0.out x5_1 p160 q160
            cases e160
            replace p160:=ezT p160
            replace q160:=ezT q160
            have p161:0≤(a1:Int):=ozD (uq)
            have q161:a1<(l0.length:Int):=ozD (uq)
            obtain ⟨ad161,e161,hx161_0,hx161_1,hx161_2,hx161_3⟩:=jba HR0.out a1 p161 q161
            obtain rfl:ad160=ad161:=(by injection e161)
            replace p161:=ezT p161
            replace q161:=ezT q161
            have p162:0≤(x5_1:Int):=ozD (uq)
            have q162:x5_1<(l0.length:Int):=ozD (uq)
            obtain ⟨ad162,e162,hx162_0,hx162_1,hx162_2,hx162_3⟩:=jba HR0.out x5_1 p162 q162
            obtain rfl:ad160=ad162:=(by injection e162)
            replace p162:=ezT p162
            replace q162:=ezT q162
            go_wp2_with (first |(go_at_call 59;(with_reducible refine (jhb.calls ((jb l0 x5_1).f1) false _ A15.out).mono ?_);rintro e w' ⟨rfl,⟨nd,rfl⟩⟩;(try first | exact ⟨rfl,_,World.drewN_drewN _ _ _⟩ | exact ⟨rfl,_,Eq.trans (World.drewN_drewN _ _ _) (congrArg (World.drewN _) (Nat.add_assoc _ _ _))⟩)))
            repeat (go_quiet (first |(go_at_call 59;(with_reducible refine (jhb.calls ((jb l0 x5_1).f1) false _ A15.out).mono ?_);rintro e w' ⟨rfl,⟨nd,rfl⟩⟩;(try first | exact ⟨rfl,_,World.drewN_drewN _ _ _⟩ | exact ⟨rfl,_,Eq.trans (World.drewN_drewN _ _ _) (congrArg (World.drewN _) (Nat.add_assoc _ _ _))⟩)));try go_wp2_with (first |(go_at_call 59;(with_reducible refine (jhb.calls ((jb l0 x5_1).f1) false _ A15.out).mono ?_);rintro e w' ⟨rfl,⟨nd,rfl⟩⟩;(try first | exact ⟨rfl,_,World.drewN_drewN _ _ _⟩ | exact ⟨rfl,_,Eq.trans (World.drewN_drewN _ _ _) (congrArg (World.drewN _) (Nat.add_assoc _ _ _))⟩))))
            go_roundg kj2
            case measure=>have:=HK1.out;have:=HJ2.out;omega
            case rel=>exact ⟨(wrap64 (x5_1 - 1)),(sq),H',⟨by have:=HK1.out;have:=HJ2.out;omega⟩,Y2⟩
          ·rw [if_neg c14] at H
           have c14b0:(((jb l0 x5_1).f0) == ((jb l0 a1).f0))=false:=beq_eq_false_iff_ne.mpr c14
           have c14b1:(((jb l0 x5_1).f0) != ((jb l0 a1).f0))=true:=bne_iff_ne.mpr c14
           have H':=am H
           clear H
           have p160:0≤(x5_1:Int):=ozD (uq)
           have q160:x5_1<(l0.length:Int):=ozD (uq)
           obtain ⟨ad160,e160,hx160_0,hx160_1,hx160_2,hx160_3⟩:=jba HR0.out x5_1 p160 q160
           cases e160
           replace p160:=ezT p160
           replace q160:=ezT q160
           have p161:0≤(a1:Int):=ozD (uq)
           have q161:a1<(l0.length:Int):=ozD (uq)
           obtain ⟨ad161,e161,hx161_0,hx161_1,hx161_2,hx161_3⟩:=jba HR0.out a1 p161 q161
           obtain rfl:ad160=ad161:=(by injection e161)
           replace p161:=ezT p161
           replace q161:=ezT q161
           go_wp2
           repeat (go_quiet (fail);try go_wp2)
           go_roundg kj2
           case measure=>have:=HK1.out;have:=HJ2.out;omega
           case rel=>exact ⟨(wrap64 (x5_1 - 1)),(sq),H',⟨by have:=HK1.out;have:=HJ2.out;omega⟩,Y2⟩
         ·rw [if_neg c13] at H
          exact absurd H (by simp)
        ·rw [if_neg c12] at H
         exact absurd H (by simp)
       ·rw [if_neg c11] at H
        exact absurd H (by simp)
      ·rw [if_neg c10] at H
       exact absurd H (by simp)
     ·replace c9:=Bool.eq_false_iff.mpr c9
      subst c9
      have H1:(some false)=some r:=by rw [if_neg (show ¬ (false=true) by decide)] at H;exact H
      clear H
      have H:=H1
      clear H1
      obtain rfl:=Option.some.inj H
      go_wp2
      repeat (go_quiet (fail);try go_wp2)
      go_ret
      exact ⟨sq,Y2⟩
def jza.l0 : Nat → List Int → Int → Int → Option (Bool)
 | 0,_,_,_=>none
 | k+1,x0,x1,x5=>if x5<(x0.length:Int) then (if 0≤x5 then (if (rd x0 x5)=x1 then (some true) else (jza.l0 k x0 x1 (wrap64 (x5+1)))) else (none)) else (some false)
def jza.f (k : Nat) (l0 : List Int) (a1 : Int) : Option (Bool) := jza.l0 k l0 a1 0
set_option maxHeartbeats 8000000 in
set_option maxRecDepth 100000 in
theorem jza.calls (k : Nat) (A0 : Option Addr) (c0 : Nat) (l0 : List Int) (a1 : Int) (r : Bool) (w : World) (hr0 : Kd.C (Kd.int .i64) w A0 l0.length l0) (hc0 : l0.length ≤ c0) (h : jza.f k l0 a1 = some r) :
  Calls Try.prog 45 #[.slice A0 l0.length c0, .int .i64 a1] w fun e w'=>e=.returned (.bool r)∧jKa w w':=by
 have HR0:=am hr0
 have HC0:=am hc0
 clear hr0 hc0
 have H:(jza.l0 k l0 a1 0)=some r:=h
 clear h
 have H':=am H
 clear H
 go_enter Try.func45,Try.ntmps45
 go_wp2
 go_loopg [5] k (fun kq v5 w'=>∃ (x5_1:Int),v5=.int .i64 x5_1∧jk (jza.l0 kq l0 a1 x5_1=some r)∧jk (kq≤k)∧jKa w w')
 case atStart=>exact ⟨(0),(sq),H',⟨Nat.le_refl _⟩,Y2⟩
 case round =>
  clear H'
  try clear p2
  obtain ⟨x5_1,rfl,HA,HK1,⟨m1,rfl⟩⟩:=hrel
  cases gk with
  | zero=>exact absurd HA.out (by simp [jza.l0])
  | succ k1 =>
   have H:=HA.out
   clear HA
   simp only [jza.l0] at H
   by_cases c3:x5_1<(l0.length:Int)
   ·rw [if_pos c3] at H
    have c3b0:decide (x5_1<(l0.length:Int))=true:=dzT c3
    clear c3
    by_cases c4:0≤x5_1
    ·rw [if_pos c4] at H
     have c4b0:decide (0≤x5_1)=true:=dzT c4
     clear c4
     by_cases c5:(rd l0 x5_1)=a1
     ·rw [if_pos c5] at H
      have c5b0:((rd l0 x5_1) == a1)=true:=beq_iff_eq.mpr c5
      have c5b1:((rd l0 x5_1) != a1)=false:=bne_eq_false_iff_eq.mpr c5
      clear c5
      obtain rfl:=Option.some.inj H
      have p348:0≤(x5_1:Int):=ozD (uq)
      have q348:x5_1<(l0.length:Int):=ozD (uq)
      obtain ⟨ad348,e348,hx348_0⟩:=Kd.jcb HR0.out x5_1 p348 q348
      cases e348
      replace p348:=ezT p348
      replace q348:=ezT q348
      go_wp2
      go_ret
      exact ⟨sq,Y2⟩
     ·rw [if_neg c5] at H
      have c5b0:((rd l0 x5_1) == a1)=false:=beq_eq_false_iff_ne.mpr c5
      have c5b1:((rd l0 x5_1) != a1)=true:=bne_iff_ne.mpr c5
      have H':=am H
      clear H
      have p348:0≤(x5_1:Int):=ozD (uq)
      have q348:x5_1<(l0.length:Int):=ozD (uq)
      obtain ⟨ad348,e348,hx348_0⟩:=Kd.jcb HR0.out x5_1 p348 q348
      cases e348
      replace p348:=ezT p348
      replace q348:=ezT q348
      go_wp2
      go_roundg k1
      case measure=>have:=HK1.out;omega
      case rel=>exact ⟨(wrap64 (x5_1+1)),(sq),H',⟨by have:=HK1.out;omega⟩,Y2⟩
    ·rw [if_neg c4] at H
     exact absurd H (by simp)
   ·rw [if_neg c3] at H
    have c3b0:decide (x5_1<(l0.length:Int))=false:=dzF c3
    clear c3
    obtain rfl:=Option.some.inj H
    go_wp2
    go_ret
    exact ⟨sq,Y2⟩
def jUa.l0 : Nat → Int → List Int → List (S78) → Option (List Int)
 | 0,_,_,_=>none
 | k+1,x1,x5,x350000=>if x1≥0 then (if x5.length<17592186044416 then (if 0≤x1 then (if x1<(x350000.length:Int) then (jUa.l0 k ((jK x350000 x1).f1) (x5 ++ [x1]) x350000) else (none)) else (none)) else (none)) else (some x5)
def jUa.f (k : Nat) (l0_0 : List (S78)) (a1 : Int) : Option (List Int) := jUa.l0 k a1 (([] : List Int)) l0_0
set_option maxHeartbeats 8000000 in
set_option maxRecDepth 100000 in
theorem jUa.calls (k : Nat) (A0_0 : Option Addr) (c0_0 : Nat) (l0_0 : List (S78)) (a1 : Int) (r : List Int) (w : World) (hr0_0 : Kd.C k78 w A0_0 l0_0.length l0_0) (hc0_0 : l0_0.length ≤ c0_0) (h : jUa.f k l0_0 a1 = some r) :
  Calls Try.prog 96 #[.agg #[.slice A0_0 l0_0.length c0_0], .int .i64 a1] w fun e w'=>∃ v0_:Value,e=.returned (v0_)∧Kd.R (Kd.int .i64) 3 w' w.heap.size (fun _=>True) v0_ r∧Below w.heap.size w w':=by
 have hu32:=Try.underlying32
 have HR0_0:=am hr0_0
 have HC0_0:=am hc0_0
 clear hr0_0 hc0_0
 have HB:=am (Below.refl w.heap.size w)
 have H:(jUa.l0 k a1 (([]:List Int)) l0_0)=some r:=h
 clear h
 obtain ⟨y350,hy350⟩:∃ y_:List Int,y_=(([]:List Int)):=⟨_,rfl⟩
 replace H:(jUa.l0 k a1 y350 l0_0)=some r:=by first |(rw [hy350];with_reducible exact H) |(have H2_:=(Option.bind_some _ _).symm.trans H;rw [hy350];with_reducible exact H2_) |(have H2_:=(Option.bind_some _ _).symm.trans H;with_reducible exact H2_) | with_reducible exact H |(rw [hy350];exact H) | exact H
 have Ny350:=am hy350
 clear hy350
 have H':=am H
 clear H
 go_enter Try.func96,Try.ntmps96
 go_wp2_with (first |((with_reducible refine jP (N:=2) rfl ?_);refine bE (N:=2) (cs:=#[.slice A0_0 l0_0.length c0_0]) (t:=32) ?_;intro gb349 hg w3 hbox hb;have BK349:=am (hbox);have GW349:=am ((Y1:w.heap.size≤gb349));have GE349:=am ((Y1:w.heap.size≤gb349));replace HB:=am (jd (bq) hb);clear hb hbox hg) |((with_reducible refine jP (N:=6) rfl ?_);refine Kd.R_lit (Kd.int .i64) _ 3 ?hg (N:=6) ?hd (xs:=([]:List Int)) (inner:=[]) (ok:=fun _=>True) (okp:=fun _=>True) ?hr ?hp (fun _ hk=>hk) trivial (Below.refl _ _) (Nat.le_refl _) (by simp) ?_;(case hd=>rfl);(case hg=>rfl);(case hr=>exact Y4);(case hp=>exact (Reps.none _ _));intro v351 w4 ho5 hb hg_ hnew_;clear hg_ hnew_;(first | rw [← Ny350.out] at ho5 |(simp only [Int.reduceToNat] at ho5;rw [← Ny350.out] at ho5));have HO352:=am (Kd.jRa ho5 (jH (Y16)));replace BK349:=am (jm (g:=gb349) (o:=.cells #[.slice A0_0 l0_0.length c0_0] 32 (0,0)) (kq BK349.out) hb);replace HB:=am (jd (Y16) hb);clear hb ho5))
 go_loopg [1,5] k (fun kq v1 v5 w'=>∃ (x1_1:Int) (x5_1:List Int),v1=.int .i64 x1_1∧jk (jUa.l0 kq x1_1 x5_1 l0_0=some r)∧jk (kq≤k)∧jk (Kd.R (Kd.int .i64) 3 w' w.heap.size (fun _=>True) v5 x5_1)∧jk (w'.heap[gb349]?=some (.cells #[(.slice A0_0 l0_0.length c0_0)] 32 (0,0)))∧jk (Below w.heap.size w w'))
 case atStart=>exact ⟨(a1),(y350),(sq),H',⟨Nat.le_refl _⟩,⟨rq HO352.out⟩,⟨kq BK349.out⟩,⟨Y16⟩⟩
 case round =>
  clear H'
  try clear p2
  obtain ⟨x1_1,x5_1,rfl,HA,HK1,HO_5,BK349,HB⟩:=hrel
  cases gk with
  | zero=>exact absurd HA.out (by simp [jUa.l0])
  | succ k1 =>
   have H:=HA.out
   clear HA
   simp only [jUa.l0] at H
   by_cases c6:x1_1≥0
   ·rw [if_pos c6] at H
    have c6b0:decide (0≤x1_1)=true:=dzT c6
    clear c6
    by_cases c7:x5_1.length<17592186044416
    ·rw [if_pos c7] at H
     have LMc7:=am c7
     clear c7
     obtain ⟨y353,hy353⟩:∃ y_:List Int,y_=(x5_1 ++ [x1_1]):=⟨_,rfl⟩
     replace H:(if 0≤x1_1 then (if x1_1<(l0_0.length:Int) then (jUa.l0 k1 ((jK l0_0 x1_1).f1) y353 l0_0) else (none)) else (none))=some r:=by first |(rw [hy353];with_reducible exact H) |(have H2_:=(Option.bind_some _ _).symm.trans H;rw [hy353];with_reducible exact H2_) |(have H2_:=(Option.bind_some _ _).symm.trans H;with_reducible exact H2_) | with_reducible exact H |(rw [hy353];exact H) | exact H
     have Ny353:=am hy353
     clear hy353
     by_cases c8:0≤x1_1
     ·rw [if_pos c8] at H
      have c8b0:decide (0≤x1_1)=true:=dzT c8
      clear c8
      by_cases c9:x1_1<(l0_0.length:Int)
      ·rw [if_pos c9] at H
       have c9b0:decide (x1_1<(l0_0.length:Int))=true:=dzT c9
       clear c9
       have H':=am H
       clear H
       go_wp2_with (first |((with_reducible refine jPa (b:=.append) (xs:=#[.tmp 15, .tmp 17]) rfl ?_);at_builtin;refine Kd.job (Kd.int .i64) (w0:=w) w.heap.size rfl (.tmp 15) (.tmp 17) 40 3 (.int .i64 0) 8 rfl Try.underlying40 info3 rfl (by decide) (by omega) u5 x5_1 x1_1 [.int .i64 x1_1] (fun _=>True) (fun _=>False) rfl rfl ?aP (fun _ hk=>hk.elim) ?aF ?aO ?aB ?aS ?aL ?_;(case aP=>exact rfl);(case aB=>exact (Y16));(case aF=>exact (fun _ _=>trivial));(case aO=>exact (rq HO_5.out));(case aS=>exact (jH (Y16)));(case aL=>have:=LMc7.out;omega);intro v354 w10 ho hb hg hat;rw [← Ny353.out] at ho;have n0_:=am (blk_grown (g:=gb349) (o:=.cells #[.slice A0_0 l0_0.length c0_0] 32 (0,0)) (kq BK349.out) hg (Kd.R_ne HO_5.out BK349.out (by decide)));have n1_:=am (hb);have n2_:=am (ho);clear BK349 HB HO_5;have BK349:=n0_;have HB:=n1_;have HO355:=n2_;clear n0_ n1_ n2_ ho hb hg hat;have hcz11_0:=bc0 BK349.out;have hfz11_0:=ja BK349.out 0;have p356:0≤(x1_1:Int):=ozD (uq);have q356:x1_1<(l0_0.length:Int):=ozD (uq);obtain ⟨ad356,e356,hx356_0,hx356_1⟩:=at_T78 HR0_0.out x1_1 p356 q356;cases e356;replace hx356_0:=cb HB.out hx356_0;replace hx356_1:=cb HB.out hx356_1;replace p356:=ezT p356;replace q356:=ezT q356))
       go_roundg k1
       case measure=>have:=HK1.out;omega
       case rel=>exact ⟨((jK l0_0 x1_1).f1),(y353),(sq),H',⟨by have:=HK1.out;omega⟩,⟨rq HO355.out⟩,⟨kq BK349.out⟩,⟨Y16⟩⟩
      ·rw [if_neg c9] at H
       exact absurd H (by simp)
     ·rw [if_neg c8] at H
      exact absurd H (by simp)
    ·rw [if_neg c7] at H
     exact absurd H (by simp)
   ·rw [if_neg c6] at H
    have c6b0:decide (0≤x1_1)=false:=dzF c6
    clear c6
    obtain rfl:=Option.some.inj H
    go_wp2
    go_ret
    exact ⟨_,Y0,rq HO_5.out,Y16⟩
def jcc.f (k : Nat) (l0_0 : List (S78)) (a1 : Int) (a2 : Int) : Option (Bool) := (jUa.f k l0_0 a1).bind fun t358 => ((jza.f k t358 a2).bind fun t361 => (some t361))
set_option maxHeartbeats 8000000 in
set_option maxRecDepth 100000 in
theorem jcc.calls (k : Nat) (A0_0 : Option Addr) (c0_0 : Nat) (l0_0 : List (S78)) (a1 : Int) (a2 : Int) (r : Bool) (w : World) (hr0_0 : Kd.C k78 w A0_0 l0_0.length l0_0) (hc0_0 : l0_0.length ≤ c0_0) (h : jcc.f k l0_0 a1 a2 = some r) :
  Calls Try.prog 71 #[.agg #[.slice A0_0 l0_0.length c0_0], .int .i64 a1, .int .i64 a2] w fun e w'=>e=.returned (.bool r)∧Below w.heap.size w w':=by
 have hu32:=Try.underlying32
 have HR0_0:=am hr0_0
 have HC0_0:=am hc0_0
 clear hr0_0 hc0_0
 have HB:=am (Below.refl w.heap.size w)
 have H:((jUa.f k l0_0 a1).bind fun t358=>((jza.f k t358 a2).bind fun t361=>(some t361)))=some r:=h
 clear h
 replace H:=bzS H
 obtain ⟨t358,A40,H⟩:=H
 replace H:((jza.f k t358 a2).bind fun t361=>(some t361))=some r:=H
 have A4:=am A40
 clear A40
 replace H:=bzS H
 obtain ⟨t361,A50,H⟩:=H
 replace H:(some t361)=some r:=H
 have A5:=am A50
 clear A50
 obtain rfl:=Option.some.inj H
 go_enter Try.func71,Try.ntmps71
 go_wp2_with (first |((with_reducible refine jP (N:=3) rfl ?_);refine bE (N:=3) (cs:=#[.slice A0_0 l0_0.length c0_0]) (t:=32) ?_;intro gb357 hg w6 hbox hb;have BK357:=am (hbox);have GW357:=am ((Y1:w.heap.size≤gb357));have GE357:=am ((Y1:w.heap.size≤gb357));replace HB:=am (jd (bq) hb);clear hb hbox hg;have hcz7_0:=bc0 BK357.out;have hfz7_0:=ja BK357.out 0) |((with_reducible refine je (f:=96) rfl ?_);refine gL (some 9) Try.func96 #[.agg #[.slice A0_0 l0_0.length c0_0], .int .i64 a1] ?_;(with_reducible refine (jUa.calls k _ _ l0_0 a1 t358 _ ?side1 ?side2 A4.out).mono ?_);(case side1=>exact cq (Kd.jF HR0_0.out HB.out));(case side2=>exact HC0_0.out);rintro e w8 ⟨v359,rfl,ho0,hb⟩;refine ⟨_,rfl,?_⟩;have HO360:=am (Kd.jRa ho0 (jH (Y35)));replace BK357:=am (jm (g:=gb357) (o:=.cells #[.slice A0_0 l0_0.length c0_0] 32 (0,0)) (kq BK357.out) hb);replace HB:=am (jd (Y35) hb);(try clear hb);(try clear hb2);(try clear hk);(try clear hi);(try clear ho0);obtain ⟨Ao9,co9,eo9⟩:=Kd.jGa HO360.out;subst eo9) |((with_reducible refine je (f:=45) rfl ?_);refine gL (some 11) Try.func45 #[.slice Ao9 t358.length co9, .int .i64 a2] ?_;(with_reducible refine (jza.calls k _ _ t358 a2 t361 _ ?side1 ?side2 A5.out).mono ?_);(case side1=>exact cq (Kd.jA HO360.out).2.2);(case side2=>exact (Kd.jA HO360.out).2.1);rintro e w' ⟨rfl,⟨nd,rfl⟩⟩;refine ⟨_,rfl,?_⟩))
 go_ret
 exact ⟨Y0,Y35⟩
def jab.l0 : Nat → List (S52) → Int → Option (Int)
 | 0,_,_=>none
 | k+1,x0,x1=>if 0≤x1 then (if x1<(x0.length:Int) then (if ((jb x0 x1).f1)=7 then (some x1) else ((jMa.f k x0 x1).bind fun t478=>(jab.l0 k x0 t478))) else (none)) else (none)
def jab.f (k : Nat) (l0 : List (S52)) (a1 : Int) : Option (Int) := jab.l0 k l0 a1
set_option maxHeartbeats 8000000 in
set_option maxRecDepth 100000 in
theorem jab.calls (k : Nat) (A0 : Option Addr) (c0 : Nat) (l0 : List (S52)) (a1 : Int) (r : Int) (w : World) (hr0 : Kd.C k52 w A0 l0.length l0) (hc0 : l0.length ≤ c0) (h : jab.f k l0 a1 = some r) :
  Calls Try.prog 70 #[.slice A0 l0.length c0, .int .i64 a1] w fun e w'=>e=.returned (.int .i64 r)∧jKa w w':=by
 have HR0:=am hr0
 have HC0:=am hc0
 clear hr0 hc0
 have H:(jab.l0 k l0 a1)=some r:=h
 clear h
 have H':=am H
 clear H
 go_enter Try.func70,Try.ntmps70
 go_wp2
 go_loopg [1] k (fun kq v1 w'=>∃ (x1_1:Int),v1=.int .i64 x1_1∧jk (jab.l0 kq l0 x1_1=some r)∧jk (kq≤k)∧jKa w w')
 case atStart=>exact ⟨(a1),(sq),H',⟨Nat.le_refl _⟩,Y2⟩
 case round =>
  clear H'
  try clear p2
  obtain ⟨x1_1,rfl,HA,HK1,⟨m1,rfl⟩⟩:=hrel
  cases gk with
  | zero=>exact absurd HA.out (by simp [jab.l0])
  | succ k1 =>
   have H:=HA.out
   clear HA
   simp only [jab.l0] at H
   by_cases c3:0≤x1_1
   ·rw [if_pos c3] at H
    have c3b0:decide (0≤x1_1)=true:=dzT c3
    clear c3
    by_cases c4:x1_1<(l0.length:Int)
    ·rw [if_pos c4] at H
     have c4b0:decide (x1_1<(l0.length:Int))=true:=dzT c4
     clear c4
     by_cases c5:((jb l0 x1_1).f1)=7
     ·rw [if_pos c5] at H
      have c5b0:(((jb l0 x1_1).f1) == 7)=true:=beq_iff_eq.mpr c5
      have c5b1:(((jb l0 x1_1).f1) != 7)=false:=bne_eq_false_iff_eq.mpr c5
      clear c5
      obtain rfl:=Option.some.inj H
      have p477:0≤(x1_1:Int):=ozD (uq)
      have q477:x1_1<(l0.length:Int):=ozD (uq)
      obtain ⟨ad477,e477,hx477_0,hx477_1,hx477_2,hx477_3⟩:=jba HR0.out x1_1 p477 q477
      cases e477
      replace p477:=ezT p477
      replace q477:=ezT q477
      go_wp2
      go_ret
      exact ⟨sq,Y2⟩
     ·rw [if_neg c5] at H
      have c5b0:(((jb l0 x1_1).f1) == 7)=false:=beq_eq_false_iff_ne.mpr c5
      have c5b1:(((jb l0 x1_1).f1) != 7)=true:=bne_iff_ne.mpr c5
      replace H:=bzS H
      obtain ⟨t478,A60,H⟩:=H
      replace H:(jab.l0 k1 l0 t478)=some r:=H
      have A6:=am A60
      clear A60
      have H':=am H
      clear H
      have p477:0≤(x1_1:Int):=ozD (uq)
      have q477:x1_1<(l0.length:Int):=ozD (uq)
      obtain ⟨ad477,e477,hx477_0,hx477_1,hx477_2,hx477_3⟩:=jba HR0.out x1_1 p477 q477
      cases e477
      replace p477:=ezT p477
      replace q477:=ezT q477
      go_wp2_with (first |((with_reducible refine je (f:=90) rfl ?_);refine gL (some 13) Try.func90 #[.slice (some ad477) l0.length c0, .int .i64 x1_1] ?_;(with_reducible refine (jMa.calls k1 _ _ l0 x1_1 t478 _ ?side1 ?side2 A6.out).mono ?_);(case side1=>exact Y11);(case side2=>exact HC0.out);rintro e w' ⟨rfl,⟨nd,rfl⟩⟩;refine ⟨_,rfl,?_⟩))
      go_roundg k1
      case measure=>have:=HK1.out;omega
      case rel=>exact ⟨(t478),(sq),H',⟨by have:=HK1.out;omega⟩,Y2⟩
    ·rw [if_neg c4] at H
     exact absurd H (by simp)
   ·rw [if_neg c3] at H
    exact absurd H (by simp)
mutual
def jC.l0 : Nat → List (S52) → Int → List Int → Int → List (S78) → Option (Bool)
 | 0,_,_,_,_,_=>none
 | k+1,x1,x2,x7,x8,x480000=>if x8<(x7.length:Int) then (if 0≤x8 then (jC.j1 k x1 x2 x7 x8 (decide ((rd x7 x8)<x2)) x480000) else (none)) else (jC.j1 k x1 x2 x7 x8 false x480000)
def jC.j1 : Nat → List (S52) → Int → List Int → Int → Bool → List (S78) → Option (Bool)
 | 0,_,_,_,_,_,_=>none
 | k+1,x1,x2,x7,x8,x31,x480000=>if x31=true then (if 0≤x2 then (if x2<(x1.length:Int) then (if 0≤x8 then (if x8<(x7.length:Int) then (if 0≤(rd x7 x8) then (if (rd x7 x8)<(x1.length:Int) then ((jcc.f k x480000 ((jb x1 x2).f2) ((jb x1 (rd x7 x8)).f2)).bind fun t489=>(if t489=true then (some true) else (jC.l0 k x1 x2 x7 (wrap64 (x8+1)) x480000))) else (none)) else (none)) else (none)) else (none)) else (none)) else (none)) else (some false)
end
def jC.f (k : Nat) (l0_0 : List (S78)) (l1 : List (S52)) (a2 : Int) : Option (Bool) := if 0 ≤ a2 then (if a2 < (l1.length : Int) then (if ((jb l1 a2).f1) = 8 then ((jab.f k l1 a2).bind fun t481 => ((jma.f k l1 t481).bind fun t482 => (jC.l0 k l1 a2 t482 1 l0_0))) else (some false)) else (none)) else (none)
def jC.T7 : Bool × List (List Nat × List Nat) := (true, [([], []), ([], []), ([], []), ([1, 2], [1, 2]), ([3], [3]), ([4], [4]), ([], []), ([], []), ([], []), ([7, 8], [7, 8]), ([9], [9]), ([6, 10], [6, 10]), ([11], [11]), ([12], [12]), ([0, 5, 13], [0, 5, 13])])
def jC.B7 : List Nat := [0, 0, 0, 6, 14, 30, 0, 0, 0, 384, 896, 1984, 4032, 8128, 16383]
theorem jC.tab7 : rtab .any (opsOf Try.f43 7) = jC.T7 := by kernel_rfl
theorem jC.bits7 : waitsOk jC.T7.2 jC.B7 = true := by kernel_rfl
set_option maxHeartbeats 8000000 in
set_option maxRecDepth 100000 in
theorem jC.calls (k : Nat) (A0_0 : Option Addr) (c0_0 : Nat) (l0_0 : List (S78)) (A1 : Option Addr) (c1 : Nat) (l1 : List (S52)) (a2 : Int) (r : Bool) (w : World) (hr0_0 : Kd.C k78 w A0_0 l0_0.length l0_0) (hc0_0 : l0_0.length ≤ c0_0) (hr1 : Kd.C k52 w A1 l1.length l1) (hc1 : l1.length ≤ c1) (h : jC.f k l0_0 l1 a2 = some r) :
  Calls Try.prog 43 #[.agg #[.slice A0_0 l0_0.length c0_0], .slice A1 l1.length c1, .int .i64 a2] w fun e w'=>e=.returned (.bool r)∧Below w.heap.size w w':=by
 have hu32:=Try.underlying32
 have HR0_0:=am hr0_0
 have HC0_0:=am hc0_0
 clear hr0_0 hc0_0
 have HR1:=am hr1
 have HC1:=am hc1
 clear hr1 hc1
 have HB:=am (Below.refl w.heap.size w)
 have H:(if 0≤a2 then (if a2<(l1.length:Int) then (if ((jb l1 a2).f1)=8 then ((jab.f k l1 a2).bind fun t481=>((jma.f k l1 t481).bind fun t482=>(jC.l0 k l1 a2 t482 1 l0_0))) else (some false)) else (none)) else (none))=some r:=h
 clear h
 by_cases c4:0≤a2
 ·rw [if_pos c4] at H
  have c4b0:decide (0≤a2)=true:=dzT c4
  clear c4
  by_cases c5:a2<(l1.length:Int)
  ·rw [if_pos c5] at H
   have c5b0:decide (a2<(l1.length:Int))=true:=dzT c5
   clear c5
   by_cases c6:((jb l1 a2).f1)=8
   ·rw [if_pos c6] at H
    have c6b0:(((jb l1 a2).f1) == 8)=true:=beq_iff_eq.mpr c6
    have c6b1:(((jb l1 a2).f1) != 8)=false:=bne_eq_false_iff_eq.mpr c6
    clear c6
    replace H:=bzS H
    obtain ⟨t481,A70,H⟩:=H
    replace H:((jma.f k l1 t481).bind fun t482=>(jC.l0 k l1 a2 t482 1 l0_0))=some r:=H
    have A7:=am A70
    clear A70
    replace H:=bzS H
    obtain ⟨t482,A80,H⟩:=H
    replace H:(jC.l0 k l1 a2 t482 1 l0_0)=some r:=H
    have A8:=am A80
    clear A80
    have H':=am H
    clear H
    go_enter Try.func43,Try.ntmps43
    go_wp2_with (first |((with_reducible refine jP (N:=3) rfl ?_);refine bE (N:=3) (cs:=#[.slice A0_0 l0_0.length c0_0]) (t:=32) ?_;intro gb479 hg w9 hbox hb;have BK479:=am (hbox);have GW479:=am ((Y1:w.heap.size≤gb479));have GE479:=am ((Y1:w.heap.size≤gb479));replace HB:=am (jd (bq) hb);clear hb hbox hg;have p480:0≤(a2:Int):=ozD (uq);have q480:a2<(l1.length:Int):=ozD (uq);obtain ⟨ad480,e480,hx480_0,hx480_1,hx480_2,hx480_3⟩:=jba HR1.out a2 p480 q480;cases e480;replace hx480_0:=cb HB.out hx480_0;replace hx480_1:=cb HB.out hx480_1;replace hx480_2:=cb HB.out hx480_2;replace hx480_3:=cb HB.out hx480_3;replace p480:=ezT p480;replace q480:=ezT q480) |((with_reducible refine je (f:=70) rfl ?_);refine gL (some 18) Try.func70 #[.slice (some ad480) l1.length c1, .int .i64 a2] ?_;(with_reducible refine (jab.calls k _ _ l1 a2 t481 _ ?side1 ?side2 A7.out).mono ?_);(case side1=>exact cq (Kd.jF HR1.out HB.out));(case side2=>exact HC1.out);rintro e w' ⟨rfl,⟨nd,rfl⟩⟩;refine ⟨_,rfl,?_⟩) |((with_reducible refine je (f:=66) rfl ?_);refine gL (some 19) Try.func66 #[.slice (some ad480) l1.length c1, .int .i64 t481] ?_;(with_reducible refine (jma.calls k _ _ l1 t481 t482 _ ?side1 ?side2 A8.out).mono ?_);(case side1=>repeat (first | exact (Kd.jF HR1.out (by repeat (first |(with_reducible first | exact HB.out | apply jv | apply jg | apply jr | refine jw ?_ GE479.out) | exact HB.out))) |(with_reducible refine Kd.C_alloc ?_ _) |(with_reducible refine Kd.C_drewN ?_ _) |(with_reducible refine Kd.C_drew ?_)));(case side2=>exact HC1.out);rintro e w10 ⟨v483,rfl,ho0,hb⟩;refine ⟨_,rfl,?_⟩;have HO484:=am (Kd.jRa ho0 (jH (Y13)));replace BK479:=am (jm (g:=gb479) (o:=.cells #[.slice A0_0 l0_0.length c0_0] 32 (0,0)) (kq BK479.out) hb);replace HB:=am (jd (Y13) hb);(try clear hb);(try clear hb2);(try clear hk);(try clear hi);(try clear ho0)))
    go_loopg [8] k (fun kq v8 w'=>∃ (x8_1:Int),v8=.int .i64 x8_1∧jk (jC.l0 kq l1 a2 t482 x8_1 l0_0=some r)∧jk (kq≤k)∧jk (Kd.R (Kd.int .i64) 3 w' w.heap.size (fun _=>True) v483 t482)∧jk (w'.heap[gb479]?=some (.cells #[(.slice A0_0 l0_0.length c0_0)] 32 (0,0)))∧jk (Below w.heap.size w w'))
    case atStart=>exact ⟨(1),(sq),H',⟨Nat.le_refl _⟩,⟨rq HO484.out⟩,⟨kq BK479.out⟩,⟨Y13⟩⟩
    case round =>
     clear H'
     try clear c1
     try clear p2
     try clear c4
     try clear c4b0
     try clear p4
     try clear q4
     try clear hx4
     try clear c5
     try clear c5b0
     try clear c6
     try clear c6b0
     try clear c6b1
     try clear c7
     try clear hx480_0
     try clear hx480_1
     try clear hx480_2
     try clear hx480_3
     try clear p480
     try clear q480
     obtain ⟨x8_1,rfl,HA,HK1,HO_7,BK479,HB⟩:=hrel
     cases gk with
     | zero=>exact absurd HA.out (by simp [jC.l0])
     | succ k1 =>
      have H:=HA.out
      clear HA
      simp only [jC.l0] at H
      have HC11:=am H
      clear H
      go_upto_region 5 with (fail)
      go_cut [31] (fun v31 wc=>∃ (kq:Nat) (x31_10:Bool),v31=.bool x31_10∧jk (jC.j1 kq l1 a2 t482 x8_1 x31_10 l0_0=some r)∧jk (kq≤k1)∧jk (Kd.R (Kd.int .i64) 3 wc w.heap.size (fun _=>True) v483 t482)∧jk (wc.heap[gb479]?=some (.cells #[(.slice A0_0 l0_0.length c0_0)] 32 (0,0)))∧jk (Below w.heap.size w wc))
      case first =>
       have H:=HC11.out
       clear HC11
       by_cases c12:x8_1<(t482.length:Int)
       ·rw [if_pos c12] at H
        have c12b0:decide (x8_1<(t482.length:Int))=true:=dzT c12
        clear c12
        (first | rw [c12b0] |(simp only [jub,jvb];rw [c12b0]) | skip)
        by_cases c13:0≤x8_1
        ·rw [if_pos c13] at H
         have c13b0:decide (0≤x8_1)=true:=dzT c13
         clear c13
         have H':=am H
         clear H
         obtain ⟨Ao14,co14,eo14⟩:=Kd.jGa HO_7.out
         subst eo14
         have p485:0≤(x8_1:Int):=ozD (uq)
         have q485:x8_1<(t482.length:Int):=ozD (uq)
         obtain ⟨ad485,e485,hx485_0⟩:=Kd.jcb (Kd.jA HO_7.out).2.2 x8_1 p485 q485
         cases e485
         replace p485:=ezT p485
         replace q485:=ezT q485
         go_wp2
         go_meet
         case rel=>exact ⟨_,(decide ((rd t482 x8_1)<a2)),(sq),H',⟨by have:=HK1.out;first | omega | exact Nat.le_refl _⟩,⟨rq HO_7.out⟩,⟨kq BK479.out⟩,⟨Y13⟩⟩
        ·rw [if_neg c13] at H
         exact absurd H (by simp)
       ·rw [if_neg c12] at H
        have c12b0:decide (x8_1<(t482.length:Int))=false:=dzF c12
        clear c12
        (first | rw [c12b0] |(simp only [jub,jvb];rw [c12b0]) | skip)
        have H':=am H
        clear H
        obtain ⟨Ao15,co15,eo15⟩:=Kd.jGa HO_7.out
        subst eo15
        go_wp2
        go_meet
        case rel=>exact ⟨_,(false),(sq),H',⟨by have:=HK1.out;first | omega | exact Nat.le_refl _⟩,⟨rq HO_7.out⟩,⟨kq BK479.out⟩,⟨Y13⟩⟩
      case rest =>
       clear HC11
       try clear c1
       try clear p2
       try clear c4
       try clear c4b0
       try clear p4
       try clear q4
       try clear hx4
       try clear c5
       try clear c5b0
       try clear c6
       try clear c6b0
       try clear c6b1
       try clear c7
       try clear c12
       try clear c12b0
       try clear c13
       try clear c13b0
       try clear hx480_0
       try clear hx480_1
       try clear hx480_2
       try clear hx480_3
       try clear hx485_0
       try clear p2
       try clear p4
       try clear p480
       try clear p485
       try clear q4
       try clear q480
       try clear q485
       obtain ⟨kq,x31_10,rfl,HA,HJ10,HO_7,BK479,HB⟩:=hcut
       cases kq with
       | zero=>exact absurd HA.out (by simp [jC.j1])
       | succ kj10 =>
        have H:=HA.out
        clear HA
        simp only [jC.j1] at H
        by_cases c16:x31_10=true
        ·subst c16
         have H1:(if 0≤a2 then (if a2<(l1.length:Int) then (if 0≤x8_1 then (if x8_1<(t482.length:Int) then (if 0≤(rd t482 x8_1) then (if (rd t482 x8_1)<(l1.length:Int) then ((jcc.f kj10 l0_0 ((jb l1 a2).f2) ((jb l1 (rd t482 x8_1)).f2)).bind fun t489=>(if t489=true then (some true) else (jC.l0 kj10 l1 a2 t482 (wrap64 (x8_1+1)) l0_0))) else (none)) else (none)) else (none)) else (none)) else (none)) else (none))=some r:=by rw [if_pos rfl] at H;exact H
         clear H
         have H:=H1
         clear H1
         by_cases c17:0≤a2
         ·rw [if_pos c17] at H
          have c17b0:decide (0≤a2)=true:=dzT c17
          clear c17
          by_cases c18:a2<(l1.length:Int)
          ·rw [if_pos c18] at H
           have c18b0:decide (a2<(l1.length:Int))=true:=dzT c18
           clear c18
           by_cases c19:0≤x8_1
           ·rw [if_pos c19] at H
            have c19b0:decide (0≤x8_1)=true:=dzT c19
            clear c19
            by_cases c20:x8_1<(t482.length:Int)
            ·rw [if_pos c20] at H
             have c20b0:decide (x8_1<(t482.length:Int))=true:=dzT c20
             clear c20
             by_cases c21:0≤(rd t482 x8_1)
             ·rw [if_pos c21] at H
              have c21b0:decide (0≤(rd t482 x8_1))=true:=dzT c21
              clear c21
              by_cases c22:(rd t482 x8_1)<(l1.length:Int)
              ·rw [if_pos c22] at H
               have c22b0:decide ((rd t482 x8_1)<(l1.length:Int))=true:=dzT c22
               clear c22
               replace H:=bzS H
               obtain ⟨t489,A230,H⟩:=H
               replace H:(if t489=true then (some true) else (jC.l0 kj10 l1 a2 t482 (wrap64 (x8_1+1)) l0_0))=some r:=H
               have A23:=am A230
               clear A230
               by_cases c24:t489=true
               ·subst c24
                have H1:(some true)=some r:=by rw [if_pos rfl] at H;exact H
                clear H
                have H:=H1
                clear H1
                obtain rfl:=Option.some.inj H
                try go_wp2
                replace HO_7:=am (Kd.jsb HO_7.out)
                replace BK479:=am (jta BK479.out)
                replace HB:=am (jr HB.out)
                have p486:0≤(a2:Int):=ozD (uq)
                have q486:a2<(l1.length:Int):=ozD (uq)
                obtain ⟨ad486,e486,hx486_0,hx486_1,hx486_2,hx486_3⟩:=jba HR1.out a2 p486 q486
                have hw486_3:=hx486_3
                have hw486_2:=hx486_2
                have hw486_1:=hx486_1
                have hw486_0:=hx486_0
                obtain rfl:ad480=ad486:=(by injection e486)
                replace hx486_0:=cb HB.out hx486_0
                replace hx486_1:=cb HB.out hx486_1
                replace hx486_2:=cb HB.out hx486_2
                replace hx486_3:=cb HB.out hx486_3
                replace p486:=ezT p486
                replace q486:=ezT q486
                obtain ⟨Ao26,co26,eo26⟩:=Kd.jGa HO_7.out
                (first | subst eo26 |(injection eo26 with f1_ f2_ f3_;have f4_:=f1_.symm;have f5_:=f3_.symm;clear f1_ f2_ f3_;subst f4_;subst f5_))
                have p487:0≤(x8_1:Int):=ozD (uq)
                have q487:x8_1<(t482.length:Int):=ozD (uq)
                obtain ⟨ad487,e487,hx487_0⟩:=Kd.jcb (Kd.jA HO_7.out).2.2 x8_1 p487 q487
                cases e487
                replace p487:=ezT p487
                replace q487:=ezT q487
                have p488:0≤((rd t482 x8_1):Int):=ozD (uq)
                have q488:(rd t482 x8_1)<(l1.length:Int):=ozD (uq)
                obtain ⟨ad488,e488,hx488_0,hx488_1,hx488_2,hx488_3⟩:=jba HR1.out (rd t482 x8_1) p488 q488
                have hw488_3:=hx488_3
                have hw488_2:=hx488_2
                have hw488_1:=hx488_1
                have hw488_0:=hx488_0
                obtain rfl:ad480=ad488:=(by injection e488)
                replace hx488_0:=cb HB.out hx488_0
                replace hx488_1:=cb HB.out hx488_1
                replace hx488_2:=cb HB.out hx488_2
                replace hx488_3:=cb HB.out hx488_3
                replace p488:=ezT p488
                replace q488:=ezT q488
                refine start_ (n:=15) (S:=fun w'=>w'.cell? ⟨gb479,0,none⟩=some (.slice A0_0 l0_0.length c0_0)∧w'.cell? (ad480.add ((a2).toNat * 4))=some (.int .i64 ((jb l1 a2).f0))∧w'.cell? ⟨(ad480.add ((a2).toNat * 4)).block,(ad480.add ((a2).toNat * 4)).off+1,none⟩=some (.int .i64 ((jb l1 a2).f1))∧w'.cell? ⟨(ad480.add ((a2).toNat * 4)).block,(ad480.add ((a2).toNat * 4)).off+2,none⟩=some (.int .i64 ((jb l1 a2).f2))∧w'.cell? ⟨(ad480.add ((a2).toNat * 4)).block,(ad480.add ((a2).toNat * 4)).off+3,none⟩=some (.int .i64 ((jb l1 a2).f3))∧w'.cell? (ad487.add (x8_1).toNat)=some (.int .i64 (rd t482 x8_1))∧w'.cell? (ad480.add (((rd t482 x8_1)).toNat * 4))=some (.int .i64 ((jb l1 (rd t482 x8_1)).f0))∧w'.cell? ⟨(ad480.add (((rd t482 x8_1)).toNat * 4)).block,(ad480.add (((rd t482 x8_1)).toNat * 4)).off+1,none⟩=some (.int .i64 ((jb l1 (rd t482 x8_1)).f1))∧w'.cell? ⟨(ad480.add (((rd t482 x8_1)).toNat * 4)).block,(ad480.add (((rd t482 x8_1)).toNat * 4)).off+2,none⟩=some (.int .i64 ((jb l1 (rd t482 x8_1)).f2))∧w'.cell? ⟨(ad480.add (((rd t482 x8_1)).toNat * 4)).block,(ad480.add (((rd t482 x8_1)).toNat * 4)).off+3,none⟩=some (.int .i64 ((jb l1 (rd t482 x8_1)).f3))) (ds:=[]) #[false,false,false,false,false,false,false,false,false,false,false,false,false,false,false] (by kernel_rfl) rfl rfl ⟨(jDa BK479.out 0).trans rfl,((HB.out.cell (World.block_lt_of_cell? w _ hw486_0)).trans hw486_0),((HB.out.cell (World.block_lt_of_cell? w _ hw486_1)).trans hw486_1),((HB.out.cell (World.block_lt_of_cell? w _ hw486_2)).trans hw486_2),((HB.out.cell (World.block_lt_of_cell? w _ hw486_3)).trans hw486_3),hx487_0,((HB.out.cell (World.block_lt_of_cell? w _ hw488_0)).trans hw488_0),((HB.out.cell (World.block_lt_of_cell? w _ hw488_1)).trans hw488_1),((HB.out.cell (World.block_lt_of_cell? w _ hw488_2)).trans hw488_2),((HB.out.cell (World.block_lt_of_cell? w _ hw488_3)).trans hw488_3)⟩ (fun hHeld=>?_);refine jhc jC.tab7 jC.bits7 (fun HT_ HW_=>?_)
                generalize wc.drew=w25 at HO_7 BK479 HB hx486_0 hx486_1 hx486_2 hx486_3 hx487_0 hx488_0 hx488_1 hx488_2 hx488_3 hHeld ⊢
                refine pq (i:=1) (N:=some 35) #[false,true,false,false,false,false,false,false,false,false,false,false,false,false,false] ?_
                refine pq (i:=2) (N:=some 36) #[false,true,true,false,false,false,false,false,false,false,false,false,false,false,false] ?_
                refine pq (i:=3) (N:=some 37) #[false,true,true,true,false,false,false,false,false,false,false,false,false,false,false] ?_
                refine pq (i:=4) (N:=some 38) #[false,true,true,true,true,false,false,false,false,false,false,false,false,false,false] ?_
                refine pq (i:=6) (N:=some 40) #[false,true,true,true,true,false,true,false,false,false,false,false,false,false,false] ?_
                refine pq (i:=7) (N:=some 41) #[false,true,true,true,true,false,true,true,false,false,false,false,false,false,false] ?_
                refine pq (i:=8) (N:=some 42) #[false,true,true,true,true,false,true,true,true,false,false,false,false,false,false] ?_
                refine pq (i:=9) (N:=some 43) #[false,true,true,true,true,false,true,true,true,true,false,false,false,false,false] ?_
                refine jic (i:=0) (N:=some 34) (v:=?_) (a':=?_) #[true,true,true,true,true,false,true,true,true,true,false,false,false,false,false] rfl rfl (jmb HT_.out HW_.out (by kernel_rfl)) (fun _ _ _ h=>h) (Or.inl ⟨by rfl,?_⟩) hHeld ?_ ?_
                rotate_left
                ·rintro w' ⟨s0,s1,s2,s3,s4,s5,s6,s7,s8,s9⟩
                 go_simp
                 with_reducible rfl
                rotate_left
                ·exact sa
                refine jic (i:=5) (N:=some 39) (v:=?_) (a':=?_) #[true,true,true,true,true,true,true,true,true,true,false,false,false,false,false] rfl rfl (jmb HT_.out HW_.out (by kernel_rfl)) (fun _ _ _ h=>h) (Or.inl ⟨by rfl,?_⟩) hHeld ?_ ?_
                rotate_left
                ·rintro w' ⟨s0,s1,s2,s3,s4,s5,s6,s7,s8,s9⟩
                 go_simp
                 with_reducible rfl
                rotate_left
                ·exact sa
                refine jic (i:=10) (N:=some 44) (v:=?_) (a':=?_) #[true,true,true,true,true,true,true,true,true,true,true,false,false,false,false] rfl rfl (jmb HT_.out HW_.out (by kernel_rfl)) (fun _ _ _ h=>h) (Or.inl ⟨by rfl,?_⟩) hHeld ?_ ?_
                rotate_left
                ·rintro w' ⟨s0,s1,s2,s3,s4,s5,s6,s7,s8,s9⟩
                 go_simp
                 with_reducible rfl
                rotate_left
                ·exact sa
                refine pq (i:=11) (N:=some 45) #[true,true,true,true,true,true,true,true,true,true,true,true,false,false,false] ?_
                refine pq (i:=12) (N:=some 46) #[true,true,true,true,true,true,true,true,true,true,true,true,true,false,false] ?_
                refine jic (i:=13) (N:=some 47) (v:=?_) (a':=?_) #[true,true,true,true,true,true,true,true,true,true,true,true,true,true,false] rfl rfl (jmb HT_.out HW_.out (by kernel_rfl)) (fun _ _ _ h=>h) (Or.inl ⟨by rfl,?_⟩) hHeld ?_ ?_
                rotate_left
                ·rintro w' ⟨s0,s1,s2,s3,s4,s5,s6,s7,s8,s9⟩
                 go_simp
                 with_reducible rfl
                rotate_left
                ·exact sa
                refine one_ (i:=14) (N:=some 48) #[true,true,true,true,true,true,true,true,true,true,true,true,true,true,true] rfl rfl (one_of HT_.out (by kernel_rfl)) (by decide) (fun K hK=>?_)
                refine goes_ Try.func71 (by kernel_rfl) rfl #[.agg #[.slice A0_0 l0_0.length c0_0], .int .i64 ((jb l1 a2).f2), .int .i64 ((jb l1 (rd t482 x8_1)).f2)] (by rfl) rfl rfl (aq) ?_
                with_reducible refine (jcc.calls kj10 _ _ l0_0 ((jb l1 a2).f2) ((jb l1 (rd t482 x8_1)).f2) true _ ?side1 ?side2 A23.out).mono ?_
                (case side1=>exact cq (Kd.jF HR0_0.out HB.out))
                (case side2=>exact HC0_0.out)
                rintro e w27 ⟨rfl,hb⟩
                have HS5_:=(hb.cell (World.block_lt_of_cell? _ _ (hHeld.2.2.2.2.2.1))).trans (hHeld.2.2.2.2.2.1)
                refine ⟨_,rfl,?_⟩
                replace HO_7:=am (Kd.jX (rq HO_7.out) hb)
                replace BK479:=am (jm (g:=gb479) (o:=.cells #[.slice A0_0 l0_0.length c0_0] 32 (0,0)) (kq BK479.out) hb)
                replace HB:=am (jd (Y13) hb)
                (try clear hb)
                (try clear hb2)
                (try clear hk)
                (try clear hi)
                refine hK.out _ _ ⟨(jDa BK479.out 0).trans rfl,((HB.out.cell (World.block_lt_of_cell? w _ hw486_0)).trans hw486_0),((HB.out.cell (World.block_lt_of_cell? w _ hw486_1)).trans hw486_1),((HB.out.cell (World.block_lt_of_cell? w _ hw486_2)).trans hw486_2),((HB.out.cell (World.block_lt_of_cell? w _ hw486_3)).trans hw486_3),HS5_,((HB.out.cell (World.block_lt_of_cell? w _ hw488_0)).trans hw488_0),((HB.out.cell (World.block_lt_of_cell? w _ hw488_1)).trans hw488_1),((HB.out.cell (World.block_lt_of_cell? w _ hw488_2)).trans hw488_2),((HB.out.cell (World.block_lt_of_cell? w _ hw488_3)).trans hw488_3)⟩ (fun hHeld=>?_)
                clear hK K
                refine norm_ (a':=?_) ?_ ?_
                rotate_left
                ·show Act.put _ (some 48) _=_
                 simp only [Act.put,List.setIfInBounds_toArray,List.set_cons_zero,List.set_cons_succ,jub,jvb]
                 rfl
                refine done_ (done_of HT_.out (by kernel_rfl)) ?_
                try go_wp2
                go_ret
                exact ⟨Y0,Y13⟩
               ·replace c24:=Bool.eq_false_iff.mpr c24
                subst c24
                have H1:(jC.l0 kj10 l1 a2 t482 (wrap64 (x8_1+1)) l0_0)=some r:=by rw [if_neg (show ¬ (false=true) by decide)] at H;exact H
                clear H
                have H:=H1
                clear H1
                have H':=am H
                clear H
                try go_wp2
                replace HO_7:=am (Kd.jsb HO_7.out)
                replace BK479:=am (jta BK479.out)
                replace HB:=am (jr HB.out)
                have p486:0≤(a2:Int):=ozD (uq)
                have q486:a2<(l1.length:Int):=ozD (uq)
                obtain ⟨ad486,e486,hx486_0,hx486_1,hx486_2,hx486_3⟩:=jba HR1.out a2 p486 q486
                have hw486_3:=hx486_3
                have hw486_2:=hx486_2
                have hw486_1:=hx486_1
                have hw486_0:=hx486_0
                obtain rfl:ad480=ad486:=(by injection e486)
                replace hx486_0:=cb HB.out hx486_0
                replace hx486_1:=cb HB.out hx486_1
                replace hx486_2:=cb HB.out hx486_2
                replace hx486_3:=cb HB.out hx486_3
                replace p486:=ezT p486
                replace q486:=ezT q486
                obtain ⟨Ao29,co29,eo29⟩:=Kd.jGa HO_7.out
                (first | subst eo29 |(injection eo29 with f1_ f2_ f3_;have f4_:=f1_.symm;have f5_:=f3_.symm;clear f1_ f2_ f3_;subst f4_;subst f5_))
                have p487:0≤(x8_1:Int):=ozD (uq)
                have q487:x8_1<(t482.length:Int):=ozD (uq)
                obtain ⟨ad487,e487,hx487_0⟩:=Kd.jcb (Kd.jA HO_7.out).2.2 x8_1 p487 q487
                cases e487
                replace p487:=ezT p487
                replace q487:=ezT q487
                have p488:0≤((rd t482 x8_1):Int):=ozD (uq)
                have q488:(rd t482 x8_1)<(l1.length:Int):=ozD (uq)
                obtain ⟨ad488,e488,hx488_0,hx488_1,hx488_2,hx488_3⟩:=jba HR1.out (rd t482 x8_1) p488 q488
                have hw488_3:=hx488_3
                have hw488_2:=hx488_2
                have hw488_1:=hx488_1
                have hw488_0:=hx488_0
                obtain rfl:ad480=ad488:=(by injection e488)
                replace hx488_0:=cb HB.out hx488_0
                replace hx488_1:=cb HB.out hx488_1
                replace hx488_2:=cb HB.out hx488_2
                replace hx488_3:=cb HB.out hx488_3
                replace p488:=ezT p488
                replace q488:=ezT q488
                refine start_ (n:=15) (S:=fun w'=>w'.cell? ⟨gb479,0,none⟩=some (.slice A0_0 l0_0.length c0_0)∧w'.cell? (ad480.add ((a2).toNat * 4))=some (.int .i64 ((jb l1 a2).f0))∧w'.cell? ⟨(ad480.add ((a2).toNat * 4)).block,(ad480.add ((a2).toNat * 4)).off+1,none⟩=some (.int .i64 ((jb l1 a2).f1))∧w'.cell? ⟨(ad480.add ((a2).toNat * 4)).block,(ad480.add ((a2).toNat * 4)).off+2,none⟩=some (.int .i64 ((jb l1 a2).f2))∧w'.cell? ⟨(ad480.add ((a2).toNat * 4)).block,(ad480.add ((a2).toNat * 4)).off+3,none⟩=some (.int .i64 ((jb l1 a2).f3))∧w'.cell? (ad487.add (x8_1).toNat)=some (.int .i64 (rd t482 x8_1))∧w'.cell? (ad480.add (((rd t482 x8_1)).toNat * 4))=some (.int .i64 ((jb l1 (rd t482 x8_1)).f0))∧w'.cell? ⟨(ad480.add (((rd t482 x8_1)).toNat * 4)).block,(ad480.add (((rd t482 x8_1)).toNat * 4)).off+1,none⟩=some (.int .i64 ((jb l1 (rd t482 x8_1)).f1))∧w'.cell? ⟨(ad480.add (((rd t482 x8_1)).toNat * 4)).block,(ad480.add (((rd t482 x8_1)).toNat * 4)).off+2,none⟩=some (.int .i64 ((jb l1 (rd t482 x8_1)).f2))∧w'.cell? ⟨(ad480.add (((rd t482 x8_1)).toNat * 4)).block,(ad480.add (((rd t482 x8_1)).toNat * 4)).off+3,none⟩=some (.int .i64 ((jb l1 (rd t482 x8_1)).f3))) (ds:=[]) #[false,false,false,false,false,false,false,false,false,false,false,false,false,false,false] (by kernel_rfl) rfl rfl ⟨(jDa BK479.out 0).trans rfl,((HB.out.cell (World.block_lt_of_cell? w _ hw486_0)).trans hw486_0),((HB.out.cell (World.block_lt_of_cell? w _ hw486_1)).trans hw486_1),((HB.out.cell (World.block_lt_of_cell? w _ hw486_2)).trans hw486_2),((HB.out.cell (World.block_lt_of_cell? w _ hw486_3)).trans hw486_3),hx487_0,((HB.out.cell (World.block_lt_of_cell? w _ hw488_0)).trans hw488_0),((HB.out.cell (World.block_lt_of_cell? w _ hw488_1)).trans hw488_1),((HB.out.cell (World.block_lt_of_cell? w _ hw488_2)).trans hw488_2),((HB.out.cell (World.block_lt_of_cell? w _ hw488_3)).trans hw488_3)⟩ (fun hHeld=>?_);refine jhc jC.tab7 jC.bits7 (fun HT_ HW_=>?_)
                generalize wc.drew=w28 at HO_7 BK479 HB hx486_0 hx486_1 hx486_2 hx486_3 hx487_0 hx488_0 hx488_1 hx488_2 hx488_3 hHeld ⊢
                refine pq (i:=1) (N:=some 35) #[false,true,false,false,false,false,false,false,false,false,false,false,false,false,false] ?_
                refine pq (i:=2) (N:=some 36) #[false,true,true,false,false,false,false,false,false,false,false,false,false,false,false] ?_
                refine pq (i:=3) (N:=some 37) #[false,true,true,true,false,false,false,false,false,false,false,false,false,false,false] ?_
                refine pq (i:=4) (N:=some 38) #[false,true,true,true,true,false,false,false,false,false,false,false,false,false,false] ?_
                refine pq (i:=6) (N:=some 40) #[false,true,true,true,true,false,true,false,false,false,false,false,false,false,false] ?_
                refine pq (i:=7) (N:=some 41) #[false,true,true,true,true,false,true,true,false,false,false,false,false,false,false] ?_
                refine pq (i:=8) (N:=some 42) #[false,true,true,true,true,false,true,true,true,false,false,false,false,false,false] ?_
                refine pq (i:=9) (N:=some 43) #[false,true,true,true,true,false,true,true,true,true,false,false,false,false,false] ?_
                refine jic (i:=0) (N:=some 34) (v:=?_) (a':=?_) #[true,true,true,true,true,false,true,true,true,true,false,false,false,false,false] rfl rfl (jmb HT_.out HW_.out (by kernel_rfl)) (fun _ _ _ h=>h) (Or.inl ⟨by rfl,?_⟩) hHeld ?_ ?_
                rotate_left
                ·rintro w' ⟨s0,s1,s2,s3,s4,s5,s6,s7,s8,s9⟩
                 go_simp
                 with_reducible rfl
                rotate_left
                ·exact sa
                refine jic (i:=5) (N:=some 39) (v:=?_) (a':=?_) #[true,true,true,true,true,true,true,true,true,true,false,false,false,false,false] rfl rfl (jmb HT_.out HW_.out (by kernel_rfl)) (fun _ _ _ h=>h) (Or.inl ⟨by rfl,?_⟩) hHeld ?_ ?_
                rotate_left
                ·rintro w' ⟨s0,s1,s2,s3,s4,s5,s6,s7,s8,s9⟩
                 go_simp
                 with_reducible rfl
                rotate_left
                ·exact sa
                refine jic (i:=10) (N:=some 44) (v:=?_) (a':=?_) #[true,true,true,true,true,true,true,true,true,true,true,false,false,false,false] rfl rfl (jmb HT_.out HW_.out (by kernel_rfl)) (fun _ _ _ h=>h) (Or.inl ⟨by rfl,?_⟩) hHeld ?_ ?_
                rotate_left
                ·rintro w' ⟨s0,s1,s2,s3,s4,s5,s6,s7,s8,s9⟩
                 go_simp
                 with_reducible rfl
                rotate_left
                ·exact sa
                refine pq (i:=11) (N:=some 45) #[true,true,true,true,true,true,true,true,true,true,true,true,false,false,false] ?_
                refine pq (i:=12) (N:=some 46) #[true,true,true,true,true,true,true,true,true,true,true,true,true,false,false] ?_
                refine jic (i:=13) (N:=some 47) (v:=?_) (a':=?_) #[true,true,true,true,true,true,true,true,true,true,true,true,true,true,false] rfl rfl (jmb HT_.out HW_.out (by kernel_rfl)) (fun _ _ _ h=>h) (Or.inl ⟨by rfl,?_⟩) hHeld ?_ ?_
                rotate_left
                ·rintro w' ⟨s0,s1,s2,s3,s4,s5,s6,s7,s8,s9⟩
                 go_simp
                 with_reducible rfl
                rotate_left
                ·exact sa
                refine one_ (i:=14) (N:=some 48) #[true,true,true,true,true,true,true,true,true,true,true,true,true,true,true] rfl rfl (one_of HT_.out (by kernel_rfl)) (by decide) (fun K hK=>?_)
                refine goes_ Try.func71 (by kernel_rfl) rfl #[.agg #[.slice A0_0 l0_0.length c0_0], .int .i64 ((jb l1 a2).f2), .int .i64 ((jb l1 (rd t482 x8_1)).f2)] (by rfl) rfl rfl (aq) ?_
                with_reducible refine (jcc.calls kj10 _ _ l0_0 ((jb l1 a2).f2) ((jb l1 (rd t482 x8_1)).f2) false _ ?side1 ?side2 A23.out).mono ?_
                (case side1=>exact cq (Kd.jF HR0_0.out HB.out))
                (case side2=>exact HC0_0.out)
                rintro e w30 ⟨rfl,hb⟩
                have HS5_:=(hb.cell (World.block_lt_of_cell? _ _ (hHeld.2.2.2.2.2.1))).trans (hHeld.2.2.2.2.2.1)
                refine ⟨_,rfl,?_⟩
                replace HO_7:=am (Kd.jX (rq HO_7.out) hb)
                replace BK479:=am (jm (g:=gb479) (o:=.cells #[.slice A0_0 l0_0.length c0_0] 32 (0,0)) (kq BK479.out) hb)
                replace HB:=am (jd (Y13) hb)
                (try clear hb)
                (try clear hb2)
                (try clear hk)
                (try clear hi)
                refine hK.out _ _ ⟨(jDa BK479.out 0).trans rfl,((HB.out.cell (World.block_lt_of_cell? w _ hw486_0)).trans hw486_0),((HB.out.cell (World.block_lt_of_cell? w _ hw486_1)).trans hw486_1),((HB.out.cell (World.block_lt_of_cell? w _ hw486_2)).trans hw486_2),((HB.out.cell (World.block_lt_of_cell? w _ hw486_3)).trans hw486_3),HS5_,((HB.out.cell (World.block_lt_of_cell? w _ hw488_0)).trans hw488_0),((HB.out.cell (World.block_lt_of_cell? w _ hw488_1)).trans hw488_1),((HB.out.cell (World.block_lt_of_cell? w _ hw488_2)).trans hw488_2),((HB.out.cell (World.block_lt_of_cell? w _ hw488_3)).trans hw488_3)⟩ (fun hHeld=>?_)
                clear hK K
                refine norm_ (a':=?_) ?_ ?_
                rotate_left
                ·show Act.put _ (some 48) _=_
                 simp only [Act.put,List.setIfInBounds_toArray,List.set_cons_zero,List.set_cons_succ,jub,jvb]
                 rfl
                refine done_ (done_of HT_.out (by kernel_rfl)) ?_
                try go_wp2
                go_roundg kj10
                case measure=>have:=HK1.out;have:=HJ10.out;omega
                case rel=>exact ⟨(wrap64 (x8_1+1)),(sq),H',⟨by have:=HK1.out;have:=HJ10.out;omega⟩,⟨rq HO_7.out⟩,⟨kq BK479.out⟩,⟨Y13⟩⟩
              ·rw [if_neg c22] at H
               exact absurd H (by simp)
             ·rw [if_neg c21] at H
              exact absurd H (by simp)
            ·rw [if_neg c20] at H
             exact absurd H (by simp)
           ·rw [if_neg c19] at H
            exact absurd H (by simp)
          ·rw [if_neg c18] at H
           exact absurd H (by simp)
         ·rw [if_neg c17] at H
          exact absurd H (by simp)
        ·replace c16:=Bool.eq_false_iff.mpr c16
         subst c16
         have H1:(some false)=some r:=by rw [if_neg (show ¬ (false=true) by decide)] at H;exact H
         clear H
         have H:=H1
         clear H1
         obtain rfl:=Option.some.inj H
         go_wp2
         go_ret
         exact ⟨Y0,Y13⟩
   ·rw [if_neg c6] at H
    have c6b0:(((jb l1 a2).f1) == 8)=false:=beq_eq_false_iff_ne.mpr c6
    have c6b1:(((jb l1 a2).f1) != 8)=true:=bne_iff_ne.mpr c6
    obtain rfl:=Option.some.inj H
    go_enter Try.func43,Try.ntmps43
    go_wp2_with (first |((with_reducible refine jP (N:=3) rfl ?_);refine bE (N:=3) (cs:=#[.slice A0_0 l0_0.length c0_0]) (t:=32) ?_;intro gb479 hg w31 hbox hb;have BK479:=am (hbox);have GW479:=am ((Y1:w.heap.size≤gb479));have GE479:=am ((Y1:w.heap.size≤gb479));replace HB:=am (jd (bq) hb);clear hb hbox hg;have p480:0≤(a2:Int):=ozD (uq);have q480:a2<(l1.length:Int):=ozD (uq);obtain ⟨ad480,e480,hx480_0,hx480_1,hx480_2,hx480_3⟩:=jba HR1.out a2 p480 q480;cases e480;replace hx480_0:=cb HB.out hx480_0;replace hx480_1:=cb HB.out hx480_1;replace hx480_2:=cb HB.out hx480_2;replace hx480_3:=cb HB.out hx480_3;replace p480:=ezT p480;replace q480:=ezT q480))
    go_ret
    exact ⟨Y0,Y13⟩
  ·rw [if_neg c5] at H
   exact absurd H (by simp)
 ·rw [if_neg c4] at H
  exact absurd H (by simp)
def jua.l0 : Nat → List (S52) → List Int → Int → Int → Option (List Int)
 | 0,_,_,_,_=>none
 | k+1,x0,x5,x6,x7=>if x7≥0 then (if 0≤x7 then (if x7<(x0.length:Int) then (if ((jb x0 x7).f0)<x6 then (if x5.length<17592186044416 then (jua.l0 k x0 (x5 ++ [x7]) ((jb x0 x7).f0) (wrap64 (x7 - 1))) else (none)) else (jua.l0 k x0 x5 x6 (wrap64 (x7 - 1)))) else (none)) else (none)) else (some x5)
def jua.f (k : Nat) (l0 : List (S52)) (a1 : Int) : Option (List Int) := if 0 ≤ a1 then (if a1 < (l0.length : Int) then (jua.l0 k l0 (([] : List Int)) ((jb l0 a1).f0) (wrap64 (a1 - 1))) else (none)) else (none)
set_option maxHeartbeats 8000000 in
set_option maxRecDepth 100000 in
theorem jua.calls (k : Nat) (A0 : Option Addr) (c0 : Nat) (l0 : List (S52)) (a1 : Int) (r : List Int) (w : World) (hr0 : Kd.C k52 w A0 l0.length l0) (hc0 : l0.length ≤ c0) (h : jua.f k l0 a1 = some r) :
  Calls Try.prog 44 #[.slice A0 l0.length c0, .int .i64 a1] w fun e w'=>∃ v0_:Value,e=.returned (v0_)∧Kd.R (Kd.int .i64) 3 w' w.heap.size (fun _=>True) v0_ r∧Below w.heap.size w w':=by
 have HR0:=am hr0
 have HC0:=am hc0
 clear hr0 hc0
 have HB:=am (Below.refl w.heap.size w)
 have H:(if 0≤a1 then (if a1<(l0.length:Int) then (jua.l0 k l0 (([]:List Int)) ((jb l0 a1).f0) (wrap64 (a1 - 1))) else (none)) else (none))=some r:=h
 clear h
 obtain ⟨y490,hy490⟩:∃ y_:List Int,y_=(([]:List Int)):=⟨_,rfl⟩
 replace H:(if 0≤a1 then (if a1<(l0.length:Int) then (jua.l0 k l0 y490 ((jb l0 a1).f0) (wrap64 (a1 - 1))) else (none)) else (none))=some r:=by first |(rw [hy490];with_reducible exact H) |(have H2_:=(Option.bind_some _ _).symm.trans H;rw [hy490];with_reducible exact H2_) |(have H2_:=(Option.bind_some _ _).symm.trans H;with_reducible exact H2_) | with_reducible exact H |(rw [hy490];exact H) | exact H
 have Ny490:=am hy490
 clear hy490
 by_cases c3:0≤a1
 ·rw [if_pos c3] at H
  have c3b0:decide (0≤a1)=true:=dzT c3
  clear c3
  by_cases c4:a1<(l0.length:Int)
  ·rw [if_pos c4] at H
   have c4b0:decide (a1<(l0.length:Int))=true:=dzT c4
   clear c4
   have H':=am H
   clear H
   go_enter Try.func44,Try.ntmps44
   go_wp2_with (first |((with_reducible refine jP (N:=8) rfl ?_);refine Kd.R_lit (Kd.int .i64) _ 3 ?hg (N:=8) ?hd (xs:=([]:List Int)) (inner:=[]) (ok:=fun _=>True) (okp:=fun _=>True) ?hr ?hp (fun _ hk=>hk) trivial (Below.refl _ _) (Nat.le_refl _) (by simp) ?_;(case hd=>rfl);(case hg=>rfl);(case hr=>exact Y4);(case hp=>exact (Reps.none _ _));intro v491 w5 ho6 hb hg_ hnew_;clear hg_ hnew_;(first | rw [← Ny490.out] at ho6 |(simp only [Int.reduceToNat] at ho6;rw [← Ny490.out] at ho6));have HO492:=am (Kd.jRa ho6 (jH (bq)));replace HB:=am (jd (bq) hb);clear hb ho6;have p493:0≤(a1:Int):=ozD (uq);have q493:a1<(l0.length:Int):=ozD (uq);obtain ⟨ad493,e493,hx493_0,hx493_1,hx493_2,hx493_3⟩:=jba HR0.out a1 p493 q493;cases e493;replace hx493_0:=cb HB.out hx493_0;replace hx493_1:=cb HB.out hx493_1;replace hx493_2:=cb HB.out hx493_2;replace hx493_3:=cb HB.out hx493_3;replace p493:=ezT p493;replace q493:=ezT q493))
   go_loopg [5,6,7] k (fun kq v5 v6 v7 w'=>∃ (x5_1:List Int) (x6_1:Int) (x7_1:Int),v6=.int .i64 x6_1∧v7=.int .i64 x7_1∧jk (jua.l0 kq l0 x5_1 x6_1 x7_1=some r)∧jk (kq≤k)∧jk (Kd.R (Kd.int .i64) 3 w' w.heap.size (fun _=>True) v5 x5_1)∧jk (Below w.heap.size w w'))
   case atStart=>exact ⟨(y490),((jb l0 a1).f0),(wrap64 (a1 - 1)),(sq),(sq),H',⟨Nat.le_refl _⟩,⟨rq HO492.out⟩,⟨bq⟩⟩
   case round =>
    clear H'
    try clear p2
    try clear c3
    try clear c3b0
    try clear c4
    try clear c4b0
    try clear p4
    try clear q4
    try clear hx4
    try clear p6
    try clear hx493_0
    try clear hx493_1
    try clear hx493_2
    try clear hx493_3
    try clear p493
    try clear q493
    obtain ⟨x5_1,x6_1,x7_1,rfl,rfl,HA,HK1,HO_5,HB⟩:=hrel
    cases gk with
    | zero=>exact absurd HA.out (by simp [jua.l0])
    | succ k1 =>
     have H:=HA.out
     clear HA
     simp only [jua.l0] at H
     by_cases c7:x7_1≥0
     ·rw [if_pos c7] at H
      have c7b0:decide (0≤x7_1)=true:=dzT c7
      clear c7
      by_cases c8:0≤x7_1
      ·rw [if_pos c8] at H
       have c8b0:decide (0≤x7_1)=true:=dzT c8
       clear c8
       by_cases c9:x7_1<(l0.length:Int)
       ·rw [if_pos c9] at H
        have c9b0:decide (x7_1<(l0.length:Int))=true:=dzT c9
        clear c9
        by_cases c10:((jb l0 x7_1).f0)<x6_1
        ·rw [if_pos c10] at H
         have c10b0:decide (((jb l0 x7_1).f0)<x6_1)=true:=dzT c10
         clear c10
         by_cases c11:x5_1.length<17592186044416
         ·rw [if_pos c11] at H
          have LMc11:=am c11
          clear c11
          obtain ⟨y496,hy496⟩:∃ y_:List Int,y_=(x5_1 ++ [x7_1]):=⟨_,rfl⟩
          replace H:(jua.l0 k1 l0 y496 ((jb l0 x7_1).f0) (wrap64 (x7_1 - 1)))=some r:=by first |(rw [hy496];with_reducible exact H) |(have H2_:=(Option.bind_some _ _).symm.trans H;rw [hy496];with_reducible exact H2_) |(have H2_:=(Option.bind_some _ _).symm.trans H;with_reducible exact H2_) | with_reducible exact H |(rw [hy496];exact H) | exact H
          have Ny496:=am hy496
          clear hy496
          have H':=am H
          clear H
          have p494:0≤(x7_1:Int):=ozD (uq)
          have q494:x7_1<(l0.length:Int):=ozD (uq)
          obtain ⟨ad494,e494,hx494_0,hx494_1,hx494_2,hx494_3⟩:=jba HR0.out x7_1 p494 q494
          obtain rfl:ad493=ad494:=(by injection e494)
          replace hx494_0:=cb HB.out hx494_0
          replace hx494_1:=cb HB.out hx494_1
          replace hx494_2:=cb HB.out hx494_2
          replace hx494_3:=cb HB.out hx494_3
          replace p494:=ezT p494
          replace q494:=ezT q494
          have p495:0≤(x7_1:Int):=ozD (uq)
          have q495:x7_1<(l0.length:Int):=ozD (uq)
          obtain ⟨ad495,e495,hx495_0,hx495_1,hx495_2,hx495_3⟩:=jba HR0.out x7_1 p495 q495
          obtain rfl:ad493=ad495:=(by injection e495)
          replace hx495_0:=cb HB.out hx495_0
          replace hx495_1:=cb HB.out hx495_1
          replace hx495_2:=cb HB.out hx495_2
          replace hx495_3:=cb HB.out hx495_3
          replace p495:=ezT p495
          replace q495:=ezT q495
          go_wp2_with (first |((with_reducible refine jPa (b:=.append) (xs:=#[.tmp 32, .tmp 34]) rfl ?_);at_builtin;refine Kd.job (Kd.int .i64) (w0:=w) w.heap.size rfl (.tmp 32) (.tmp 34) 40 3 (.int .i64 0) 8 rfl Try.underlying40 info3 rfl (by decide) (by omega) u5 x5_1 x7_1 [.int .i64 x7_1] (fun _=>True) (fun _=>False) rfl rfl ?aP (fun _ hk=>hk.elim) ?aF ?aO ?aB ?aS ?aL ?_;(case aP=>exact rfl);(case aB=>exact (bq));(case aF=>exact (fun _ _=>trivial));(case aO=>exact (rq HO_5.out));(case aS=>exact (jH (bq)));(case aL=>have:=LMc11.out;omega);intro v497 w12 ho hb hg hat;rw [← Ny496.out] at ho;have n0_:=am (hb);have n1_:=am (ho);clear HB HO_5;have HB:=n0_;have HO498:=n1_;clear n0_ n1_ ho hb hg hat))
          go_roundg k1
          case measure=>have:=HK1.out;omega
          case rel=>exact ⟨(y496),((jb l0 x7_1).f0),(wrap64 (x7_1 - 1)),(sq),(sq),H',⟨by have:=HK1.out;omega⟩,⟨rq HO498.out⟩,⟨bq⟩⟩
         ·rw [if_neg c11] at H
          exact absurd H (by simp)
        ·rw [if_neg c10] at H
         have c10b0:decide (((jb l0 x7_1).f0)<x6_1)=false:=dzF c10
         clear c10
         have H':=am H
         clear H
         have p494:0≤(x7_1:Int):=ozD (uq)
         have q494:x7_1<(l0.length:Int):=ozD (uq)
         obtain ⟨ad494,e494,hx494_0,hx494_1,hx494_2,hx494_3⟩:=jba HR0.out x7_1 p494 q494
         obtain rfl:ad493=ad494:=(by injection e494)
         replace hx494_0:=cb HB.out hx494_0
         replace hx494_1:=cb HB.out hx494_1
         replace hx494_2:=cb HB.out hx494_2
         replace hx494_3:=cb HB.out hx494_3
         replace p494:=ezT p494
         replace q494:=ezT q494
         go_wp2
         go_roundg k1
         case measure=>have:=HK1.out;omega
         case rel=>exact ⟨(x5_1),(x6_1),(wrap64 (x7_1 - 1)),(sq),(sq),H',⟨by have:=HK1.out;omega⟩,⟨rq HO_5.out⟩,⟨bq⟩⟩
       ·rw [if_neg c9] at H
        exact absurd H (by simp)
      ·rw [if_neg c8] at H
       exact absurd H (by simp)
     ·rw [if_neg c7] at H
      have c7b0:decide (0≤x7_1)=false:=dzF c7
      clear c7
      obtain rfl:=Option.some.inj H
      go_wp2
      go_ret
      exact ⟨_,Y0,rq HO_5.out,bq⟩
  ·rw [if_neg c4] at H
   exact absurd H (by simp)
 ·rw [if_neg c3] at H
  exact absurd H (by simp)
end Go.Proofs.Ytkhiiiddbmgiaaa.P
end
