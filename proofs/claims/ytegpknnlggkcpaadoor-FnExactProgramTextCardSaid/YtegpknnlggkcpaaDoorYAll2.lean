/- One part of the proofs on this program: functions of the program as plain functions, that the code comes to them, and facts on them. -/
import Derived.Test.YtegpknnlggkcpaaDoorYAll1
import Derived.Test.YtegpknnlggkcpaaDoorYWAuto
section
namespace Go.Proofs.YtegpknnlggkcpaaDoor.P
open Go.RowKit Go.Proofs.YtegpknnlggkcpaaDoorW.PrintWords Go.Proofs.YtegpknnlggkcpaaDoorW.PrintLast Go.Proofs.YtegpknnlggkcpaaDoorW.PrintMore
attribute [local go_sem] jaa jY jna jma jR jQ jZ jX jh
set_option linter.unusedVariables false
set_option linter.unusedSimpArgs false
def jg.inB (a lo hi : Int) : Bool := decide (lo ≤ a) && decide (a ≤ hi)
theorem jib (a lo hi : Int) : jq.f a lo hi = some (jg.inB a lo hi) := by
 unfold jq.f jg.inB
 by_cases h:lo≤a
 ·rw [if_pos h];simp [h]
 ·rw [if_neg h];simp [h]
theorem spec_opens_eq (a : Int) : jHb.f a = some (jg.inB a 7 12) := by
 unfold jHb.f
 rw [jib];rfl
theorem spec_follows_eq (a : Int) : jNa.f a = some (jg.inB a 8 10) := by
 unfold jNa.f
 rw [jib];rfl
def jg.off (p : List S42) (i : Int) (x : S42) : Bool :=
 if (if i=0 then decide (x.f0≠0) else if (wrap64 ((jb p (i - 1)).f0+1))<x.f0 then true else (jg.inB (jb p (i - 1)).f1 7 12 != (x.f0 == wrap64 ((jb p (i - 1)).f0+1)))) then true
 else decide (i+1=(p.length:Int)) && jg.inB x.f1 7 12
def jg.f (k : Nat) (l0_0 : List S63) (l1 : List S42) (a2 : Int) : Option Bool :=
 if 0≤a2 then if a2<(l1.length:Int) then
  (jV.f k l0_0 (jb l1 a2).f0 (jb l1 a2).f1 (jb l1 a2).f2 (jb l1 a2).f3).bind fun v =>
  if v=false then some false else if jg.inB (jb l1 a2).f0 0 5=false then some false else
  if jg.off l1 a2 (jb l1 a2) then some false else
  (if (jb l1 a2).f1=7 then jm.f k l1 a2 else some true).bind fun c1=>if c1=false then some false else
  (if (jb l1 a2).f1=5∨(jb l1 a2).f1=6 then jua.f k l1 a2 else some true).bind fun c2=>if c2=false then some false else
  if jg.inB (jb l1 a2).f1 8 10=false then some true else
  (jza.f k l1 a2).bind fun h=>if 0≤h then if h<(l1.length:Int) then some ((jb l1 h).f1 == 7 || jg.inB (jb l1 h).f1 8 10) else none else some false
 else none else none
def VX (W : World) (BX : Nat) (x : S42) : Prop := W.heap[BX]? = some (.cells #[.int .i64 x.f0, .int .i64 x.f1, .int .i64 x.f2, .int .i64 x.f3] 42 (0, 0))
theorem VX.below {W W' : World} {BX : Nat} {x : S42} (h : VX W BX x) (hb : Below W.heap.size W W') : VX W' BX x := (hb.block _ (jEa h)).trans h
theorem VX.cells {W : World} {BX : Nat} {x : S42} (h : VX W BX x) : W.cell? ⟨BX, 0, none⟩ = some (.int .i64 x.f0) ∧ W.cell? ⟨BX, 1, none⟩ = some (.int .i64 x.f1) ∧ W.cell? ⟨BX, 2, none⟩ = some (.int .i64 x.f2) ∧ W.cell? ⟨BX, 3, none⟩ = some (.int .i64 x.f3) :=
 ⟨(joa h 0).trans rfl,(joa h 1).trans rfl,(joa h 2).trans rfl,(joa h 3).trans rfl⟩
set_option maxHeartbeats 8000000 in
set_option maxRecDepth 100000 in
theorem jg.calls (k : Nat) (A0_0 : Option Addr) (c0_0 : Nat) (l0_0 : List S63) (A1 : Option Addr) (c1 : Nat) (l1 : List S42) (a2 : Int) (r : Bool) (w : World) (hr0_0 : Kd.C k63 w A0_0 l0_0.length l0_0) (hc0_0 : l0_0.length ≤ c0_0) (hr1 : Kd.C k42 w A1 l1.length l1) (hc1 : l1.length ≤ c1) (h : jg.f k l0_0 l1 a2 = some r) :
  Calls Tryd.prog 24 #[.agg #[.slice A0_0 l0_0.length c0_0], .slice A1 l1.length c1, .int .i64 a2] w fun e w'=>e=.returned (.bool r)∧Below w.heap.size w w':=by
 have hu31:=Tryd.underlying31
 have hu42:=Tryd.underlying42
 have hm:l1.length≤9223372036854775807:=Kd.C_max hr1
 unfold jg.f at h
 by_cases h0:0≤a2
 ·rw [if_pos h0] at h
  by_cases h1:a2<(l1.length:Int)
  ·rw [if_pos h1] at h
   obtain ⟨v,hv,h⟩:=bzS h
   have HN:=am (fun W (hb:Below w.heap.size w W)=>jV.calls k A0_0 c0_0 l0_0 _ _ _ _ v W (Kd.jH hr0_0 hb) hc0_0 hv)
   clear hv
   obtain ⟨ad,rfl,hx0,hx1,hx2,hx3⟩:=jla hr1 a2 h0 h1
   have HR1:=am hr1
   clear hr0_0 hr1
   generalize hgx:jb l1 a2=x at h HN hx0 hx1 hx2 hx3
   clear hgx
   have X1:=am (show VX ((w.alloc (.cells #[.slice A0_0 l0_0.length c0_0] 31)).alloc (.cells #[.int .i64 x.f0, .int .i64 x.f1, .int .i64 x.f2, .int .i64 x.f3] 42)) (w.heap.size+1) x by have:=heap_alloc_new (w.alloc (.cells #[.slice A0_0 l0_0.length c0_0] 31)) (.cells #[.int .i64 x.f0, .int .i64 x.f1, .int .i64 x.f2, .int .i64 x.f3] 42);simpa [VX] using this)
   have HB1:=am (((Below.refl w.heap.size w).alloc (Nat.le_refl _) (.cells #[.slice A0_0 l0_0.length c0_0] 31)).alloc (by simp) (.cells #[.int .i64 x.f0, .int .i64 x.f1, .int .i64 x.f2, .int .i64 x.f3] 42))
   have hbt:=(Below.refl w.heap.size w).alloc (Nat.le_refl _) (.cells #[.slice A0_0 l0_0.length c0_0] 31)
   replace hx0:=jk hbt hx0
   replace hx1:=jk hbt hx1
   replace hx2:=jk hbt hx2
   replace hx3:=jk hbt hx3
   clear hbt
   have p0:=ezT h0
   have p1:=ezT h1
   cases v with
   | false =>
    obtain rfl:false=r:=by simpa using h
    clear h
    go_enter Tryd.func24,Tryd.ntmps24
    go_wp2_with (first |(go_at_call 38;refine (HN.out _ HB1.out).mono ?_;rintro e w2 ⟨rfl,hb2⟩;have X2:=am (VX.below X1.out hb2);have HB2:=am (jK HB1.out HB1.out.size hb2);clear hb2;obtain ⟨e0,e1,e2,e3⟩:=VX.cells X2.out))
    go_ret
    exact ⟨rfl,HB2.out⟩
   | true =>
    simp only [Bool.true_eq_false,if_false] at h
    cases h5:jg.inB x.f0 0 5 with
    | false =>
     have H5:=am h5
     rw [h5,if_pos rfl] at h
     obtain rfl:false=r:=by simpa using h
     clear h h5
     go_enter Tryd.func24,Tryd.ntmps24
     go_wp2_with (first |(go_at_call 38;refine (HN.out _ HB1.out).mono ?_;rintro e w2 ⟨rfl,hb2⟩;have X2:=am (VX.below X1.out hb2);have HB2:=am (jK HB1.out HB1.out.size hb2);clear hb2;obtain ⟨e0,e1,e2,e3⟩:=VX.cells X2.out) |(go_at_call 39;refine (jq.calls _ _ _ _ _ (jib _ _ _)).mono ?_;rintro e w3 ⟨rfl,hd3⟩;have hb3:=hd3.below;clear hd3;have X3:=am (VX.below X2.out hb3);have HB3:=am (jK HB2.out HB2.out.size hb3);clear hb3 e0 e1 e2 e3;obtain ⟨e0,e1,e2,e3⟩:=VX.cells X3.out;rw [H5.out]))
     go_ret
     exact ⟨rfl,HB3.out⟩
    | true =>
     have H5:=am h5
     rw [h5] at h
     simp only [Bool.true_eq_false,if_false] at h
     clear h5
     have HH:=am h
     clear h
     go_enter Tryd.func24,Tryd.ntmps24
     go_upto_region 4 with (first |(go_at_call 38;refine (HN.out _ HB1.out).mono ?_;rintro e w2 ⟨rfl,hb2⟩;have X2:=am (VX.below X1.out hb2);have HB2:=am (jK HB1.out HB1.out.size hb2);clear hb2;obtain ⟨e0,e1,e2,e3⟩:=VX.cells X2.out) |(go_at_call 39;refine (jq.calls _ _ _ _ _ (jib _ _ _)).mono ?_;rintro e w3 ⟨rfl,hd3⟩;have hb3:=hd3.below;clear hd3;have X3:=am (VX.below X2.out hb3);have HB3:=am (jK HB2.out HB2.out.size hb3);clear hb3 e0 e1 e2 e3;obtain ⟨e0,e1,e2,e3⟩:=VX.cells X3.out;rw [H5.out]))
     go_cut [77] (fun v77 wc=>v77=.bool (jg.off l1 a2 x)∧jD (VX wc (w.heap.size+1) x)∧jD (Below w.heap.size w wc))
     case first =>
      clear HH
      have HO:=am (fun (a:Int) (b:Bool) (hb:jg.inB a 7 12=b) W=>(jHb.calls a b W (by rw [spec_opens_eq,hb])).mono fun e w' h=>(⟨h.1,h.2.out⟩:e=.returned (.bool b)∧∃ m,w'=W.drewN m))
      have hw2:IntKind.i64.wrap (a2+1)=a2+1:=IntWalk.i64_in _ (by omega)
      by_cases z0:a2=0
      ·have b0:(a2 == 0)=true:=beq_iff_eq.2 z0
       have b0':decide (0<a2)=false:=dzF (by omega)
       by_cases zx:x.f0=0
       ·have b1:(x.f0 != 0)=false:=by simpa using zx
        have HE:=am (by unfold jg.off;rw [if_pos z0];simp [zx]:jg.off l1 a2 x=(decide (a2+1=(l1.length:Int)) && jg.inB x.f1 7 12))
        clear z0
        clear zx
        by_cases zl:a2+1=(l1.length:Int)
        ·have b3:(a2+1 == (l1.length:Int))=true:=by rw [beq_iff_eq];omega
         cases hx:jg.inB x.f1 7 12 with
         | true =>
          have HX:=am hx
          have HF:=am (by rw [HE.out,hx,dzT zl];rfl:jg.off l1 a2 x=true)
          clear zl hx HE
          go_big_quiet ((go_at_call 40;exact Calls.quiet_of (HO.out x.f1 _ HX.out _)))
          go_wp2
          go_meet
          case rel=>exact ⟨by rw [HF.out],X3,⟨je HB3.out _⟩⟩
         | false =>
          have HX:=am hx
          have HF:=am (by rw [HE.out,hx];simp:jg.off l1 a2 x=false)
          clear zl hx HE
          go_big_quiet ((go_at_call 40;exact Calls.quiet_of (HO.out x.f1 _ HX.out _)))
          go_wp2
          go_meet
          case rel=>exact ⟨by rw [HF.out],X3,⟨je HB3.out _⟩⟩
        ·have b3:(a2+1 == (l1.length:Int))=false:=by rw [beq_eq_false_iff_ne];omega
         have HF:=am (by rw [HE.out,dzF zl];rfl:jg.off l1 a2 x=false)
         clear zl HE
         go_big_quiet (fail)
         go_wp2
         go_meet
         case rel=>exact ⟨by rw [HF.out],X3,⟨je HB3.out _⟩⟩
       ·have b1:(x.f0 != 0)=true:=by simpa using zx
        have HF:=am (by unfold jg.off;rw [if_pos z0];simp [zx]:jg.off l1 a2 x=true)
        clear zx z0
        go_big_quiet (fail)
        go_wp2
        go_meet
        case rel=>exact ⟨by rw [HF.out],X3,⟨je HB3.out _⟩⟩
      ·have b0:(a2 == 0)=false:=beq_eq_false_iff_ne.2 z0
       have b0':decide (0<a2)=true:=dzT (by omega)
       have q0:0≤a2 - 1:=by omega
       have q1:a2 - 1<(l1.length:Int):=by omega
       obtain ⟨j,hj⟩:∃ j,a2 - 1=j:=⟨_,rfl⟩
       rw [hj] at q0 q1
       obtain ⟨ad',he,y0,y1,y2,y3⟩:=jla HR1.out j q0 q1
       cases he
       replace y0:=jk HB3.out y0
       replace y1:=jk HB3.out y1
       clear y2 y3
       replace q0:=ezT q0
       replace q1:=ezT q1
       have HD:=am (by unfold jg.off;rw [if_neg z0]:jg.off l1 a2 x=if (if (wrap64 ((jb l1 (a2 - 1)).f0+1))<x.f0 then true else (jg.inB (jb l1 (a2 - 1)).f1 7 12 != (x.f0 == wrap64 ((jb l1 (a2 - 1)).f0+1)))) then true else decide (a2+1=(l1.length:Int)) && jg.inB x.f1 7 12)
       clear z0
       rw [hj] at HD
       generalize jb l1 j=y at HD y0 y1
       generalize hz:wrap64 (y.f0+1)=z at HD
       have HZ:=am hz
       by_cases zt:z<x.f0
       ·have b4:decide (z<x.f0)=true:=dzT zt
        have HF:=am (by rw [HD.out];simp [zt]:jg.off l1 a2 x=true)
        clear zt HD
        go_big_quiet (fail)
        go_wp2
        go_meet
        case rel=>exact ⟨by rw [HF.out],X3,⟨je HB3.out _⟩⟩
       ·have b4:decide (z<x.f0)=false:=dzF zt
        cases hy:jg.inB y.f1 7 12 with
        | true =>
         have HY:=am hy
         by_cases ze:x.f0=z
         ·have b5:(x.f0 == z)=true:=beq_iff_eq.2 ze
          have HE:=am (by rw [HD.out,hy,b5];simp [zt]:jg.off l1 a2 x=(decide (a2+1=(l1.length:Int)) && jg.inB x.f1 7 12))
          clear zt HD hy ze
          by_cases zl:a2+1=(l1.length:Int)
          ·have b3:(a2+1 == (l1.length:Int))=true:=by rw [beq_iff_eq];omega
           cases hx:jg.inB x.f1 7 12 with
           | true =>
            have HX:=am hx
            have HF:=am (by rw [HE.out,hx,dzT zl];rfl:jg.off l1 a2 x=true)
            clear zl hx HE
            go_big_quiet (first |(go_at_call 40;exact Calls.quiet_of (HO.out y.f1 _ HY.out _)) |(go_at_call 40;exact Calls.quiet_of (HO.out x.f1 _ HX.out _)))
            go_wp2
            go_meet
            case rel=>exact ⟨by rw [HF.out],X3,⟨je HB3.out _⟩⟩
           | false =>
            have HX:=am hx
            have HF:=am (by rw [HE.out,hx];simp:jg.off l1 a2 x=false)
            clear zl hx HE
            go_big_quiet (first |(go_at_call 40;exact Calls.quiet_of (HO.out y.f1 _ HY.out _)) |(go_at_call 40;exact Calls.quiet_of (HO.out x.f1 _ HX.out _)))
            go_wp2
            go_meet
            case rel=>exact ⟨by rw [HF.out],X3,⟨je HB3.out _⟩⟩
          ·have b3:(a2+1 == (l1.length:Int))=false:=by rw [beq_eq_false_iff_ne];omega
           have HF:=am (by rw [HE.out,dzF zl];rfl:jg.off l1 a2 x=false)
           clear zl HE
           go_big_quiet ((go_at_call 40;exact Calls.quiet_of (HO.out y.f1 _ HY.out _)))
           go_wp2
           go_meet
           case rel=>exact ⟨by rw [HF.out],X3,⟨je HB3.out _⟩⟩
         ·have b5:(x.f0 == z)=false:=beq_eq_false_iff_ne.2 ze
          have HF:=am (by rw [HD.out,hy,b5];simp:jg.off l1 a2 x=true)
          clear zt HD hy ze
          go_big_quiet ((go_at_call 40;exact Calls.quiet_of (HO.out y.f1 _ HY.out _)))
          go_wp2
          go_meet
          case rel=>exact ⟨by rw [HF.out],X3,⟨je HB3.out _⟩⟩
        | false =>
         have HY:=am hy
         by_cases ze:x.f0=z
         ·have b5:(x.f0 == z)=true:=beq_iff_eq.2 ze
          have HF:=am (by rw [HD.out,hy,b5];simp:jg.off l1 a2 x=true)
          clear zt HD hy ze
          go_big_quiet ((go_at_call 40;exact Calls.quiet_of (HO.out y.f1 _ HY.out _)))
          go_wp2
          go_meet
          case rel=>exact ⟨by rw [HF.out],X3,⟨je HB3.out _⟩⟩
         ·have b5:(x.f0 == z)=false:=beq_eq_false_iff_ne.2 ze
          have HE:=am (by rw [HD.out,hy,b5];simp [zt]:jg.off l1 a2 x=(decide (a2+1=(l1.length:Int)) && jg.inB x.f1 7 12))
          clear zt HD hy ze
          by_cases zl:a2+1=(l1.length:Int)
          ·have b3:(a2+1 == (l1.length:Int))=true:=by rw [beq_iff_eq];omega
           cases hx:jg.inB x.f1 7 12 with
           | true =>
            have HX:=am hx
            have HF:=am (by rw [HE.out,hx,dzT zl];rfl:jg.off l1 a2 x=true)
            clear zl hx HE
            go_big_quiet (first |(go_at_call 40;exact Calls.quiet_of (HO.out y.f1 _ HY.out _)) |(go_at_call 40;exact Calls.quiet_of (HO.out x.f1 _ HX.out _)))
            go_wp2
            go_meet
            case rel=>exact ⟨by rw [HF.out],X3,⟨je HB3.out _⟩⟩
           | false =>
            have HX:=am hx
            have HF:=am (by rw [HE.out,hx];simp:jg.off l1 a2 x=false)
            clear zl hx HE
            go_big_quiet (first |(go_at_call 40;exact Calls.quiet_of (HO.out y.f1 _ HY.out _)) |(go_at_call 40;exact Calls.quiet_of (HO.out x.f1 _ HX.out _)))
            go_wp2
            go_meet
            case rel=>exact ⟨by rw [HF.out],X3,⟨je HB3.out _⟩⟩
          ·have b3:(a2+1 == (l1.length:Int))=false:=by rw [beq_eq_false_iff_ne];omega
           have HF:=am (by rw [HE.out,dzF zl];rfl:jg.off l1 a2 x=false)
           clear zl HE
           go_big_quiet ((go_at_call 40;exact Calls.quiet_of (HO.out y.f1 _ HY.out _)))
           go_wp2
           go_meet
           case rel=>exact ⟨by rw [HF.out],X3,⟨je HB3.out _⟩⟩
     case rest =>
      obtain ⟨rfl,X4,HB4⟩:=hcut
      clear X1 HB1
      have h:=HH.out
      clear HH
      obtain ⟨e0,e1,e2,e3⟩:=VX.cells X4.out
      have tok:True:=trivial
      have HO:=am (fun (a:Int) (b:Bool) (hb:jg.inB a 8 10=b) W=>jNa.calls a b W (by rw [spec_follows_eq,hb]))
      cases ho:jg.off l1 a2 x with
      | true =>
       rw [ho,if_pos rfl] at h
       obtain rfl:false=r:=by simpa using h
       clear h ho
       go_wp2
       go_ret
       exact ⟨rfl,HB4.out⟩
      | false =>
       rw [ho] at h
       simp only [Bool.false_eq_true,if_false] at h
       clear ho
       obtain ⟨c,hc,h⟩:=bzS h
       by_cases z7:x.f1=7
       ·rw [if_pos z7] at hc
        have HC:=am (fun W (hb:Below w.heap.size w W)=>jm.calls k _ c1 l1 a2 c W (Kd.jH HR1.out hb) hc1 hc)
        have b7:(x.f1 == 7)=true:=beq_iff_eq.2 z7
        have b5:(x.f1 == 5)=false:=beq_eq_false_iff_ne.2 (by omega)
        have b6:(x.f1 == 6)=false:=beq_eq_false_iff_ne.2 (by omega)
        cases c with
        | false =>
         obtain rfl:false=r:=by simpa using h
         clear h hc z7
         go_wp2_with (first |(go_at_call 41;refine (HC.out _ HB4.out).mono ?_;rintro e w5 ⟨rfl,hb5⟩;have X5:=am (VX.below X4.out hb5);have HB5:=am (jK HB4.out HB4.out.size hb5);clear hb5 e0 e1 e2 e3;obtain ⟨e0,e1,e2,e3⟩:=VX.cells X5.out))
         go_ret
         exact ⟨rfl,HB5.out⟩
        | true =>
         have hx:jg.inB x.f1 8 10=false:=by unfold jg.inB;rw [z7];rfl
         have HX:=am hx
         obtain rfl:true=r:=by simpa [z7,show jg.inB 7 8 10=false from rfl] using h
         clear h hc z7 hx
         go_wp2_with (first |(go_at_call 41;refine (HC.out _ HB4.out).mono ?_;rintro e w5 ⟨rfl,hb5⟩;have X5:=am (VX.below X4.out hb5);have HB5:=am (jK HB4.out HB4.out.size hb5);clear hb5 e0 e1 e2 e3;obtain ⟨e0,e1,e2,e3⟩:=VX.cells X5.out) |(go_at_call 43;have tk:=tok;clear tok;refine (HO.out x.f1 _ HX.out _).mono ?_;rintro e w6 ⟨rfl,hd6⟩;have hb6:=hd6.below;clear hd6;have X6:=am (VX.below X5.out hb6);have HB6:=am (jK HB5.out HB5.out.size hb6);clear hb6 e0 e1 e2 e3;obtain ⟨e0,e1,e2,e3⟩:=VX.cells X6.out))
         go_ret
         exact ⟨rfl,HB6.out⟩
       ·rw [if_neg z7] at hc
        obtain rfl:true=c:=by simpa using hc
        clear hc
        have b7:(x.f1 == 7)=false:=beq_eq_false_iff_ne.2 z7
        simp only [Bool.true_eq_false,if_false] at h
        obtain ⟨c,hc,h⟩:=bzS h
        by_cases z56:x.f1=5∨x.f1=6
        ·rw [if_pos z56] at hc
         have HC:=am (fun W (hb:Below w.heap.size w W)=>jua.calls k _ c1 l1 a2 c W (Kd.jH HR1.out hb) hc1 hc)
         have hx:jg.inB x.f1 8 10=false:=by rcases z56 with z | z <;> (unfold jg.inB;rw [z];rfl)
         have HX:=am hx
         cases c with
         | false =>
          obtain rfl:false=r:=by simpa using h
          clear h hc hx
          rcases z56 with z | z
          ·have b5:(x.f1 == 5)=true:=beq_iff_eq.2 z
           clear z z7
           go_wp2_with (first |(go_at_call 42;refine (HC.out _ HB4.out).mono ?_;rintro e w5 ⟨rfl,hd5⟩;have hb5:=hd5.below;clear hd5;have X5:=am (VX.below X4.out hb5);have HB5:=am (jK HB4.out HB4.out.size hb5);clear hb5 e0 e1 e2 e3;obtain ⟨e0,e1,e2,e3⟩:=VX.cells X5.out))
           go_ret
           exact ⟨rfl,HB5.out⟩
          ·have b5:(x.f1 == 5)=false:=beq_eq_false_iff_ne.2 (by omega)
           have b6:(x.f1 == 6)=true:=beq_iff_eq.2 z
           clear z z7
           go_wp2_with (first |(go_at_call 42;refine (HC.out _ HB4.out).mono ?_;rintro e w5 ⟨rfl,hd5⟩;have hb5:=hd5.below;clear hd5;have X5:=am (VX.below X4.out hb5);have HB5:=am (jK HB4.out HB4.out.size hb5);clear hb5 e0 e1 e2 e3;obtain ⟨e0,e1,e2,e3⟩:=VX.cells X5.out))
           go_ret
           exact ⟨rfl,HB5.out⟩
         | true =>
          obtain rfl:true=r:=by simpa [hx] using h
          clear h hc hx
          rcases z56 with z | z
          ·have b5:(x.f1 == 5)=true:=beq_iff_eq.2 z
           clear z z7
           go_wp2_with (first |(go_at_call 42;refine (HC.out _ HB4.out).mono ?_;rintro e w5 ⟨rfl,hd5⟩;have hb5:=hd5.below;clear hd5;have X5:=am (VX.below X4.out hb5);have HB5:=am (jK HB4.out HB4.out.size hb5);clear hb5 e0 e1 e2 e3;obtain ⟨e0,e1,e2,e3⟩:=VX.cells X5.out) |(go_at_call 43;have tk:=tok;clear tok;refine (HO.out x.f1 _ HX.out _).mono ?_;rintro e w6 ⟨rfl,hd6⟩;have hb6:=hd6.below;clear hd6;have X6:=am (VX.below X5.out hb6);have HB6:=am (jK HB5.out HB5.out.size hb6);clear hb6 e0 e1 e2 e3;obtain ⟨e0,e1,e2,e3⟩:=VX.cells X6.out))
           go_ret
           exact ⟨rfl,HB6.out⟩
          ·have b5:(x.f1 == 5)=false:=beq_eq_false_iff_ne.2 (by omega)
           have b6:(x.f1 == 6)=true:=beq_iff_eq.2 z
           clear z z7
           go_wp2_with (first |(go_at_call 42;refine (HC.out _ HB4.out).mono ?_;rintro e w5 ⟨rfl,hd5⟩;have hb5:=hd5.below;clear hd5;have X5:=am (VX.below X4.out hb5);have HB5:=am (jK HB4.out HB4.out.size hb5);clear hb5 e0 e1 e2 e3;obtain ⟨e0,e1,e2,e3⟩:=VX.cells X5.out) |(go_at_call 43;have tk:=tok;clear tok;refine (HO.out x.f1 _ HX.out _).mono ?_;rintro e w6 ⟨rfl,hd6⟩;have hb6:=hd6.below;clear hd6;have X6:=am (VX.below X5.out hb6);have HB6:=am (jK HB5.out HB5.out.size hb6);clear hb6 e0 e1 e2 e3;obtain ⟨e0,e1,e2,e3⟩:=VX.cells X6.out))
           go_ret
           exact ⟨rfl,HB6.out⟩
        ·rw [if_neg z56] at hc
         obtain rfl:true=c:=by simpa using hc
         clear hc
         have b5:(x.f1 == 5)=false:=beq_eq_false_iff_ne.2 (fun z=>z56 (.inl z))
         have b6:(x.f1 == 6)=false:=beq_eq_false_iff_ne.2 (fun z=>z56 (.inr z))
         simp only [Bool.true_eq_false,if_false] at h
         clear z7 z56
         cases hx:jg.inB x.f1 8 10 with
         | false =>
          have HX:=am hx
          rw [hx,if_pos rfl] at h
          obtain rfl:true=r:=by simpa using h
          clear h hx
          go_wp2_with (first |(go_at_call 43;have tk:=tok;clear tok;refine (HO.out x.f1 _ HX.out _).mono ?_;rintro e w6 ⟨rfl,hd6⟩;have hb6:=hd6.below;clear hd6;have X6:=am (VX.below X4.out hb6);have HB6:=am (jK HB4.out HB4.out.size hb6);clear hb6 e0 e1 e2 e3;obtain ⟨e0,e1,e2,e3⟩:=VX.cells X6.out))
          go_ret
          exact ⟨rfl,HB6.out⟩
         | true =>
          have HX:=am hx
          rw [hx] at h
          simp only [Bool.true_eq_false,if_false] at h
          clear hx
          obtain ⟨q,hq,h⟩:=bzS h
          have HQ:=am (fun W (hb:Below w.heap.size w W)=>jza.calls k _ c1 l1 a2 q W (Kd.jH HR1.out hb) hc1 hq)
          clear hq
          by_cases q0:0≤q
          ·rw [if_pos q0] at h
           have q0b:=dzT q0
           by_cases q1:q<(l1.length:Int)
           ·rw [if_pos q1] at h
            obtain ⟨ad',he,y0,y1,y2,y3⟩:=jla HR1.out q q0 q1
            cases he
            generalize jb l1 q=y at h y0 y1
            have HK:=am y1
            clear y0 y1 y2 y3
            have q0:=ezT q0
            have q1:=ezT q1
            by_cases zy:y.f1=7
            ·have by7:(y.f1 == 7)=true:=beq_iff_eq.2 zy
             obtain rfl:true=r:=by simpa [zy] using h
             clear h zy
             go_wp2_with (first |(go_at_call 43;have tk:=tok;clear tok;refine (HO.out x.f1 _ HX.out _).mono ?_;rintro e w6 ⟨rfl,hd6⟩;have hb6:=hd6.below;clear hd6;have X6:=am (VX.below X4.out hb6);have HB6:=am (jK HB4.out HB4.out.size hb6);clear hb6 e0 e1 e2 e3;obtain ⟨e0,e1,e2,e3⟩:=VX.cells X6.out) |(go_at_call 44;refine (HQ.out _ HB6.out).mono ?_;rintro e w7 ⟨rfl,hd7⟩;have hb7:=hd7.below;clear hd7;have X7:=am (VX.below X6.out hb7);have HB7:=am (jK HB6.out HB6.out.size hb7);clear hb7 e0 e1 e2 e3;obtain ⟨e0,e1,e2,e3⟩:=VX.cells X7.out;have y1:=jk HB7.out HK.out))
             go_ret
             exact ⟨rfl,HB7.out⟩
            ·have by7:(y.f1 == 7)=false:=beq_eq_false_iff_ne.2 zy
             cases hy:jg.inB y.f1 8 10 with
             | true =>
              have HY:=am hy
              obtain rfl:true=r:=by rw [hy,by7] at h;simpa using h
              clear h hy zy
              go_wp2_with (first |(go_at_call 43;have tk:=tok;clear tok;refine (HO.out x.f1 _ HX.out _).mono ?_;rintro e w6 ⟨rfl,hd6⟩;have hb6:=hd6.below;clear hd6;have X6:=am (VX.below X4.out hb6);have HB6:=am (jK HB4.out HB4.out.size hb6);clear hb6 e0 e1 e2 e3;obtain ⟨e0,e1,e2,e3⟩:=VX.cells X6.out) |(go_at_call 44;refine (HQ.out _ HB6.out).mono ?_;rintro e w7 ⟨rfl,hd7⟩;have hb7:=hd7.below;clear hd7;have X7:=am (VX.below X6.out hb7);have HB7:=am (jK HB6.out HB6.out.size hb7);clear hb7 e0 e1 e2 e3;obtain ⟨e0,e1,e2,e3⟩:=VX.cells X7.out;have y1:=jk HB7.out HK.out) |(go_at_call 43;refine (HO.out y.f1 _ HY.out _).mono ?_;rintro e w8 ⟨rfl,hd8⟩;have hb8:=hd8.below;clear hd8;have X8:=am (VX.below X7.out hb8);have HB8:=am (jK HB7.out HB7.out.size hb8);clear hb8 e0 e1 e2 e3;obtain ⟨e0,e1,e2,e3⟩:=VX.cells X8.out))
              go_ret
              exact ⟨rfl,HB8.out⟩
             | false =>
              have HY:=am hy
              obtain rfl:false=r:=by rw [hy,by7] at h;simpa using h
              clear h hy zy
              go_wp2_with (first |(go_at_call 43;have tk:=tok;clear tok;refine (HO.out x.f1 _ HX.out _).mono ?_;rintro e w6 ⟨rfl,hd6⟩;have hb6:=hd6.below;clear hd6;have X6:=am (VX.below X4.out hb6);have HB6:=am (jK HB4.out HB4.out.size hb6);clear hb6 e0 e1 e2 e3;obtain ⟨e0,e1,e2,e3⟩:=VX.cells X6.out) |(go_at_call 44;refine (HQ.out _ HB6.out).mono ?_;rintro e w7 ⟨rfl,hd7⟩;have hb7:=hd7.below;clear hd7;have X7:=am (VX.below X6.out hb7);have HB7:=am (jK HB6.out HB6.out.size hb7);clear hb7 e0 e1 e2 e3;obtain ⟨e0,e1,e2,e3⟩:=VX.cells X7.out;have y1:=jk HB7.out HK.out) |(go_at_call 43;refine (HO.out y.f1 _ HY.out _).mono ?_;rintro e w8 ⟨rfl,hd8⟩;have hb8:=hd8.below;clear hd8;have X8:=am (VX.below X7.out hb8);have HB8:=am (jK HB7.out HB7.out.size hb8);clear hb8 e0 e1 e2 e3;obtain ⟨e0,e1,e2,e3⟩:=VX.cells X8.out))
              go_ret
              exact ⟨rfl,HB8.out⟩
           ·rw [if_neg q1] at h
            cases h
          ·rw [if_neg q0] at h
           have q0b:=dzF q0
           obtain rfl:false=r:=by simpa using h
           clear h q0
           go_wp2_with (first |(go_at_call 43;have tk:=tok;clear tok;refine (HO.out x.f1 _ HX.out _).mono ?_;rintro e w6 ⟨rfl,hd6⟩;have hb6:=hd6.below;clear hd6;have X6:=am (VX.below X4.out hb6);have HB6:=am (jK HB4.out HB4.out.size hb6);clear hb6 e0 e1 e2 e3;obtain ⟨e0,e1,e2,e3⟩:=VX.cells X6.out) |(go_at_call 44;refine (HQ.out _ HB6.out).mono ?_;rintro e w7 ⟨rfl,hd7⟩;have hb7:=hd7.below;clear hd7;have X7:=am (VX.below X6.out hb7);have HB7:=am (jK HB6.out HB6.out.size hb7);clear hb7 e0 e1 e2 e3;obtain ⟨e0,e1,e2,e3⟩:=VX.cells X7.out))
           go_ret
           exact ⟨rfl,HB7.out⟩
  ·rw [if_neg h1] at h
   cases h
 ·rw [if_neg h0] at h
  cases h
def jra.l0 : Nat → ByteArray → Int → Option (Bool)
 | 0,_,_=>none
 | k+1,x0,x3=>if x3<(x0.size:Int) then (if 0≤x3 then (if (bt x0 x3)<97 then (some false) else (if (bt x0 x3) > 122 then (some false) else (jra.l0 k x0 (wrap64 (x3+1))))) else (none)) else ((jq.f (x0.size:Int) 1 6).bind fun t152=>(some t152))
def jra.f (k : Nat) (a0 : ByteArray) : Option (Bool) := jra.l0 k a0 0
set_option maxHeartbeats 8000000 in
set_option maxRecDepth 100000 in
theorem jra.calls (k : Nat) (a0 : ByteArray) (r : Bool) (w : World) (h : jra.f k a0 = some r) :
  Calls Tryd.prog 45 #[.string a0] w fun e w'=>e=.returned (.bool r)∧jAa w w':=by
 have H:(jra.l0 k a0 0)=some r:=h
 clear h
 have H':=am H
 clear H
 go_enter Tryd.func45,Tryd.ntmps45
 go_wp2
 go_loopg [3] k (fun kq v3 w'=>∃ (x3_1:Int),v3=.int .i64 x3_1∧jD (jra.l0 kq a0 x3_1=some r)∧jD (kq≤k)∧jAa w w')
 case atStart=>exact ⟨(0),(sq),H',⟨Nat.le_refl _⟩,Y2⟩
 case round =>
  clear H'
  obtain ⟨x3_1,rfl,HA,HK1,⟨m1,rfl⟩⟩:=hrel
  cases gk with
  | zero=>exact absurd HA.out (by simp [jra.l0])
  | succ k1 =>
   have H:=HA.out
   clear HA
   simp only [jra.l0] at H
   by_cases c2:x3_1<(a0.size:Int)
   ·rw [if_pos c2] at H
    have c2b0:decide (x3_1<(a0.size:Int))=true:=dzT c2
    clear c2
    by_cases c3:0≤x3_1
    ·rw [if_pos c3] at H
     have c3b0:decide (0≤x3_1)=true:=dzT c3
     clear c3
     by_cases c5:(bt a0 x3_1)<97
     ·rw [if_pos c5] at H
      have c5b0:decide ((bt a0 x3_1)<97)=true:=dzT c5
      clear c5
      obtain rfl:=Option.some.inj H
      have p4:0≤(x3_1:Int):=ozD (uq)
      have q4:x3_1<(a0.size:Int):=ozD (uq)
      have hx4:=bt_at a0 x3_1
      replace p4:=ezT p4
      replace q4:=ezT q4
      go_wp2
      go_ret
      exact ⟨sq,Y2⟩
     ·rw [if_neg c5] at H
      have c5b0:decide ((bt a0 x3_1)<97)=false:=dzF c5
      clear c5
      by_cases c7:(bt a0 x3_1) > 122
      ·rw [if_pos c7] at H
       have c7b0:decide (122<(bt a0 x3_1))=true:=dzT c7
       clear c7
       obtain rfl:=Option.some.inj H
       have p4:0≤(x3_1:Int):=ozD (uq)
       have q4:x3_1<(a0.size:Int):=ozD (uq)
       have hx4:=bt_at a0 x3_1
       replace p4:=ezT p4
       replace q4:=ezT q4
       have p6:0≤(x3_1:Int):=ozD (uq)
       have q6:x3_1<(a0.size:Int):=ozD (uq)
       have hx6:=bt_at a0 x3_1
       replace p6:=ezT p6
       replace q6:=ezT q6
       go_wp2
       go_ret
       exact ⟨sq,Y2⟩
      ·rw [if_neg c7] at H
       have c7b0:decide (122<(bt a0 x3_1))=false:=dzF c7
       clear c7
       have H':=am H
       clear H
       have p4:0≤(x3_1:Int):=ozD (uq)
       have q4:x3_1<(a0.size:Int):=ozD (uq)
       have hx4:=bt_at a0 x3_1
       replace p4:=ezT p4
       replace q4:=ezT q4
       have p6:0≤(x3_1:Int):=ozD (uq)
       have q6:x3_1<(a0.size:Int):=ozD (uq)
       have hx6:=bt_at a0 x3_1
       replace p6:=ezT p6
       replace q6:=ezT q6
       go_wp2
       go_roundg k1
       case measure=>have:=HK1.out;omega
       case rel=>exact ⟨(wrap64 (x3_1+1)),(sq),H',⟨by have:=HK1.out;omega⟩,Y2⟩
    ·rw [if_neg c3] at H
     exact absurd H (by simp)
   ·rw [if_neg c2] at H
    have c2b0:decide (x3_1<(a0.size:Int))=false:=dzF c2
    clear c2
    replace H:=bzS H
    obtain ⟨t152,A80,H⟩:=H
    replace H:(some t152)=some r:=H
    have A8:=am A80
    clear A80
    obtain rfl:=Option.some.inj H
    go_wp2_with (first |((with_reducible refine jf (f:=39) rfl ?_);refine gL (some 22) Tryd.func39 #[.int .i64 (a0.size:Int), .int .i64 1, .int .i64 6] ?_;(with_reducible refine (jq.calls (a0.size:Int) 1 6 t152 _ A8.out).mono ?_);rintro e w' ⟨rfl,⟨nd,rfl⟩⟩;refine ⟨_,rfl,?_⟩))
    go_ret
    exact ⟨sq,Y2⟩
def jha.l0 : Nat → List (S63) → ByteArray → Int → Option (Int)
 | 0,_,_,_=>none
 | k+1,x0,x1,x5=>if x5<(x0.length:Int) then (if 0≤x5 then (if ((jE x0 x5).f0).toList=x1.toList then (some x5) else (jha.l0 k x0 x1 (wrap64 (x5+1)))) else (none)) else (some (-1))
def jha.f (k : Nat) (l0 : List (S63)) (a1 : ByteArray) : Option (Int) := jha.l0 k l0 a1 0
set_option maxHeartbeats 8000000 in
set_option maxRecDepth 100000 in
theorem jha.calls (k : Nat) (A0 : Option Addr) (c0 : Nat) (l0 : List (S63)) (a1 : ByteArray) (r : Int) (w : World) (hr0 : Kd.C k63 w A0 l0.length l0) (hc0 : l0.length ≤ c0) (h : jha.f k l0 a1 = some r) :
  Calls Tryd.prog 46 #[.slice A0 l0.length c0, .string a1] w fun e w'=>e=.returned (.int .i64 r)∧jAa w w':=by
 have HR0:=am hr0
 have HC0:=am hc0
 clear hr0 hc0
 have H:(jha.l0 k l0 a1 0)=some r:=h
 clear h
 have H':=am H
 clear H
 go_enter Tryd.func46,Tryd.ntmps46
 go_wp2
 go_loopg [5] k (fun kq v5 w'=>∃ (x5_1:Int),v5=.int .i64 x5_1∧jD (jha.l0 kq l0 a1 x5_1=some r)∧jD (kq≤k)∧jAa w w')
 case atStart=>exact ⟨(0),(sq),H',⟨Nat.le_refl _⟩,Y2⟩
 case round =>
  clear H'
  try clear p2
  obtain ⟨x5_1,rfl,HA,HK1,⟨m1,rfl⟩⟩:=hrel
  cases gk with
  | zero=>exact absurd HA.out (by simp [jha.l0])
  | succ k1 =>
   have H:=HA.out
   clear HA
   simp only [jha.l0] at H
   by_cases c3:x5_1<(l0.length:Int)
   ·rw [if_pos c3] at H
    have c3b0:decide (x5_1<(l0.length:Int))=true:=dzT c3
    clear c3
    by_cases c4:0≤x5_1
    ·rw [if_pos c4] at H
     have c4b0:decide (0≤x5_1)=true:=dzT c4
     clear c4
     by_cases c5:((jE l0 x5_1).f0).toList=a1.toList
     ·rw [if_pos c5] at H
      have c5b0:(((jE l0 x5_1).f0).toList == a1.toList)=true:=beq_iff_eq.mpr c5
      have c5b1:(((jE l0 x5_1).f0).toList != a1.toList)=false:=bne_eq_false_iff_eq.mpr c5
      clear c5
      obtain rfl:=Option.some.inj H
      have p153:0≤(x5_1:Int):=ozD (uq)
      have q153:x5_1<(l0.length:Int):=ozD (uq)
      obtain ⟨ad153,e153,hx153_0,hx153_1⟩:=jJb HR0.out x5_1 p153 q153
      cases e153
      replace p153:=ezT p153
      replace q153:=ezT q153
      go_wp2
      go_ret
      exact ⟨sq,Y2⟩
     ·rw [if_neg c5] at H
      have c5b0:(((jE l0 x5_1).f0).toList == a1.toList)=false:=beq_eq_false_iff_ne.mpr c5
      have c5b1:(((jE l0 x5_1).f0).toList != a1.toList)=true:=bne_iff_ne.mpr c5
      have H':=am H
      clear H
      have p153:0≤(x5_1:Int):=ozD (uq)
      have q153:x5_1<(l0.length:Int):=ozD (uq)
      obtain ⟨ad153,e153,hx153_0,hx153_1⟩:=jJb HR0.out x5_1 p153 q153
      cases e153
      replace p153:=ezT p153
      replace q153:=ezT q153
      go_wp2
      go_roundg k1
      case measure=>have:=HK1.out;omega
      case rel=>exact ⟨(wrap64 (x5_1+1)),(sq),H',⟨by have:=HK1.out;omega⟩,Y2⟩
    ·rw [if_neg c4] at H
     exact absurd H (by simp)
   ·rw [if_neg c3] at H
    have c3b0:decide (x5_1<(l0.length:Int))=false:=dzF c3
    clear c3
    obtain rfl:=Option.some.inj H
    go_wp2
    go_ret
    exact ⟨sq,Y2⟩
mutual
def jw.l0 : Nat → Int → List (S63) → Option (Bool)
 | 0,_,_=>none
 | k+1,x3,x155000=>if x3<(x155000.length:Int) then (if 0≤x3 then ((jra.f k ((jE x155000 x3).f0)).bind fun t158=>(if t158=true then (if x3≤(x155000.length:Int) then ((jha.f k (x155000.take (x3:Int).toNat) ((jE x155000 x3).f0)).bind fun t163=>(if t163≥0 then (jw.j1 k x3 true x155000) else (if x3=0 then (if ((jE x155000 x3).f1)=(-1) then (if x3 > 0 then ((jq.f ((jE x155000 x3).f1) 0 (wrap64 (x3 - 1))).bind fun t164=>(jw.j1 k x3 (!t164) x155000)) else (jw.j1 k x3 false x155000)) else (jw.j1 k x3 true x155000)) else (if x3 > 0 then ((jq.f ((jE x155000 x3).f1) 0 (wrap64 (x3 - 1))).bind fun t165=>(jw.j1 k x3 (!t165) x155000)) else (jw.j1 k x3 false x155000))))) else (none)) else (jw.j1 k x3 true x155000))) else (none)) else ((jq.f (x155000.length:Int) 1 8).bind fun t155=>(some t155))
def jw.j1 : Nat → Int → Bool → List (S63) → Option (Bool)
 | 0,_,_,_=>none
 | k+1,x3,x51,x155000=>if x51=true then (some false) else (jw.l0 k (wrap64 (x3+1)) x155000)
end
def jw.f (k : Nat) (l0_0 : List (S63)) : Option (Bool) := jw.l0 k 0 l0_0
set_option maxHeartbeats 8000000 in
set_option maxRecDepth 100000 in
theorem jw.calls (k : Nat) (A0_0 : Option Addr) (c0_0 : Nat) (l0_0 : List (S63)) (r : Bool) (w : World) (hr0_0 : Kd.C k63 w A0_0 l0_0.length l0_0) (hc0_0 : l0_0.length ≤ c0_0) (h : jw.f k l0_0 = some r) :
  Calls Tryd.prog 25 #[.agg #[.slice A0_0 l0_0.length c0_0]] w fun e w'=>e=.returned (.bool r)∧Below w.heap.size w w':=by
 have hu31:=Tryd.underlying31
 have hu63:=Tryd.underlying63
 have HR0_0:=am hr0_0
 have HC0_0:=am hc0_0
 clear hr0_0 hc0_0
 have HB:=am (Below.refl w.heap.size w)
 have H:(jw.l0 k 0 l0_0)=some r:=h
 clear h
 have H':=am H
 clear H
 go_enter Tryd.func25,Tryd.ntmps25
 go_wp2_with (first |((with_reducible refine jN (N:=1) rfl ?_);refine bE (N:=1) (cs:=#[.slice A0_0 l0_0.length c0_0]) (t:=31) ?_;intro gb154 hg w2 hbox hb;have BK154:=am (hbox);have GW154:=am ((Y1:w.heap.size≤gb154));have GE154:=am ((Y1:w.heap.size≤gb154));replace HB:=am (jc (bq) hb);clear hb hbox hg))
 go_loopg [3] k (fun kq v3 w'=>∃ (x3_1:Int),v3=.int .i64 x3_1∧jD (jw.l0 kq x3_1 l0_0=some r)∧jD (kq≤k)∧jD (w'.heap[gb154]?=some (.cells #[(.slice A0_0 l0_0.length c0_0)] 31 (0,0)))∧jD (Below w.heap.size w w'))
 case atStart=>exact ⟨(0),(sq),H',⟨Nat.le_refl _⟩,⟨kq BK154.out⟩,⟨Y7⟩⟩
 case round =>
  clear H'
  try clear c1
  try clear p2
  obtain ⟨x3_1,rfl,HA,HK1,BK154,HB⟩:=hrel
  cases gk with
  | zero=>exact absurd HA.out (by simp [jw.l0])
  | succ k1 =>
   have H:=HA.out
   clear HA
   simp only [jw.l0] at H
   by_cases c3:x3_1<(l0_0.length:Int)
   ·rw [if_pos c3] at H
    have c3b0:decide (x3_1<(l0_0.length:Int))=true:=dzT c3
    clear c3
    by_cases c4:0≤x3_1
    ·rw [if_pos c4] at H
     have c4b0:decide (0≤x3_1)=true:=dzT c4
     clear c4
     have HC5:=am H
     clear H
     have hcz6_0:=bc0 BK154.out
     have hfz6_0:=ja BK154.out 0
     have p156:0≤(x3_1:Int):=ozD (uq)
     have q156:x3_1<(l0_0.length:Int):=ozD (uq)
     obtain ⟨ad156,e156,hx156_0,hx156_1⟩:=jJb HR0_0.out x3_1 p156 q156
     cases e156
     replace hx156_0:=cb HB.out hx156_0
     replace hx156_1:=cb HB.out hx156_1
     replace p156:=ezT p156
     replace q156:=ezT q156
     go_upto_region 5 with (first |((with_reducible refine jN (N:=4) rfl ?_);refine bE (N:=4) (cs:=#[.string (⟨#[]⟩:ByteArray), .int .i64 0]) (t:=63) ?_;intro gb157 hg w7 hbox hb;have BK157:=am (hbox);have GW157:=am ((Y35:w.heap.size≤gb157));have GE157:=am ((Y35:w.heap.size≤gb157));have NB154_157:=am ((by rw [hg];exact Nat.ne_of_lt (jEa (g:=gb154) (o:=.cells #[.slice (some ad156) l0_0.length c0_0] 31 (0,0)) (kq BK154.out)):gb154≠gb157));have NB157_154:=am ((by rw [hg];exact Nat.ne_of_gt (jEa (g:=gb154) (o:=.cells #[.slice (some ad156) l0_0.length c0_0] 31 (0,0)) (kq BK154.out)):gb157≠gb154));replace BK154:=am (ji (g:=gb154) (o:=.cells #[.slice (some ad156) l0_0.length c0_0] 31 (0,0)) (kq BK154.out) hb);replace HB:=am (jc (Y7) hb);clear hb hbox hg;have hnb8:=NB157_154.out;have hnc8:=NB154_157.out;have hcz9_0:=bc0 BK157.out;have hcz9_1:=bc1 BK157.out;have hfz9_0:=ja BK157.out 0;have hfz9_1:=ja BK157.out 1))
     (try simp only [Act.put,List.setIfInBounds_toArray,List.set_cons_zero,List.set_cons_succ])
     go_cut [51] (fun v51 wc=>∃ (kq:Nat) (x51_4:Bool),v51=.bool x51_4∧jD (jw.j1 kq x3_1 x51_4 l0_0=some r)∧jD (kq≤k1)∧jD (wc.heap[gb154]?=some (.cells #[(.slice (some ad156) l0_0.length c0_0)] 31 (0,0)))∧jD (wc.heap[gb157]?=some (.cells #[.string ((jE l0_0 x3_1).f0), .int .i64 ((jE l0_0 x3_1).f1)] 63 (0,0)))∧jD (Below w.heap.size w wc))
     case first =>
      have n0_:jD (((w7.setCell ⟨gb157,0,none⟩ (.string ((jE l0_0 x3_1).f0))).setCell ⟨gb157,1,none⟩ (.int .i64 ((jE l0_0 x3_1).f1))).heap[gb154]?=some (.cells #[.slice (some ad156) l0_0.length c0_0] 31 (0,0))):=⟨by (with_reducible repeat (first | refine jO ?_ _ | refine jI ?_ | refine jJ ?_ _));refine jkb ?_ NB154_157.out _;(with_reducible repeat (first | refine jO ?_ _ | refine jI ?_ | refine jJ ?_ _));refine jkb ?_ NB154_157.out _;(with_reducible repeat (first | refine jO ?_ _ | refine jI ?_ | refine jJ ?_ _));exact BK154.out⟩
      have n1_:jD (((w7.setCell ⟨gb157,0,none⟩ (.string ((jE l0_0 x3_1).f0))).setCell ⟨gb157,1,none⟩ (.int .i64 ((jE l0_0 x3_1).f1))).heap[gb157]?=some (.cells #[.string ((jE l0_0 x3_1).f0), .int .i64 ((jE l0_0 x3_1).f1)] 63 (0,0))):=⟨by (with_reducible repeat (first | refine jO ?_ _ | refine jI ?_ | refine jJ ?_ _));refine jjb (cs:=#[.string ((jE l0_0 x3_1).f0), .int .i64 0]) ?_ 1 _ rfl;(with_reducible repeat (first | refine jO ?_ _ | refine jI ?_ | refine jJ ?_ _));refine jjb (cs:=#[.string (⟨#[]⟩:ByteArray), .int .i64 0]) ?_ 0 _ rfl;(with_reducible repeat (first | refine jO ?_ _ | refine jI ?_ | refine jJ ?_ _));exact BK157.out⟩
      have n2_:jD (Below w.heap.size w ((w7.setCell ⟨gb157,0,none⟩ (.string ((jE l0_0 x3_1).f0))).setCell ⟨gb157,1,none⟩ (.int .i64 ((jE l0_0 x3_1).f1)))):=⟨Y26⟩
      clear BK154 BK157 HB hcz9_0 hcz9_1 hfz9_0 hfz9_1
      generalize ((w7.setCell ⟨gb157,0,none⟩ (.string ((jE l0_0 x3_1).f0))).setCell ⟨gb157,1,none⟩ (.int .i64 ((jE l0_0 x3_1).f1)))=w16 at n0_ n1_ n2_ ⊢
      have BK154:=n0_
      have BK157:=n1_
      have HB:=n2_
      clear n0_ n1_ n2_
      have HRW:=am (Kd.jH HR0_0.out HB.out)
      have e0:w16.cell? ⟨gb157,0,none⟩=some (.string ((jE l0_0 x3_1).f0)):=(joa BK157.out 0).trans rfl
      have e1:w16.cell? ⟨gb157,1,none⟩=some (.int .i64 ((jE l0_0 x3_1).f1)):=(joa BK157.out 1).trans rfl
      have e2:w16.cell? ⟨gb154,0,none⟩=some (.slice (some ad156) l0_0.length c0_0):=(joa BK154.out 0).trans rfl
      have H:=HC5.out
      clear HC5
      obtain ⟨v,hv,H⟩:=bzS H
      have HN:=am (fun W=>(jra.calls k1 _ v W hv).mono fun e w' h=>(⟨h.1,h.2.out⟩:e=.returned (.bool v)∧∃ m,w'=W.drewN m))
      clear hv hx156_0 hx156_1
      generalize hgx:jE l0_0 x3_1=x at H e0 e1 HN BK157
      have HGX:=am hgx
      clear hgx
      cases v with
      | false =>
       have H':=am (show jw.j1 k1 x3_1 true l0_0=some r from H)
       clear H
       go_big_quiet ((go_at_call 45;exact Calls.quiet_of (HN.out _)))
       go_wp2
       go_meet
       case rel=>exact ⟨_,_,rfl,H',⟨by have:=HK1.out;omega⟩,⟨jO BK154.out _⟩,⟨by rw [HGX.out];exact jO BK157.out _⟩,⟨je HB.out _⟩⟩
      | true =>
       replace H:(if x3_1≤(l0_0.length:Int) then ((jha.f k1 (l0_0.take (x3_1:Int).toNat) x.f0).bind fun t163=>(if t163≥0 then (jw.j1 k1 x3_1 true l0_0) else (if x3_1=0 then (if x.f1=(-1) then (if x3_1 > 0 then ((jq.f x.f1 0 (wrap64 (x3_1 - 1))).bind fun t164=>(jw.j1 k1 x3_1 (!t164) l0_0)) else (jw.j1 k1 x3_1 false l0_0)) else (jw.j1 k1 x3_1 true l0_0)) else (if x3_1 > 0 then ((jq.f x.f1 0 (wrap64 (x3_1 - 1))).bind fun t165=>(jw.j1 k1 x3_1 (!t165) l0_0)) else (jw.j1 k1 x3_1 false l0_0))))) else (none))=some r:=H
       have hle:x3_1≤(l0_0.length:Int):=by have:=ozD c3b0;omega
       have h0:0≤x3_1:=ozD c4b0
       rw [if_pos hle] at H
       obtain ⟨c,hc,H⟩:=bzS H
       obtain ⟨i0,hi0,_,_,_⟩:=info_parts info63
       have hcut:=cut_to (P:=Tryd.prog) 29 63 .i64 Tryd.underlying29 hi0 (some ad156) l0_0.length c0_0 x3_1 h0 hle HC0_0.out
       have hr18:=Kd.C_take (m:=(x3_1:Int).toNat) HRW.out (by omega)
       obtain ⟨y,hy⟩:∃ y:List S63,y=l0_0.take (x3_1:Int).toNat:=⟨_,rfl⟩
       have hyl:y.length=(x3_1:Int).toNat:=by rw [hy,List.length_take];omega
       have hyc:y.length≤c0_0:=by have:=HC0_0.out;omega
       rw [← hy] at hr18
       rw [← hyl] at hcut
       rw [← hy] at hc
       have HCN:=am (fun m=>(jha.calls k1 _ _ y x.f0 c (w16.drewN m) (Kd.C_drewN hr18 m) hyc hc).mono fun e w' h=>(⟨h.1,h.2.out⟩:e=.returned (.int .i64 c)∧∃ m',w'=(w16.drewN m).drewN m'))
       clear hr18 hc hy hyl hyc
       have b0:=ezT h0
       have b1:=ezT hle
       by_cases hc0:c≥0
       ·rw [if_pos hc0] at H
        have b2:decide (0≤c)=true:=dzT hc0
        have H':=am H
        clear H hc0 h0 hle
        go_big_quiet (first |(go_at_call 45;exact Calls.quiet_of (HN.out _)) |(go_at_call 46;exact Calls.quiet_of (HCN.out _)))
        go_wp2
        go_meet
        case rel=>exact ⟨_,_,rfl,H',⟨by have:=HK1.out;omega⟩,⟨jO BK154.out _⟩,⟨by rw [HGX.out];exact jO BK157.out _⟩,⟨je HB.out _⟩⟩
       ·rw [if_neg hc0] at H
        have b2:decide (0≤c)=false:=dzF hc0
        clear hc0
        by_cases hz:x3_1=0
        ·rw [if_pos hz] at H
         have b3:(x3_1 == 0)=true:=beq_iff_eq.2 hz
         have b4:decide (0<x3_1)=false:=dzF (by omega)
         by_cases hf:x.f1 = -1
         ·rw [if_pos hf,if_neg (by omega)] at H
          have b5:(x.f1 != -1)=false:=by simpa using hf
          have H':=am H
          clear H hf h0 hle hz
          go_big_quiet (first |(go_at_call 45;exact Calls.quiet_of (HN.out _)) |(go_at_call 46;exact Calls.quiet_of (HCN.out _)))
          go_wp2
          go_meet
          case rel=>exact ⟨_,_,rfl,H',⟨by have:=HK1.out;omega⟩,⟨jO BK154.out _⟩,⟨by rw [HGX.out];exact jO BK157.out _⟩,⟨je HB.out _⟩⟩
         ·rw [if_neg hf] at H
          have b5:(x.f1 != -1)=true:=by simpa using hf
          have H':=am H
          clear H hf h0 hle hz
          go_big_quiet (first |(go_at_call 45;exact Calls.quiet_of (HN.out _)) |(go_at_call 46;exact Calls.quiet_of (HCN.out _)))
          go_wp2
          go_meet
          case rel=>exact ⟨_,_,rfl,H',⟨by have:=HK1.out;omega⟩,⟨jO BK154.out _⟩,⟨by rw [HGX.out];exact jO BK157.out _⟩,⟨je HB.out _⟩⟩
        ·rw [if_neg hz,if_pos (by omega)] at H
         have b3:(x3_1 == 0)=false:=beq_eq_false_iff_ne.2 hz
         have b4:decide (0<x3_1)=true:=dzT (by omega)
         obtain ⟨t,ht,H⟩:=bzS H
         have H':=am H
         have HI:=am (fun W=>(jq.calls _ _ _ t W ht).mono fun e w' h=>(⟨h.1,h.2.out⟩:e=.returned (.bool t)∧∃ m,w'=W.drewN m))
         clear H ht h0 hle hz
         go_big_quiet (first |(go_at_call 45;exact Calls.quiet_of (HN.out _)) |(go_at_call 46;exact Calls.quiet_of (HCN.out _)) |(go_at_call 39;exact Calls.quiet_of (HI.out _)))
         go_wp2
         go_meet
         case rel=>exact ⟨_,_,rfl,H',⟨by have:=HK1.out;omega⟩,⟨jO BK154.out _⟩,⟨by rw [HGX.out];exact jO BK157.out _⟩,⟨je HB.out _⟩⟩
     case rest =>
      clear HC5
      try clear c1
      try clear c2
      try clear p2
      try clear c3
      try clear q3
      try clear p6
      try clear c11
      try clear c12
      try clear c13
      try clear c21
      try clear c32
      try clear c32b0
      try clear q39
      try clear q39
      obtain ⟨kq,x51_4,rfl,HA,HJ4,BK154,BK157,HB⟩:=hcut
      cases kq with
      | zero=>exact absurd HA.out (by simp [jw.j1])
      | succ kj4 =>
       have H:=HA.out
       clear HA
       simp only [jw.j1] at H
       by_cases c42:x51_4=true
       ·subst c42
        have H1:(some false)=some r:=by rw [if_pos rfl] at H;exact H
        clear H
        have H:=H1
        clear H1
        obtain rfl:=Option.some.inj H
        go_wp2
        go_ret
        exact ⟨Y0,Y26⟩
       ·replace c42:=Bool.eq_false_iff.mpr c42
        subst c42
        have H1:(jw.l0 kj4 (wrap64 (x3_1+1)) l0_0)=some r:=by rw [if_neg (show ¬ (false=true) by decide)] at H;exact H
        clear H
        have H:=H1
        clear H1
        have H':=am H
        clear H
        go_wp2
        go_roundg kj4
        case measure=>have:=HK1.out;have:=HJ4.out;omega
        case rel=>exact ⟨(wrap64 (x3_1+1)),(sq),H',⟨by have:=HK1.out;have:=HJ4.out;omega⟩,⟨kq BK154.out⟩,⟨Y26⟩⟩
    ·rw [if_neg c4] at H
     exact absurd H (by simp)
   ·rw [if_neg c3] at H
    have c3b0:decide (x3_1<(l0_0.length:Int))=false:=dzF c3
    clear c3
    replace H:=bzS H
    obtain ⟨t155,A430,H⟩:=H
    replace H:(some t155)=some r:=H
    have A43:=am A430
    clear A430
    obtain rfl:=Option.some.inj H
    have hcz44_0:=bc0 BK154.out
    have hfz44_0:=ja BK154.out 0
    go_wp2_with (first |((with_reducible refine jf (f:=39) rfl ?_);refine gL (some 55) Tryd.func39 #[.int .i64 (l0_0.length:Int), .int .i64 1, .int .i64 8] ?_;(with_reducible refine (jq.calls (l0_0.length:Int) 1 8 t155 _ A43.out).mono ?_);rintro e w' ⟨rfl,⟨nd,rfl⟩⟩;refine ⟨_,rfl,?_⟩))
    go_ret
    exact ⟨Y0,Y7⟩
def jG.l0 : Nat → List (S42) → Int → List (S63) → Option (Bool)
 | 0,_,_,_=>none
 | k+1,x1,x5,x155000=>if x5<(x1.length:Int) then ((jg.f k x155000 x1 x5).bind fun t156=>(if t156=true then (jG.l0 k x1 (wrap64 (x5+1)) x155000) else (some false))) else ((jw.f k x155000).bind fun t155=>(if t155=true then (some (decide ((x1.length:Int)≤24))) else (some false)))
def jG.f (k : Nat) (l0_0 : List (S63)) (l1 : List (S42)) : Option (Bool) := jG.l0 k l1 0 l0_0
set_option maxHeartbeats 8000000 in
set_option maxRecDepth 100000 in
theorem jG.calls (k : Nat) (A0_0 : Option Addr) (c0_0 : Nat) (l0_0 : List (S63)) (A1 : Option Addr) (c1 : Nat) (l1 : List (S42)) (r : Bool) (w : World) (hr0_0 : Kd.C k63 w A0_0 l0_0.length l0_0) (hc0_0 : l0_0.length ≤ c0_0) (hr1 : Kd.C k42 w A1 l1.length l1) (hc1 : l1.length ≤ c1) (h : jG.f k l0_0 l1 = some r) :
  Calls Tryd.prog 13 #[.agg #[.slice A0_0 l0_0.length c0_0], .slice A1 l1.length c1] w fun e w'=>e=.returned (.bool r)∧Below w.heap.size w w':=by
 have hu31:=Tryd.underlying31
 have HR0_0:=am hr0_0
 have HC0_0:=am hc0_0
 clear hr0_0 hc0_0
 have HR1:=am hr1
 have HC1:=am hc1
 clear hr1 hc1
 have HB:=am (Below.refl w.heap.size w)
 have H:(jG.l0 k l1 0 l0_0)=some r:=h
 clear h
 have H':=am H
 clear H
 go_enter Tryd.func13,Tryd.ntmps13
 go_wp2_with (first |((with_reducible refine jN (N:=2) rfl ?_);(try (refine gate_guard (by rfl) ?_;dsimp only));refine box_event ?hg (N:=2) ?hd (cs:=#[.slice A0_0 l0_0.length c0_0]) (t:=31) ?hr ?_;(case hd=>rfl);(case hg=>rfl);(case hr=>exact Y11);intro gb154 hg w3 hbox hb;have BK154:=am (hbox);have GW154:=am ((Y1:w.heap.size≤gb154));have GE154:=am ((Y1:w.heap.size≤gb154));replace HB:=am (jc (bq) hb);clear hb hbox hg))
 go_loopg [5] k (fun kq v5 w'=>∃ (x5_1:Int),v5=.int .i64 x5_1∧jD (jG.l0 kq l1 x5_1 l0_0=some r)∧jD (kq≤k)∧jD (w'.heap[gb154]?=some (.cells #[(.slice A0_0 l0_0.length c0_0)] 31 (0,0)))∧jD (Below w.heap.size w w'))
 case atStart=>exact ⟨(0),(sq),H',⟨Nat.le_refl _⟩,⟨kq BK154.out⟩,⟨Y7⟩⟩
 case round =>
  clear H'
  try clear c1
  try clear p2
  obtain ⟨x5_1,rfl,HA,HK1,BK154,HB⟩:=hrel
  cases gk with
  | zero=>exact absurd HA.out (by simp [jG.l0])
  | succ k1 =>
   have H:=HA.out
   clear HA
   simp only [jG.l0] at H
   by_cases c4:x5_1<(l1.length:Int)
   ·rw [if_pos c4] at H
    have c4b0:decide (x5_1<(l1.length:Int))=true:=dzT c4
    clear c4
    replace H:=bzS H
    obtain ⟨t156,A50,H⟩:=H
    replace H:(if t156=true then (jG.l0 k1 l1 (wrap64 (x5_1+1)) l0_0) else (some false))=some r:=H
    have A5:=am A50
    clear A50
    by_cases c6:t156=true
    ·subst c6
     have H1:(jG.l0 k1 l1 (wrap64 (x5_1+1)) l0_0)=some r:=by rw [if_pos rfl] at H;exact H
     clear H
     have H:=H1
     clear H1
     have H':=am H
     clear H
     have hcz7_0:=bc0 BK154.out
     have hfz7_0:=ja BK154.out 0
     go_wp2_with (first |((with_reducible refine jf (f:=24) rfl ?_);refine gL (some 15) Tryd.func24 #[.agg #[.slice A0_0 l0_0.length c0_0], .slice A1 l1.length c1, .int .i64 x5_1] ?_;(with_reducible refine (jg.calls k1 _ _ l0_0 _ _ l1 x5_1 true _ ?side1 ?side2 ?side3 ?side4 A5.out).mono ?_);(case side1=>exact cq (Kd.jH HR0_0.out HB.out));(case side2=>exact HC0_0.out);(case side3=>exact cq (Kd.jH HR1.out HB.out));(case side4=>exact HC1.out);rintro e w8 ⟨rfl,hb⟩;refine ⟨_,rfl,?_⟩;replace BK154:=am (ji (g:=gb154) (o:=.cells #[.slice A0_0 l0_0.length c0_0] 31 (0,0)) (kq BK154.out) hb);replace HB:=am (jc (Y7) hb);(try clear hb);(try clear hb2);(try clear hk);(try clear hi)))
     go_roundg k1
     case measure=>have:=HK1.out;omega
     case rel=>exact ⟨(wrap64 (x5_1+1)),(sq),H',⟨by have:=HK1.out;omega⟩,⟨kq BK154.out⟩,⟨Y7⟩⟩
    ·replace c6:=Bool.eq_false_iff.mpr c6
     subst c6
     have H1:(some false)=some r:=by rw [if_neg (show ¬ (false=true) by decide)] at H;exact H
     clear H
     have H:=H1
     clear H1
     obtain rfl:=Option.some.inj H
     have hcz9_0:=bc0 BK154.out
     have hfz9_0:=ja BK154.out 0
     go_wp2_with (first |((with_reducible refine jf (f:=24) rfl ?_);refine gL (some 15) Tryd.func24 #[.agg #[.slice A0_0 l0_0.length c0_0], .slice A1 l1.length c1, .int .i64 x5_1] ?_;(with_reducible refine (jg.calls k1 _ _ l0_0 _ _ l1 x5_1 false _ ?side1 ?side2 ?side3 ?side4 A5.out).mono ?_);(case side1=>exact cq (Kd.jH HR0_0.out HB.out));(case side2=>exact HC0_0.out);(case side3=>exact cq (Kd.jH HR1.out HB.out));(case side4=>exact HC1.out);rintro e w10 ⟨rfl,hb⟩;refine ⟨_,rfl,?_⟩;replace BK154:=am (ji (g:=gb154) (o:=.cells #[.slice A0_0 l0_0.length c0_0] 31 (0,0)) (kq BK154.out) hb);replace HB:=am (jc (Y7) hb);(try clear hb);(try clear hb2);(try clear hk);(try clear hi)))
     go_ret
     exact ⟨Y0,Y7⟩
   ·rw [if_neg c4] at H
    have c4b0:decide (x5_1<(l1.length:Int))=false:=dzF c4
    clear c4
    replace H:=bzS H
    obtain ⟨t155,A110,H⟩:=H
    replace H:(if t155=true then (some (decide ((l1.length:Int)≤24))) else (some false))=some r:=H
    have A11:=am A110
    clear A110
    by_cases c12:t155=true
    ·subst c12
     have H1:(some (decide ((l1.length:Int)≤24)))=some r:=by rw [if_pos rfl] at H;exact H
     clear H
     have H:=H1
     clear H1
     obtain rfl:=Option.some.inj H
     have hcz13_0:=bc0 BK154.out
     have hfz13_0:=ja BK154.out 0
     go_wp2_with (first |((with_reducible refine jf (f:=25) rfl ?_);refine gL (some 18) Tryd.func25 #[.agg #[.slice A0_0 l0_0.length c0_0]] ?_;(with_reducible refine (jw.calls k1 _ _ l0_0 true _ ?side1 ?side2 A11.out).mono ?_);(case side1=>exact cq (Kd.jH HR0_0.out HB.out));(case side2=>exact HC0_0.out);rintro e w14 ⟨rfl,hb⟩;refine ⟨_,rfl,?_⟩;replace BK154:=am (ji (g:=gb154) (o:=.cells #[.slice A0_0 l0_0.length c0_0] 31 (0,0)) (kq BK154.out) hb);replace HB:=am (jc (Y7) hb);(try clear hb);(try clear hb2);(try clear hk);(try clear hi)))
     go_ret
     exact ⟨Y0,Y7⟩
    ·replace c12:=Bool.eq_false_iff.mpr c12
     subst c12
     have H1:(some false)=some r:=by rw [if_neg (show ¬ (false=true) by decide)] at H;exact H
     clear H
     have H:=H1
     clear H1
     obtain rfl:=Option.some.inj H
     have hcz15_0:=bc0 BK154.out
     have hfz15_0:=ja BK154.out 0
     go_wp2_with (first |((with_reducible refine jf (f:=25) rfl ?_);refine gL (some 18) Tryd.func25 #[.agg #[.slice A0_0 l0_0.length c0_0]] ?_;(with_reducible refine (jw.calls k1 _ _ l0_0 false _ ?side1 ?side2 A11.out).mono ?_);(case side1=>exact cq (Kd.jH HR0_0.out HB.out));(case side2=>exact HC0_0.out);rintro e w16 ⟨rfl,hb⟩;refine ⟨_,rfl,?_⟩;replace BK154:=am (ji (g:=gb154) (o:=.cells #[.slice A0_0 l0_0.length c0_0] 31 (0,0)) (kq BK154.out) hb);replace HB:=am (jc (Y7) hb);(try clear hb);(try clear hb2);(try clear hk);(try clear hi)))
     go_ret
     exact ⟨Y0,Y7⟩
def jXa.f  : Option (List ByteArray) := some (([(⟨#[112, 97, 115, 115]⟩ : ByteArray), (⟨#[108, 111, 103]⟩ : ByteArray), (⟨#[114, 97, 105, 115, 101]⟩ : ByteArray), (⟨#[97, 103, 97, 105, 110]⟩ : ByteArray), (⟨#[114, 101, 116, 117, 114, 110]⟩ : ByteArray), (⟨#[98, 114, 101, 97, 107]⟩ : ByteArray), (⟨#[99, 111, 110, 116, 105, 110, 117, 101]⟩ : ByteArray), (⟨#[116, 114, 121]⟩ : ByteArray), (⟨#[101, 120, 99, 101, 112, 116]⟩ : ByteArray), (⟨#[101, 108, 115, 101]⟩ : ByteArray), (⟨#[102, 105, 110, 97, 108, 108, 121]⟩ : ByteArray), (⟨#[119, 105, 116, 104]⟩ : ByteArray), (⟨#[108, 111, 111, 112]⟩ : ByteArray)] : List ByteArray))
set_option maxHeartbeats 8000000 in
set_option maxRecDepth 100000 in
theorem jXa.calls  (r : List ByteArray) (w : World) (h : jXa.f  = some r) :
  Calls Tryd.prog 47 #[] w fun e w'=>∃ v0_:Value,e=.returned (v0_)∧Kd.R Kd.string 9 w' w.heap.size (fun _=>True) v0_ r∧Below w.heap.size w w':=by
 have HB:=am (Below.refl w.heap.size w)
 have H:(some (([(⟨#[112,97,115,115]⟩:ByteArray),(⟨#[108,111,103]⟩:ByteArray),(⟨#[114,97,105,115,101]⟩:ByteArray),(⟨#[97,103,97,105,110]⟩:ByteArray),(⟨#[114,101,116,117,114,110]⟩:ByteArray),(⟨#[98,114,101,97,107]⟩:ByteArray),(⟨#[99,111,110,116,105,110,117,101]⟩:ByteArray),(⟨#[116,114,121]⟩:ByteArray),(⟨#[101,120,99,101,112,116]⟩:ByteArray),(⟨#[101,108,115,101]⟩:ByteArray),(⟨#[102,105,110,97,108,108,121]⟩:ByteArray),(⟨#[119,105,116,104]⟩:ByteArray),(⟨#[108,111,111,112]⟩:ByteArray)]:List ByteArray)))=some r:=h
 clear h
 obtain ⟨y157,hy157⟩:∃ y_:List ByteArray,y_=(([(⟨#[112,97,115,115]⟩:ByteArray),(⟨#[108,111,103]⟩:ByteArray),(⟨#[114,97,105,115,101]⟩:ByteArray),(⟨#[97,103,97,105,110]⟩:ByteArray),(⟨#[114,101,116,117,114,110]⟩:ByteArray),(⟨#[98,114,101,97,107]⟩:ByteArray),(⟨#[99,111,110,116,105,110,117,101]⟩:ByteArray),(⟨#[116,114,121]⟩:ByteArray),(⟨#[101,120,99,101,112,116]⟩:ByteArray),(⟨#[101,108,115,101]⟩:ByteArray),(⟨#[102,105,110,97,108,108,121]⟩:ByteArray),(⟨#[119,105,116,104]⟩:ByteArray),(⟨#[108,111,111,112]⟩:ByteArray)]:List ByteArray)):=⟨_,rfl⟩
 replace H:(some y157)=some r:=by first |(rw [hy157];with_reducible exact H) |(have H2_:=(Option.bind_some _ _).symm.trans H;rw [hy157];with_reducible exact H2_) |(have H2_:=(Option.bind_some _ _).symm.trans H;with_reducible exact H2_) | with_reducible exact H |(rw [hy157];exact H) | exact H
 have Ny157:=am hy157
 clear hy157
 obtain rfl:=Option.some.inj H
 go_enter Tryd.func47,Tryd.ntmps47
 go_wp2_with (first |((with_reducible refine jN (N:=1) rfl ?_);refine Kd.R_lit Kd.string _ 9 ?hg (N:=1) ?hd (xs:=([(⟨#[112,97,115,115]⟩:ByteArray),(⟨#[108,111,103]⟩:ByteArray),(⟨#[114,97,105,115,101]⟩:ByteArray),(⟨#[97,103,97,105,110]⟩:ByteArray),(⟨#[114,101,116,117,114,110]⟩:ByteArray),(⟨#[98,114,101,97,107]⟩:ByteArray),(⟨#[99,111,110,116,105,110,117,101]⟩:ByteArray),(⟨#[116,114,121]⟩:ByteArray),(⟨#[101,120,99,101,112,116]⟩:ByteArray),(⟨#[101,108,115,101]⟩:ByteArray),(⟨#[102,105,110,97,108,108,121]⟩:ByteArray),(⟨#[119,105,116,104]⟩:ByteArray),(⟨#[108,111,111,112]⟩:ByteArray)]:List ByteArray)) (inner:=[.string (⟨#[112,97,115,115]⟩:ByteArray), .string (⟨#[108,111,103]⟩:ByteArray), .string (⟨#[114,97,105,115,101]⟩:ByteArray), .string (⟨#[97,103,97,105,110]⟩:ByteArray), .string (⟨#[114,101,116,117,114,110]⟩:ByteArray), .string (⟨#[98,114,101,97,107]⟩:ByteArray), .string (⟨#[99,111,110,116,105,110,117,101]⟩:ByteArray), .string (⟨#[116,114,121]⟩:ByteArray), .string (⟨#[101,120,99,101,112,116]⟩:ByteArray), .string (⟨#[101,108,115,101]⟩:ByteArray), .string (⟨#[102,105,110,97,108,108,121]⟩:ByteArray), .string (⟨#[119,105,116,104]⟩:ByteArray), .string (⟨#[108,111,111,112]⟩:ByteArray)]) (ok:=fun _=>True) (okp:=fun _=>True) ?hr ?hp (fun _ hk=>hk) trivial (Below.refl _ _) (Nat.le_refl _) (by simp) ?_;(case hd=>rfl);(case hg=>rfl);(case hr=>exact Y11);(case hp=>exact (Reps.one (show Kd.M Kd.string _ _ _ (⟨#[112,97,115,115]⟩:ByteArray) [.string (⟨#[112,97,115,115]⟩:ByteArray)] from rfl) (Reps.one (show Kd.M Kd.string _ _ _ (⟨#[108,111,103]⟩:ByteArray) [.string (⟨#[108,111,103]⟩:ByteArray)] from rfl) (Reps.one (show Kd.M Kd.string _ _ _ (⟨#[114,97,105,115,101]⟩:ByteArray) [.string (⟨#[114,97,105,115,101]⟩:ByteArray)] from rfl) (Reps.one (show Kd.M Kd.string _ _ _ (⟨#[97,103,97,105,110]⟩:ByteArray) [.string (⟨#[97,103,97,105,110]⟩:ByteArray)] from rfl) (Reps.one (show Kd.M Kd.string _ _ _ (⟨#[114,101,116,117,114,110]⟩:ByteArray) [.string (⟨#[114,101,116,117,114,110]⟩:ByteArray)] from rfl) (Reps.one (show Kd.M Kd.string _ _ _ (⟨#[98,114,101,97,107]⟩:ByteArray) [.string (⟨#[98,114,101,97,107]⟩:ByteArray)] from rfl) (Reps.one (show Kd.M Kd.string _ _ _ (⟨#[99,111,110,116,105,110,117,101]⟩:ByteArray) [.string (⟨#[99,111,110,116,105,110,117,101]⟩:ByteArray)] from rfl) (Reps.one (show Kd.M Kd.string _ _ _ (⟨#[116,114,121]⟩:ByteArray) [.string (⟨#[116,114,121]⟩:ByteArray)] from rfl) (Reps.one (show Kd.M Kd.string _ _ _ (⟨#[101,120,99,101,112,116]⟩:ByteArray) [.string (⟨#[101,120,99,101,112,116]⟩:ByteArray)] from rfl) (Reps.one (show Kd.M Kd.string _ _ _ (⟨#[101,108,115,101]⟩:ByteArray) [.string (⟨#[101,108,115,101]⟩:ByteArray)] from rfl) (Reps.one (show Kd.M Kd.string _ _ _ (⟨#[102,105,110,97,108,108,121]⟩:ByteArray) [.string (⟨#[102,105,110,97,108,108,121]⟩:ByteArray)] from rfl) (Reps.one (show Kd.M Kd.string _ _ _ (⟨#[119,105,116,104]⟩:ByteArray) [.string (⟨#[119,105,116,104]⟩:ByteArray)] from rfl) (Reps.one (show Kd.M Kd.string _ _ _ (⟨#[108,111,111,112]⟩:ByteArray) [.string (⟨#[108,111,111,112]⟩:ByteArray)] from rfl) (Reps.none _ _)))))))))))))));intro v158 w1 ho2 hb hg_ hnew_;clear hg_ hnew_;(first | rw [← Ny157.out] at ho2 |(simp only [Int.reduceToNat] at ho2;rw [← Ny157.out] at ho2));have HO159:=am (Kd.jRa ho2 (jP (bq)));replace HB:=am (jc (bq) hb);clear hb ho2))
 go_ret
 exact ⟨_,Y0,rq HO159.out,bq⟩
def jW.f : Nat → Int → Option (ByteArray)
 | 0,_=>none
 | k+1,a0=>if a0<10 then (if 0≤a0 then (if a0≤(wrap64 (a0+1)) then (if (wrap64 (a0+1))≤10 then (some ((⟨#[48,49,50,51,52,53,54,55,56,57]⟩:ByteArray).extract (a0:Int).toNat ((wrap64 (a0+1)):Int).toNat)) else (none)) else (none)) else (none)) else ((jW.f k (wrap64 (Int.tdiv a0 10))).bind fun t160=>((jW.f k (Int.tmod a0 10)).bind fun t161=>(if t160.size+t161.size≤9223372036854775807 then (some (t160 ++ t161)) else (none))))
set_option maxHeartbeats 8000000 in
set_option maxRecDepth 100000 in
theorem jW.calls (k : Nat) : ∀ (a0 : Int) (r : ByteArray) (w : World) (h : jW.f k a0 = some r),
  Calls Tryd.prog 48 #[.int .i64 a0] w fun e w'=>e=.returned (.string r)∧jAa w w':=by
 induction k using Nat.strongRecOn with
 | _ k ih =>
 intro a0 r w h
 cases k with
 | zero=>exact absurd h (by simp [jW.f])
 | succ k =>
 simp only [jW.f] at h
 have H:(if a0<10 then (if 0≤a0 then (if a0≤(wrap64 (a0+1)) then (if (wrap64 (a0+1))≤10 then (some ((⟨#[48,49,50,51,52,53,54,55,56,57]⟩:ByteArray).extract (a0:Int).toNat ((wrap64 (a0+1)):Int).toNat)) else (none)) else (none)) else (none)) else ((jW.f k (wrap64 (Int.tdiv a0 10))).bind fun t160=>((jW.f k (Int.tmod a0 10)).bind fun t161=>(if t160.size+t161.size≤9223372036854775807 then (some (t160 ++ t161)) else (none)))))=some r:=h
 clear h
 by_cases c2:a0<10
 ·rw [if_pos c2] at H
  have c2b0:decide (a0<10)=true:=dzT c2
  clear c2
  by_cases c3:0≤a0
  ·rw [if_pos c3] at H
   have c3b0:=ezT c3
   have c3b1:decide (0≤a0)=true:=dzT c3
   clear c3
   by_cases c4:a0≤(wrap64 (a0+1))
   ·rw [if_pos c4] at H
    have c4b0:=ezT c4
    have c4b1:decide (a0≤(wrap64 (a0+1)))=true:=dzT c4
    by_cases c5:(wrap64 (a0+1))≤10
    ·rw [if_pos c5] at H
     have c5b0:=ezT c5
     have c5b1:decide ((wrap64 (a0+1))≤10)=true:=dzT c5
     obtain rfl:=Option.some.inj H
     go_enter Tryd.func48,Tryd.ntmps48
     go_wp2
     go_ret
     exact ⟨sq,Y2⟩
    ·rw [if_neg c5] at H
     exact absurd H (by simp)
   ·rw [if_neg c4] at H
    exact absurd H (by simp)
  ·rw [if_neg c3] at H
   exact absurd H (by simp)
 ·rw [if_neg c2] at H
  have c2b0:decide (a0<10)=false:=dzF c2
  clear c2
  replace H:=bzS H
  obtain ⟨t160,A60,H⟩:=H
  replace H:((jW.f k (Int.tmod a0 10)).bind fun t161=>(if t160.size+t161.size≤9223372036854775807 then (some (t160 ++ t161)) else (none)))=some r:=H
  have A6:=am A60
  clear A60
  replace H:=bzS H
  obtain ⟨t161,A70,H⟩:=H
  replace H:(if t160.size+t161.size≤9223372036854775807 then (some (t160 ++ t161)) else (none))=some r:=H
  have A7:=am A70
  clear A70
  by_cases c8:t160.size+t161.size≤9223372036854775807
  ·rw [if_pos c8] at H
   have c8b0:=ezT c8
   have c8b1:decide (t160.size+t161.size≤9223372036854775807)=true:=dzT c8
   try have c8b2:(9223372036854775807<t160.size+t161.size)=False:=eq_false (Nat.not_lt.2 c8)
   obtain rfl:=Option.some.inj H
   go_enter Tryd.func48,Tryd.ntmps48
   go_wp2_with (first |((with_reducible refine jf (f:=48) rfl ?_);refine gL (some 11) Tryd.func48 #[.int .i64 (wrap64 (Int.tdiv a0 10))] ?_;(with_reducible refine (ih k (by omega) (wrap64 (Int.tdiv a0 10)) t160 _ A6.out).mono ?_);rintro e w' ⟨rfl,⟨nd,rfl⟩⟩;refine ⟨_,rfl,?_⟩) |((with_reducible refine jf (f:=48) rfl ?_);refine gL (some 14) Tryd.func48 #[.int .i64 (Int.tmod a0 10)] ?_;(with_reducible refine (ih k (by omega) (Int.tmod a0 10) t161 _ A7.out).mono ?_);rintro e w' ⟨rfl,⟨nd,rfl⟩⟩;refine ⟨_,rfl,?_⟩))
   go_ret
   exact ⟨sq,Y2⟩
  ·rw [if_neg c8] at H
   exact absurd H (by simp)
theorem sl0 {w : World} {b : Nat} {v : Value} {l : List Value} {t : TypeId} (h : w.heap[b]? = some (.cells ⟨v :: l⟩ t (0, 0))) : w.cell? ⟨b, 0, none⟩ = some v := (joa h 0).trans rfl
theorem sl1 {w : World} {b : Nat} {v v1 : Value} {l : List Value} {t : TypeId} (h : w.heap[b]? = some (.cells ⟨v :: v1 :: l⟩ t (0, 0))) : w.cell? ⟨b, 1, none⟩ = some v1 := (joa h 1).trans rfl
theorem sl2 {w : World} {b : Nat} {v v1 v2 : Value} {l : List Value} {t : TypeId} (h : w.heap[b]? = some (.cells ⟨v :: v1 :: v2 :: l⟩ t (0, 0))) : w.cell? ⟨b, 2, none⟩ = some v2 := (joa h 2).trans rfl
theorem sl3 {w : World} {b : Nat} {v v1 v2 v3 : Value} {l : List Value} {t : TypeId} (h : w.heap[b]? = some (.cells ⟨v :: v1 :: v2 :: v3 :: l⟩ t (0, 0))) : w.cell? ⟨b, 3, none⟩ = some v3 := (joa h 3).trans rfl
def jeb : List ByteArray := [(⟨#[112, 97, 115, 115]⟩ : ByteArray), (⟨#[108, 111, 103]⟩ : ByteArray), (⟨#[114, 97, 105, 115, 101]⟩ : ByteArray), (⟨#[97, 103, 97, 105, 110]⟩ : ByteArray), (⟨#[114, 101, 116, 117, 114, 110]⟩ : ByteArray), (⟨#[98, 114, 101, 97, 107]⟩ : ByteArray), (⟨#[99, 111, 110, 116, 105, 110, 117, 101]⟩ : ByteArray), (⟨#[116, 114, 121]⟩ : ByteArray), (⟨#[101, 120, 99, 101, 112, 116]⟩ : ByteArray), (⟨#[101, 108, 115, 101]⟩ : ByteArray), (⟨#[102, 105, 110, 97, 108, 108, 121]⟩ : ByteArray), (⟨#[119, 105, 116, 104]⟩ : ByteArray), (⟨#[108, 111, 111, 112]⟩ : ByteArray)]
def jcb (a : Int) : ByteArray := rdOf ByteArray.empty jeb a
theorem jBb (a : Int) : (jcb a).size ≤ 8 := by
 have h:∀ x ∈ ByteArray.empty :: jeb,x.size≤8:=by
  intro x hx
  simp only [jeb,List.mem_cons,List.not_mem_nil,or_false] at hx
  rcases hx with rfl | rfl | rfl | rfl | rfl | rfl | rfl | rfl | rfl | rfl | rfl | rfl | rfl | rfl <;> decide
 apply h
 unfold jcb rdOf
 rw [List.getD_eq_getElem?_getD]
 rcases Nat.lt_or_ge a.toNat jeb.length with g | g
 ·rw [List.getElem?_eq_getElem g]
  exact List.mem_cons_of_mem _ (List.getElem_mem g)
 ·rw [List.getElem?_eq_none g]
  exact List.mem_cons_self
def jUa.f (k : Nat) (l0_0 : List S63) (a1_0 a1_1 a1_2 a1_3 : Int) : Option ByteArray :=
 if a1_1=1∨a1_1=4∨a1_1=12 then (jW.f k a1_2).bind fun d=>if d.size≤1000 then some ((jcb a1_1 ++ (⟨#[32]⟩:ByteArray)) ++ d) else none
 else if a1_1=2 then (if 0≤a1_2 then (if a1_2<(l0_0.length:Int) then (if (jE l0_0 a1_2).f0.size≤2000000 then (jW.f k a1_3).bind fun d=>if d.size≤1000 then some ((((⟨#[114,97,105,115,101,32]⟩:ByteArray) ++ (jE l0_0 a1_2).f0) ++ (⟨#[32]⟩:ByteArray)) ++ d) else none else none) else none) else none)
 else if a1_1=8 then (if 0≤a1_2 then (if a1_2<(l0_0.length:Int) then (if (jE l0_0 a1_2).f0.size≤2000000 then some ((⟨#[101,120,99,101,112,116,32]⟩:ByteArray) ++ (jE l0_0 a1_2).f0) else none) else none) else none)
 else if a1_1=11 then (jW.f k a1_2).bind fun d=>if d.size≤1000 then (if a1_3=1 then some (((⟨#[119,105,116,104,32]⟩:ByteArray) ++ d) ++ (⟨#[32,113,117,105,101,116]⟩:ByteArray)) else some ((⟨#[119,105,116,104,32]⟩:ByteArray) ++ d)) else none
 else if 0≤a1_1∧a1_1<(jeb.length:Int) then some (jcb a1_1) else none
set_option maxHeartbeats 8000000 in
set_option maxRecDepth 100000 in
theorem sl_num1 (k : Nat) (A0_0 : Option Addr) (c0_0 : Nat) (l0_0 : List (S63)) (a1_0 a1_1 a1_2 a1_3 : Int) (d : ByteArray) (w : World) (hr0_0 : Kd.C k63 w A0_0 l0_0.length l0_0) (hc0_0 : l0_0.length ≤ c0_0) (hk : a1_1 = 1) (g2 : 0 ≤ a1_1) (g3 : a1_1 < (jeb.length : Int)) (hi : jW.f k a1_2 = some d) (hz : d.size ≤ 1000) :
  Calls Tryd.prog 26 #[.agg #[.slice A0_0 l0_0.length c0_0], .agg #[.int .i64 a1_0, .int .i64 a1_1, .int .i64 a1_2, .int .i64 a1_3]] w fun e w'=>e=.returned (.string ((jcb a1_1 ++ (⟨#[32]⟩:ByteArray)) ++ d))∧Below w.heap.size w w':=by
 have hu31:=Tryd.underlying31
 have hu42:=Tryd.underlying42
 have hu63:=Tryd.underlying63
 have hmx:Tryd.prog.follows .mixedOrders=true:=by kernel_rfl
 have HI:=am hi
 clear hi
 have p0:=ezT g2
 have p1:=ezT g3
 have n1:=jBb a1_1
 obtain ⟨nm,hnm⟩:∃ nm,nm=jcb a1_1:=⟨_,rfl⟩
 rw [← hnm] at n1 ⊢
 have HN:=am (show jcb a1_1=nm from hnm.symm)
 clear hnm
 have e1:(a1_1 == 1)=true:=by simpa using hk
 have e4:(a1_1 == 4)=false:=by simp;omega
 have e12:(a1_1 == 12)=false:=by simp;omega
 have e2:(a1_1 == 2)=false:=by simp;omega
 have e8:(a1_1 == 8)=false:=by simp;omega
 have e11:(a1_1 == 11)=false:=by simp;omega
 clear hk
 have z0:nm.size+1≤9223372036854775807:=by omega
 have z1:=ezT z0
 have z2:=dzT z0
 have z3:(9223372036854775807<nm.size+1)=False:=eq_false (Nat.not_lt.2 z0)
 have y0:nm.size+1+d.size≤9223372036854775807:=by omega
 have y1:=ezT y0
 have y2:=dzT y0
 have y3:(9223372036854775807<nm.size+1+d.size)=False:=eq_false (Nat.not_lt.2 y0)
 have hB2:Below w.heap.size w ((w.alloc (.cells #[.slice A0_0 l0_0.length c0_0] 31)).alloc (.cells #[.int .i64 a1_0, .int .i64 a1_1, .int .i64 a1_2, .int .i64 a1_3] 42)):=((Below.refl w.heap.size w).alloc (Nat.le_refl _) _).alloc (by simp) _
 have BT:=jJ (heap_alloc_new w (.cells #[.slice A0_0 l0_0.length c0_0] 31)) (.cells #[.int .i64 a1_0, .int .i64 a1_1, .int .i64 a1_2, .int .i64 a1_3] 42)
 have BX:((w.alloc (.cells #[.slice A0_0 l0_0.length c0_0] 31)).alloc (.cells #[.int .i64 a1_0, .int .i64 a1_1, .int .i64 a1_2, .int .i64 a1_3] 42)).heap[w.heap.size+1]?=some (.cells #[.int .i64 a1_0, .int .i64 a1_1, .int .i64 a1_2, .int .i64 a1_3] 42 (0,0)):=by have h:=heap_alloc_new (w.alloc (.cells #[.slice A0_0 l0_0.length c0_0] 31)) (.cells #[.int .i64 a1_0, .int .i64 a1_1, .int .i64 a1_2, .int .i64 a1_3] 42);simpa only [World.size_alloc] using h
 go_enter Tryd.func26,Tryd.ntmps26
 go_wp2
 refine wp_region_held (S:=(fun W':World=>W'.cell? ⟨w.heap.size+1,1,none⟩=some (.int .i64 a1_1)∧W'.cell? ⟨w.heap.size+1,2,none⟩=some (.int .i64 a1_2))) hmx ?_
 change wpAnyH _ _ _ _ _ _ _ _ (World.drew ((w.alloc (.cells #[.slice A0_0 l0_0.length c0_0] 31)).alloc (.cells #[.int .i64 a1_0, .int .i64 a1_1, .int .i64 a1_2, .int .i64 a1_3] 42)))
 have hS0:(fun W':World=>W'.cell? ⟨w.heap.size+1,1,none⟩=some (.int .i64 a1_1)∧W'.cell? ⟨w.heap.size+1,2,none⟩=some (.int .i64 a1_2)) (World.drew ((w.alloc (.cells #[.slice A0_0 l0_0.length c0_0] 31)).alloc (.cells #[.int .i64 a1_0, .int .i64 a1_1, .int .i64 a1_2, .int .i64 a1_3] 42))):=⟨sl1 (jI BX),sl2 (jI BX)⟩
 refine wpAnyH_take (i:=1) (v:=?_) rfl (by kernel_rfl) (by kernel_rfl) (by kernel_rfl) (fun _ _ _ h=>h) (Or.inl ⟨by rfl,?_⟩) hS0 ?_
 rotate_left
 ·rintro W' ⟨s1,s2⟩
  go_simp
  with_reducible rfl
 refine wpAnyH_take (i:=2) (v:=?_) rfl (by kernel_rfl) (by kernel_rfl) (by kernel_rfl) (fun _ _ _ h=>h) (Or.inl ⟨by rfl,?_⟩) hS0 ?_
 rotate_left
 ·rintro W' ⟨s1,s2⟩
  go_simp
  with_reducible rfl
 refine wpAnyH_take (i:=6) (v:=?_) rfl (by kernel_rfl) (by kernel_rfl) (by kernel_rfl) (fun _ _ _ h=>h) (Or.inl ⟨by rfl,?_⟩) hS0 ?_
 rotate_left
 ·rintro W' ⟨s1,s2⟩
  go_simp
  with_reducible rfl
 refine wpAnyH_take (i:=7) (v:=?_) rfl (by kernel_rfl) (by kernel_rfl) (by kernel_rfl) (fun _ _ _ h=>h) (Or.inl ⟨by rfl,?_⟩) hS0 ?_
 rotate_left
 ·rintro W' ⟨s1,s2⟩
  go_simp
  with_reducible rfl
 refine wpAnyH_all (rs:=[0]) (by kernel_rfl) (by simp) ?_
 intro ii hii
 obtain rfl:ii=0:=by simpa using hii
 clear hii
 refine wpOp_step rfl (fun K hK=>?_)
 go_simp
 refine (jXa.calls jeb _ rfl).mono ?_
 rintro e w4 ⟨v,rfl,hR,hb4⟩
 obtain ⟨Ao,co,eo⟩:=Kd.jKa hR
 subst eo
 obtain ⟨ad,rfl,hx⟩:=Kd.jWa (Kd.jT hR).2.2 a1_1 g2 g3
 replace hx:w4.cell? (ad.add a1_1.toNat)=some (.string nm):=by rw [← HN.out];exact hx
 have hB4:=am (jc (jJa hB2) hb4)
 clear hR
 have hS2:=And.intro (jk hb4 hS0.1) (jk hb4 hS0.2)
 refine hK _ _ ⟨hS2,?_⟩
 clear hK K
 refine wpAnyH_take (i:=3) (v:=?_) rfl (by kernel_rfl) (by kernel_rfl) (by kernel_rfl) (fun _ _ _ h=>h) (Or.inl ⟨by rfl,?_⟩) hS2 ?_
 rotate_left
 ·rintro W' ⟨s1,s2⟩
  go_simp
  with_reducible rfl
 refine wpAnyH_all (rs:=[4,8]) (by kernel_rfl) (by simp) ?_
 intro ii hii
 have hii2:ii=4∨ii=8:=by simpa using hii
 clear hii
 rcases hii2 with rfl | rfl
 ·refine wpOp_step rfl (fun K hK=>?_)
  go_simp
  refine hK _ _ ⟨hS2,?_⟩
  clear hK K
  refine wpAnyH_take (i:=5) (v:=?_) rfl (by kernel_rfl) (by kernel_rfl) (by kernel_rfl) (fun _ _ _ h=>h) (Or.inl ⟨by rfl,?_⟩) hS2 ?_
  rotate_left
  ·rintro W' ⟨s1,s2⟩
   go_simp
   with_reducible rfl
  refine wpAnyH_all (rs:=[8]) (by kernel_rfl) (by simp) ?_
  intro ii hii
  obtain rfl:ii=8:=by simpa using hii
  clear hii
  refine wpOp_step rfl (fun K hK=>?_)
  go_simp
  refine (jW.calls k _ _ _ HI.out).mono ?_
  rintro e w' ⟨rfl,⟨nd,rfl⟩⟩
  have hS3:(fun W':World=>W'.cell? ⟨w.heap.size+1,1,none⟩=some (.int .i64 a1_1)∧W'.cell? ⟨w.heap.size+1,2,none⟩=some (.int .i64 a1_2)) (w4.drewN nd):=hS2
  refine hK _ _ ⟨hS3,?_⟩
  clear hK K
  refine wpAnyH_take (i:=9) (v:=?_) rfl (by kernel_rfl) (by kernel_rfl) (by kernel_rfl) (fun _ _ _ h=>h) (Or.inl ⟨by rfl,?_⟩) hS3 ?_
  rotate_left
  ·rintro W' ⟨s1,s2⟩
   go_simp
   with_reducible rfl
  refine wpAnyH_take (i:=10) (v:=?_) rfl (by kernel_rfl) (by kernel_rfl) (by kernel_rfl) (fun _ _ _ h=>h) (Or.inl ⟨by rfl,?_⟩) hS3 ?_
  rotate_left
  ·rintro W' ⟨s1,s2⟩
   go_simp
   with_reducible rfl
  refine wpAnyH_done (by kernel_rfl) ?_ _
  rename_i K9 hK9
  refine hK9 _ _ ?_
  clear hK9
  go_simp
  go_wp2
  go_ret
  exact ⟨rfl,Y9⟩
 ·refine wpOp_step rfl (fun K hK=>?_)
  go_simp
  refine (jW.calls k _ _ _ HI.out).mono ?_
  rintro e w' ⟨rfl,⟨nd,rfl⟩⟩
  have hS3:(fun W':World=>W'.cell? ⟨w.heap.size+1,1,none⟩=some (.int .i64 a1_1)∧W'.cell? ⟨w.heap.size+1,2,none⟩=some (.int .i64 a1_2)) (w4.drewN nd):=hS2
  refine hK _ _ ⟨hS3,?_⟩
  clear hK K
  refine wpAnyH_all (rs:=[4]) (by kernel_rfl) (by simp) ?_
  intro ii hii
  obtain rfl:ii=4:=by simpa using hii
  clear hii
  refine wpOp_step rfl (fun K hK=>?_)
  have hx3:(w4.drewN nd).cell? (ad.add a1_1.toNat)=some (.string nm):=hx
  go_simp
  refine hK _ _ ⟨hS3,?_⟩
  clear hK K
  refine wpAnyH_take (i:=5) (v:=?_) rfl (by kernel_rfl) (by kernel_rfl) (by kernel_rfl) (fun _ _ _ h=>h) (Or.inl ⟨by rfl,?_⟩) hS3 ?_
  rotate_left
  ·rintro W' ⟨s1,s2⟩
   go_simp
   with_reducible rfl
  refine wpAnyH_take (i:=9) (v:=?_) rfl (by kernel_rfl) (by kernel_rfl) (by kernel_rfl) (fun _ _ _ h=>h) (Or.inl ⟨by rfl,?_⟩) hS3 ?_
  rotate_left
  ·rintro W' ⟨s1,s2⟩
   go_simp
   with_reducible rfl
  refine wpAnyH_take (i:=10) (v:=?_) rfl (by kernel_rfl) (by kernel_rfl) (by kernel_rfl) (fun _ _ _ h=>h) (Or.inl ⟨by rfl,?_⟩) hS3 ?_
  rotate_left
  ·rintro W' ⟨s1,s2⟩
   go_simp
   with_reducible rfl
  refine wpAnyH_done (by kernel_rfl) ?_ _
  rename_i K9 hK9
  refine hK9 _ _ ?_
  clear hK9
  go_simp
  go_wp2
  go_ret
  exact ⟨rfl,Y9⟩
set_option maxHeartbeats 8000000 in
set_option maxRecDepth 100000 in
theorem sl_num4 (k : Nat) (A0_0 : Option Addr) (c0_0 : Nat) (l0_0 : List (S63)) (a1_0 a1_1 a1_2 a1_3 : Int) (d : ByteArray) (w : World) (hr0_0 : Kd.C k63 w A0_0 l0_0.length l0_0) (hc0_0 : l0_0.length ≤ c0_0) (hk : a1_1 = 4) (g2 : 0 ≤ a1_1) (g3 : a1_1 < (jeb.length : Int)) (hi : jW.f k a1_2 = some d) (hz : d.size ≤ 1000) :
  Calls Tryd.prog 26 #[.agg #[.slice A0_0 l0_0.length c0_0], .agg #[.int .i64 a1_0, .int .i64 a1_1, .int .i64 a1_2, .int .i64 a1_3]] w fun e w'=>e=.returned (.string ((jcb a1_1 ++ (⟨#[32]⟩:ByteArray)) ++ d))∧Below w.heap.size w w':=by
 have hu31:=Tryd.underlying31
 have hu42:=Tryd.underlying42
 have hu63:=Tryd.underlying63
 have hmx:Tryd.prog.follows .mixedOrders=true:=by kernel_rfl
 have HI:=am hi
 clear hi
 have p0:=ezT g2
 have p1:=ezT g3
 have n1:=jBb a1_1
 obtain ⟨nm,hnm⟩:∃ nm,nm=jcb a1_1:=⟨_,rfl⟩
 rw [← hnm] at n1 ⊢
 have HN:=am (show jcb a1_1=nm from hnm.symm)
 clear hnm
 have e1:(a1_1 == 1)=false:=by simp;omega
 have e4:(a1_1 == 4)=true:=by simpa using hk
 have e12:(a1_1 == 12)=false:=by simp;omega
 have e2:(a1_1 == 2)=false:=by simp;omega
 have e8:(a1_1 == 8)=false:=by simp;omega
 have e11:(a1_1 == 11)=false:=by simp;omega
 clear hk
 have z0:nm.size+1≤9223372036854775807:=by omega
 have z1:=ezT z0
 have z2:=dzT z0
 have z3:(9223372036854775807<nm.size+1)=False:=eq_false (Nat.not_lt.2 z0)
 have y0:nm.size+1+d.size≤9223372036854775807:=by omega
 have y1:=ezT y0
 have y2:=dzT y0
 have y3:(9223372036854775807<nm.size+1+d.size)=False:=eq_false (Nat.not_lt.2 y0)
 have hB2:Below w.heap.size w ((w.alloc (.cells #[.slice A0_0 l0_0.length c0_0] 31)).alloc (.cells #[.int .i64 a1_0, .int .i64 a1_1, .int .i64 a1_2, .int .i64 a1_3] 42)):=((Below.refl w.heap.size w).alloc (Nat.le_refl _) _).alloc (by simp) _
 have BT:=jJ (heap_alloc_new w (.cells #[.slice A0_0 l0_0.length c0_0] 31)) (.cells #[.int .i64 a1_0, .int .i64 a1_1, .int .i64 a1_2, .int .i64 a1_3] 42)
 have BX:((w.alloc (.cells #[.slice A0_0 l0_0.length c0_0] 31)).alloc (.cells #[.int .i64 a1_0, .int .i64 a1_1, .int .i64 a1_2, .int .i64 a1_3] 42)).heap[w.heap.size+1]?=some (.cells #[.int .i64 a1_0, .int .i64 a1_1, .int .i64 a1_2, .int .i64 a1_3] 42 (0,0)):=by have h:=heap_alloc_new (w.alloc (.cells #[.slice A0_0 l0_0.length c0_0] 31)) (.cells #[.int .i64 a1_0, .int .i64 a1_1, .int .i64 a1_2, .int .i64 a1_3] 42);simpa only [World.size_alloc] using h
 go_enter Tryd.func26,Tryd.ntmps26
 go_wp2
 refine wp_region_held (S:=(fun W':World=>W'.cell? ⟨w.heap.size+1,1,none⟩=some (.int .i64 a1_1)∧W'.cell? ⟨w.heap.size+1,2,none⟩=some (.int .i64 a1_2))) hmx ?_
 change wpAnyH _ _ _ _ _ _ _ _ (World.drew ((w.alloc (.cells #[.slice A0_0 l0_0.length c0_0] 31)).alloc (.cells #[.int .i64 a1_0, .int .i64 a1_1, .int .i64 a1_2, .int .i64 a1_3] 42)))
 have hS0:(fun W':World=>W'.cell? ⟨w.heap.size+1,1,none⟩=some (.int .i64 a1_1)∧W'.cell? ⟨w.heap.size+1,2,none⟩=some (.int .i64 a1_2)) (World.drew ((w.alloc (.cells #[.slice A0_0 l0_0.length c0_0] 31)).alloc (.cells #[.int .i64 a1_0, .int .i64 a1_1, .int .i64 a1_2, .int .i64 a1_3] 42))):=⟨sl1 (jI BX),sl2 (jI BX)⟩
 refine wpAnyH_take (i:=1) (v:=?_) rfl (by kernel_rfl) (by kernel_rfl) (by kernel_rfl) (fun _ _ _ h=>h) (Or.inl ⟨by rfl,?_⟩) hS0 ?_
 rotate_left
 ·rintro W' ⟨s1,s2⟩
  go_simp
  with_reducible rfl
 refine wpAnyH_take (i:=2) (v:=?_) rfl (by kernel_rfl) (by kernel_rfl) (by kernel_rfl) (fun _ _ _ h=>h) (Or.inl ⟨by rfl,?_⟩) hS0 ?_
 rotate_left
 ·rintro W' ⟨s1,s2⟩
  go_simp
  with_reducible rfl
 refine wpAnyH_take (i:=6) (v:=?_) rfl (by kernel_rfl) (by kernel_rfl) (by kernel_rfl) (fun _ _ _ h=>h) (Or.inl ⟨by rfl,?_⟩) hS0 ?_
 rotate_left
 ·rintro W' ⟨s1,s2⟩
  go_simp
  with_reducible rfl
 refine wpAnyH_take (i:=7) (v:=?_) rfl (by kernel_rfl) (by kernel_rfl) (by kernel_rfl) (fun _ _ _ h=>h) (Or.inl ⟨by rfl,?_⟩) hS0 ?_
 rotate_left
 ·rintro W' ⟨s1,s2⟩
  go_simp
  with_reducible rfl
 refine wpAnyH_all (rs:=[0]) (by kernel_rfl) (by simp) ?_
 intro ii hii
 obtain rfl:ii=0:=by simpa using hii
 clear hii
 refine wpOp_step rfl (fun K hK=>?_)
 go_simp
 refine (jXa.calls jeb _ rfl).mono ?_
 rintro e w4 ⟨v,rfl,hR,hb4⟩
 obtain ⟨Ao,co,eo⟩:=Kd.jKa hR
 subst eo
 obtain ⟨ad,rfl,hx⟩:=Kd.jWa (Kd.jT hR).2.2 a1_1 g2 g3
 replace hx:w4.cell? (ad.add a1_1.toNat)=some (.string nm):=by rw [← HN.out];exact hx
 have hB4:=am (jc (jJa hB2) hb4)
 clear hR
 have hS2:=And.intro (jk hb4 hS0.1) (jk hb4 hS0.2)
 refine hK _ _ ⟨hS2,?_⟩
 clear hK K
 refine wpAnyH_take (i:=3) (v:=?_) rfl (by kernel_rfl) (by kernel_rfl) (by kernel_rfl) (fun _ _ _ h=>h) (Or.inl ⟨by rfl,?_⟩) hS2 ?_
 rotate_left
 ·rintro W' ⟨s1,s2⟩
  go_simp
  with_reducible rfl
 refine wpAnyH_all (rs:=[4,8]) (by kernel_rfl) (by simp) ?_
 intro ii hii
 have hii2:ii=4∨ii=8:=by simpa using hii
 clear hii
 rcases hii2 with rfl | rfl
 ·refine wpOp_step rfl (fun K hK=>?_)
  go_simp
  refine hK _ _ ⟨hS2,?_⟩
  clear hK K
  refine wpAnyH_take (i:=5) (v:=?_) rfl (by kernel_rfl) (by kernel_rfl) (by kernel_rfl) (fun _ _ _ h=>h) (Or.inl ⟨by rfl,?_⟩) hS2 ?_
  rotate_left
  ·rintro W' ⟨s1,s2⟩
   go_simp
   with_reducible rfl
  refine wpAnyH_all (rs:=[8]) (by kernel_rfl) (by simp) ?_
  intro ii hii
  obtain rfl:ii=8:=by simpa using hii
  clear hii
  refine wpOp_step rfl (fun K hK=>?_)
  go_simp
  refine (jW.calls k _ _ _ HI.out).mono ?_
  rintro e w' ⟨rfl,⟨nd,rfl⟩⟩
  have hS3:(fun W':World=>W'.cell? ⟨w.heap.size+1,1,none⟩=some (.int .i64 a1_1)∧W'.cell? ⟨w.heap.size+1,2,none⟩=some (.int .i64 a1_2)) (w4.drewN nd):=hS2
  refine hK _ _ ⟨hS3,?_⟩
  clear hK K
  refine wpAnyH_take (i:=9) (v:=?_) rfl (by kernel_rfl) (by kernel_rfl) (by kernel_rfl) (fun _ _ _ h=>h) (Or.inl ⟨by rfl,?_⟩) hS3 ?_
  rotate_left
  ·rintro W' ⟨s1,s2⟩
   go_simp
   with_reducible rfl
  refine wpAnyH_take (i:=10) (v:=?_) rfl (by kernel_rfl) (by kernel_rfl) (by kernel_rfl) (fun _ _ _ h=>h) (Or.inl ⟨by rfl,?_⟩) hS3 ?_
  rotate_left
  ·rintro W' ⟨s1,s2⟩
   go_simp
   with_reducible rfl
  refine wpAnyH_done (by kernel_rfl) ?_ _
  rename_i K9 hK9
  refine hK9 _ _ ?_
  clear hK9
  go_simp
  go_wp2
  go_ret
  exact ⟨rfl,Y9⟩
 ·refine wpOp_step rfl (fun K hK=>?_)
  go_simp
  refine (jW.calls k _ _ _ HI.out).mono ?_
  rintro e w' ⟨rfl,⟨nd,rfl⟩⟩
  have hS3:(fun W':World=>W'.cell? ⟨w.heap.size+1,1,none⟩=some (.int .i64 a1_1)∧W'.cell? ⟨w.heap.size+1,2,none⟩=some (.int .i64 a1_2)) (w4.drewN nd):=hS2
  refine hK _ _ ⟨hS3,?_⟩
  clear hK K
  refine wpAnyH_all (rs:=[4]) (by kernel_rfl) (by simp) ?_
  intro ii hii
  obtain rfl:ii=4:=by simpa using hii
  clear hii
  refine wpOp_step rfl (fun K hK=>?_)
  have hx3:(w4.drewN nd).cell? (ad.add a1_1.toNat)=some (.string nm):=hx
  go_simp
  refine hK _ _ ⟨hS3,?_⟩
  clear hK K
  refine wpAnyH_take (i:=5) (v:=?_) rfl (by kernel_rfl) (by kernel_rfl) (by kernel_rfl) (fun _ _ _ h=>h) (Or.inl ⟨by rfl,?_⟩) hS3 ?_
  rotate_left
  ·rintro W' ⟨s1,s2⟩
   go_simp
   with_reducible rfl
  refine wpAnyH_take (i:=9) (v:=?_) rfl (by kernel_rfl) (by kernel_rfl) (by kernel_rfl) (fun _ _ _ h=>h) (Or.inl ⟨by rfl,?_⟩) hS3 ?_
  rotate_left
  ·rintro W' ⟨s1,s2⟩
   go_simp
   with_reducible rfl
  refine wpAnyH_take (i:=10) (v:=?_) rfl (by kernel_rfl) (by kernel_rfl) (by kernel_rfl) (fun _ _ _ h=>h) (Or.inl ⟨by rfl,?_⟩) hS3 ?_
  rotate_left
  ·rintro W' ⟨s1,s2⟩
   go_simp
   with_reducible rfl
  refine wpAnyH_done (by kernel_rfl) ?_ _
  rename_i K9 hK9
  refine hK9 _ _ ?_
  clear hK9
  go_simp
  go_wp2
  go_ret
  exact ⟨rfl,Y9⟩
set_option maxHeartbeats 8000000 in
set_option maxRecDepth 100000 in
theorem sl_num12 (k : Nat) (A0_0 : Option Addr) (c0_0 : Nat) (l0_0 : List (S63)) (a1_0 a1_1 a1_2 a1_3 : Int) (d : ByteArray) (w : World) (hr0_0 : Kd.C k63 w A0_0 l0_0.length l0_0) (hc0_0 : l0_0.length ≤ c0_0) (hk : a1_1 = 12) (g2 : 0 ≤ a1_1) (g3 : a1_1 < (jeb.length : Int)) (hi : jW.f k a1_2 = some d) (hz : d.size ≤ 1000) :
  Calls Tryd.prog 26 #[.agg #[.slice A0_0 l0_0.length c0_0], .agg #[.int .i64 a1_0, .int .i64 a1_1, .int .i64 a1_2, .int .i64 a1_3]] w fun e w'=>e=.returned (.string ((jcb a1_1 ++ (⟨#[32]⟩:ByteArray)) ++ d))∧Below w.heap.size w w':=by
 have hu31:=Tryd.underlying31
 have hu42:=Tryd.underlying42
 have hu63:=Tryd.underlying63
 have hmx:Tryd.prog.follows .mixedOrders=true:=by kernel_rfl
 have HI:=am hi
 clear hi
 have p0:=ezT g2
 have p1:=ezT g3
 have n1:=jBb a1_1
 obtain ⟨nm,hnm⟩:∃ nm,nm=jcb a1_1:=⟨_,rfl⟩
 rw [← hnm] at n1 ⊢
 have HN:=am (show jcb a1_1=nm from hnm.symm)
 clear hnm
 have e1:(a1_1 == 1)=false:=by simp;omega
 have e4:(a1_1 == 4)=false:=by simp;omega
 have e12:(a1_1 == 12)=true:=by simpa using hk
 have e2:(a1_1 == 2)=false:=by simp;omega
 have e8:(a1_1 == 8)=false:=by simp;omega
 have e11:(a1_1 == 11)=false:=by simp;omega
 clear hk
 have z0:nm.size+1≤9223372036854775807:=by omega
 have z1:=ezT z0
 have z2:=dzT z0
 have z3:(9223372036854775807<nm.size+1)=False:=eq_false (Nat.not_lt.2 z0)
 have y0:nm.size+1+d.size≤9223372036854775807:=by omega
 have y1:=ezT y0
 have y2:=dzT y0
 have y3:(9223372036854775807<nm.size+1+d.size)=False:=eq_false (Nat.not_lt.2 y0)
 have hB2:Below w.heap.size w ((w.alloc (.cells #[.slice A0_0 l0_0.length c0_0] 31)).alloc (.cells #[.int .i64 a1_0, .int .i64 a1_1, .int .i64 a1_2, .int .i64 a1_3] 42)):=((Below.refl w.heap.size w).alloc (Nat.le_refl _) _).alloc (by simp) _
 have BT:=jJ (heap_alloc_new w (.cells #[.slice A0_0 l0_0.length c0_0] 31)) (.cells #[.int .i64 a1_0, .int .i64 a1_1, .int .i64 a1_2, .int .i64 a1_3] 42)
 have BX:((w.alloc (.cells #[.slice A0_0 l0_0.length c0_0] 31)).alloc (.cells #[.int .i64 a1_0, .int .i64 a1_1, .int .i64 a1_2, .int .i64 a1_3] 42)).heap[w.heap.size+1]?=some (.cells #[.int .i64 a1_0, .int .i64 a1_1, .int .i64 a1_2, .int .i64 a1_3] 42 (0,0)):=by have h:=heap_alloc_new (w.alloc (.cells #[.slice A0_0 l0_0.length c0_0] 31)) (.cells #[.int .i64 a1_0, .int .i64 a1_1, .int .i64 a1_2, .int .i64 a1_3] 42);simpa only [World.size_alloc] using h
 go_enter Tryd.func26,Tryd.ntmps26
 go_wp2
 refine wp_region_held (S:=(fun W':World=>W'.cell? ⟨w.heap.size+1,1,none⟩=some (.int .i64 a1_1)∧W'.cell? ⟨w.heap.size+1,2,none⟩=some (.int .i64 a1_2))) hmx ?_
 change wpAnyH _ _ _ _ _ _ _ _ (World.drew ((w.alloc (.cells #[.slice A0_0 l0_0.length c0_0] 31)).alloc (.cells #[.int .i64 a1_0, .int .i64 a1_1, .int .i64 a1_2, .int .i64 a1_3] 42)))
 have hS0:(fun W':World=>W'.cell? ⟨w.heap.size+1,1,none⟩=some (.int .i64 a1_1)∧W'.cell? ⟨w.heap.size+1,2,none⟩=some (.int .i64 a1_2)) (World.drew ((w.alloc (.cells #[.slice A0_0 l0_0.length c0_0] 31)).alloc (.cells #[.int .i64 a1_0, .int .i64 a1_1, .int .i64 a1_2, .int .i64 a1_3] 42))):=⟨sl1 (jI BX),sl2 (jI BX)⟩
 refine wpAnyH_take (i:=1) (v:=?_) rfl (by kernel_rfl) (by kernel_rfl) (by kernel_rfl) (fun _ _ _ h=>h) (Or.inl ⟨by rfl,?_⟩) hS0 ?_
 rotate_left
 ·rintro W' ⟨s1,s2⟩
  go_simp
  with_reducible rfl
 refine wpAnyH_take (i:=2) (v:=?_) rfl (by kernel_rfl) (by kernel_rfl) (by kernel_rfl) (fun _ _ _ h=>h) (Or.inl ⟨by rfl,?_⟩) hS0 ?_
 rotate_left
 ·rintro W' ⟨s1,s2⟩
  go_simp
  with_reducible rfl
 refine wpAnyH_take (i:=6) (v:=?_) rfl (by kernel_rfl) (by kernel_rfl) (by kernel_rfl) (fun _ _ _ h=>h) (Or.inl ⟨by rfl,?_⟩) hS0 ?_
 rotate_left
 ·rintro W' ⟨s1,s2⟩
  go_simp
  with_reducible rfl
 refine wpAnyH_take (i:=7) (v:=?_) rfl (by kernel_rfl) (by kernel_rfl) (by kernel_rfl) (fun _ _ _ h=>h) (Or.inl ⟨by rfl,?_⟩) hS0 ?_
 rotate_left
 ·rintro W' ⟨s1,s2⟩
  go_simp
  with_reducible rfl
 refine wpAnyH_all (rs:=[0]) (by kernel_rfl) (by simp) ?_
 intro ii hii
 obtain rfl:ii=0:=by simpa using hii
 clear hii
 refine wpOp_step rfl (fun K hK=>?_)
 go_simp
 refine (jXa.calls jeb _ rfl).mono ?_
 rintro e w4 ⟨v,rfl,hR,hb4⟩
 obtain ⟨Ao,co,eo⟩:=Kd.jKa hR
 subst eo
 obtain ⟨ad,rfl,hx⟩:=Kd.jWa (Kd.jT hR).2.2 a1_1 g2 g3
 replace hx:w4.cell? (ad.add a1_1.toNat)=some (.string nm):=by rw [← HN.out];exact hx
 have hB4:=am (jc (jJa hB2) hb4)
 clear hR
 have hS2:=And.intro (jk hb4 hS0.1) (jk hb4 hS0.2)
 refine hK _ _ ⟨hS2,?_⟩
 clear hK K
 refine wpAnyH_take (i:=3) (v:=?_) rfl (by kernel_rfl) (by kernel_rfl) (by kernel_rfl) (fun _ _ _ h=>h) (Or.inl ⟨by rfl,?_⟩) hS2 ?_
 rotate_left
 ·rintro W' ⟨s1,s2⟩
  go_simp
  with_reducible rfl
 refine wpAnyH_all (rs:=[4,8]) (by kernel_rfl) (by simp) ?_
 intro ii hii
 have hii2:ii=4∨ii=8:=by simpa using hii
 clear hii
 rcases hii2 with rfl | rfl
 ·refine wpOp_step rfl (fun K hK=>?_)
  go_simp
  refine hK _ _ ⟨hS2,?_⟩
  clear hK K
  refine wpAnyH_take (i:=5) (v:=?_) rfl (by kernel_rfl) (by kernel_rfl) (by kernel_rfl) (fun _ _ _ h=>h) (Or.inl ⟨by rfl,?_⟩) hS2 ?_
  rotate_left
  ·rintro W' ⟨s1,s2⟩
   go_simp
   with_reducible rfl
  refine wpAnyH_all (rs:=[8]) (by kernel_rfl) (by simp) ?_
  intro ii hii
  obtain rfl:ii=8:=by simpa using hii
  clear hii
  refine wpOp_step rfl (fun K hK=>?_)
  go_simp
  refine (jW.calls k _ _ _ HI.out).mono ?_
  rintro e w' ⟨rfl,⟨nd,rfl⟩⟩
  have hS3:(fun W':World=>W'.cell? ⟨w.heap.size+1,1,none⟩=some (.int .i64 a1_1)∧W'.cell? ⟨w.heap.size+1,2,none⟩=some (.int .i64 a1_2)) (w4.drewN nd):=hS2
  refine hK _ _ ⟨hS3,?_⟩
  clear hK K
  refine wpAnyH_take (i:=9) (v:=?_) rfl (by kernel_rfl) (by kernel_rfl) (by kernel_rfl) (fun _ _ _ h=>h) (Or.inl ⟨by rfl,?_⟩) hS3 ?_
  rotate_left
  ·rintro W' ⟨s1,s2⟩
   go_simp
   with_reducible rfl
  refine wpAnyH_take (i:=10) (v:=?_) rfl (by kernel_rfl) (by kernel_rfl) (by kernel_rfl) (fun _ _ _ h=>h) (Or.inl ⟨by rfl,?_⟩) hS3 ?_
  rotate_left
  ·rintro W' ⟨s1,s2⟩
   go_simp
   with_reducible rfl
  refine wpAnyH_done (by kernel_rfl) ?_ _
  rename_i K9 hK9
  refine hK9 _ _ ?_
  clear hK9
  go_simp
  go_wp2
  go_ret
  exact ⟨rfl,Y9⟩
 ·refine wpOp_step rfl (fun K hK=>?_)
  go_simp
  refine (jW.calls k _ _ _ HI.out).mono ?_
  rintro e w' ⟨rfl,⟨nd,rfl⟩⟩
  have hS3:(fun W':World=>W'.cell? ⟨w.heap.size+1,1,none⟩=some (.int .i64 a1_1)∧W'.cell? ⟨w.heap.size+1,2,none⟩=some (.int .i64 a1_2)) (w4.drewN nd):=hS2
  refine hK _ _ ⟨hS3,?_⟩
  clear hK K
  refine wpAnyH_all (rs:=[4]) (by kernel_rfl) (by simp) ?_
  intro ii hii
  obtain rfl:ii=4:=by simpa using hii
  clear hii
  refine wpOp_step rfl (fun K hK=>?_)
  have hx3:(w4.drewN nd).cell? (ad.add a1_1.toNat)=some (.string nm):=hx
  go_simp
  refine hK _ _ ⟨hS3,?_⟩
  clear hK K
  refine wpAnyH_take (i:=5) (v:=?_) rfl (by kernel_rfl) (by kernel_rfl) (by kernel_rfl) (fun _ _ _ h=>h) (Or.inl ⟨by rfl,?_⟩) hS3 ?_
  rotate_left
  ·rintro W' ⟨s1,s2⟩
   go_simp
   with_reducible rfl
  refine wpAnyH_take (i:=9) (v:=?_) rfl (by kernel_rfl) (by kernel_rfl) (by kernel_rfl) (fun _ _ _ h=>h) (Or.inl ⟨by rfl,?_⟩) hS3 ?_
  rotate_left
  ·rintro W' ⟨s1,s2⟩
   go_simp
   with_reducible rfl
  refine wpAnyH_take (i:=10) (v:=?_) rfl (by kernel_rfl) (by kernel_rfl) (by kernel_rfl) (fun _ _ _ h=>h) (Or.inl ⟨by rfl,?_⟩) hS3 ?_
  rotate_left
  ·rintro W' ⟨s1,s2⟩
   go_simp
   with_reducible rfl
  refine wpAnyH_done (by kernel_rfl) ?_ _
  rename_i K9 hK9
  refine hK9 _ _ ?_
  clear hK9
  go_simp
  go_wp2
  go_ret
  exact ⟨rfl,Y9⟩
set_option maxHeartbeats 8000000 in
set_option maxRecDepth 100000 in
theorem sl_raise (k : Nat) (A0_0 : Option Addr) (c0_0 : Nat) (l0_0 : List (S63)) (a1_0 a1_1 a1_2 a1_3 : Int) (N d : ByteArray) (w : World) (hr0_0 : Kd.C k63 w A0_0 l0_0.length l0_0) (hc0_0 : l0_0.length ≤ c0_0) (hk : a1_1 = 2) (f0 : 0 ≤ a1_2) (f1 : a1_2 < (l0_0.length : Int)) (hN : (jE l0_0 a1_2).f0 = N) (hNz : N.size ≤ 2000000) (hi : jW.f k a1_3 = some d) (hz : d.size ≤ 1000) :
  Calls Tryd.prog 26 #[.agg #[.slice A0_0 l0_0.length c0_0], .agg #[.int .i64 a1_0, .int .i64 a1_1, .int .i64 a1_2, .int .i64 a1_3]] w fun e w'=>e=.returned (.string ((((⟨#[114,97,105,115,101,32]⟩:ByteArray) ++ N) ++ (⟨#[32]⟩:ByteArray)) ++ d))∧Below w.heap.size w w':=by
 have hu31:=Tryd.underlying31
 have hu42:=Tryd.underlying42
 have hu63:=Tryd.underlying63
 have hmx:Tryd.prog.follows .mixedOrders=true:=by kernel_rfl
 have HI:=am hi
 clear hi
 have e1:(a1_1 == 1)=false:=by simp;omega
 have e4:(a1_1 == 4)=false:=by simp;omega
 have e12:(a1_1 == 12)=false:=by simp;omega
 have e2:(a1_1 == 2)=true:=by simpa using hk
 have e8:(a1_1 == 8)=false:=by simp;omega
 have e11:(a1_1 == 11)=false:=by simp;omega
 clear hk
 have z0:6+N.size≤9223372036854775807:=by omega
 have z1:=ezT z0
 have z2:=dzT z0
 have z3:(9223372036854775807<6+N.size)=False:=eq_false (Nat.not_lt.2 z0)
 have y0:6+N.size+1≤9223372036854775807:=by omega
 have y1:=ezT y0
 have y2:=dzT y0
 have y3:(9223372036854775807<6+N.size+1)=False:=eq_false (Nat.not_lt.2 y0)
 have x0:6+N.size+1+d.size≤9223372036854775807:=by omega
 have x1:=ezT x0
 have x2:=dzT x0
 have x3:(9223372036854775807<6+N.size+1+d.size)=False:=eq_false (Nat.not_lt.2 x0)
 have p2:=ezT f0
 have p3:=ezT f1
 have hB2:Below w.heap.size w ((w.alloc (.cells #[.slice A0_0 l0_0.length c0_0] 31)).alloc (.cells #[.int .i64 a1_0, .int .i64 a1_1, .int .i64 a1_2, .int .i64 a1_3] 42)):=((Below.refl w.heap.size w).alloc (Nat.le_refl _) _).alloc (by simp) _
 have BT:=jJ (heap_alloc_new w (.cells #[.slice A0_0 l0_0.length c0_0] 31)) (.cells #[.int .i64 a1_0, .int .i64 a1_1, .int .i64 a1_2, .int .i64 a1_3] 42)
 have BX:((w.alloc (.cells #[.slice A0_0 l0_0.length c0_0] 31)).alloc (.cells #[.int .i64 a1_0, .int .i64 a1_1, .int .i64 a1_2, .int .i64 a1_3] 42)).heap[w.heap.size+1]?=some (.cells #[.int .i64 a1_0, .int .i64 a1_1, .int .i64 a1_2, .int .i64 a1_3] 42 (0,0)):=by have h:=heap_alloc_new (w.alloc (.cells #[.slice A0_0 l0_0.length c0_0] 31)) (.cells #[.int .i64 a1_0, .int .i64 a1_1, .int .i64 a1_2, .int .i64 a1_3] 42);simpa only [World.size_alloc] using h
 go_enter Tryd.func26,Tryd.ntmps26
 have hB4:=am hB2
 obtain ⟨ad2,rfl,y4,y5⟩:=jJb (Kd.jH hr0_0 hB2) a1_2 f0 f1
 rw [hN] at y4
 replace BT:=show ((w.alloc (.cells #[.slice (some ad2) l0_0.length c0_0] 31)).alloc (.cells #[.int .i64 a1_0, .int .i64 a1_1, .int .i64 a1_2, .int .i64 a1_3] 42)).heap[w.heap.size]?=some (.cells #[.slice (some ad2) l0_0.length c0_0] 31 (0,0)) from BT
 go_wp2
 refine wp_region_held (S:=(fun W':World=>W'.cell? ⟨w.heap.size,0,none⟩=some (.slice (some ad2) l0_0.length c0_0)∧W'.cell? ⟨w.heap.size+1,2,none⟩=some (.int .i64 a1_2)∧W'.cell? ⟨w.heap.size+1,3,none⟩=some (.int .i64 a1_3)∧W'.cell? (ad2.add (a1_2.toNat * 2))=some (.string N))) hmx ?_
 change wpAnyH _ _ _ _ _ _ _ _ (World.drew ((w.alloc (.cells #[.slice (some ad2) l0_0.length c0_0] 31)).alloc (.cells #[.int .i64 a1_0, .int .i64 a1_1, .int .i64 a1_2, .int .i64 a1_3] 42)))
 have hS8:(fun W':World=>W'.cell? ⟨w.heap.size,0,none⟩=some (.slice (some ad2) l0_0.length c0_0)∧W'.cell? ⟨w.heap.size+1,2,none⟩=some (.int .i64 a1_2)∧W'.cell? ⟨w.heap.size+1,3,none⟩=some (.int .i64 a1_3)∧W'.cell? (ad2.add (a1_2.toNat * 2))=some (.string N)) (World.drew ((w.alloc (.cells #[.slice (some ad2) l0_0.length c0_0] 31)).alloc (.cells #[.int .i64 a1_0, .int .i64 a1_1, .int .i64 a1_2, .int .i64 a1_3] 42))):=⟨sl0 (jI BT),sl2 (jI BX),sl3 (jI BX),y4⟩
 refine wpAnyH_take (i:=0) (v:=?_) rfl (by kernel_rfl) (by kernel_rfl) (by kernel_rfl) (fun _ _ _ h=>h) (Or.inl ⟨by rfl,?_⟩) hS8 ?_
 rotate_left
 ·rintro W' ⟨s1,s2,s3,s4⟩
  go_simp
  with_reducible rfl
 refine wpAnyH_take (i:=1) (v:=?_) rfl (by kernel_rfl) (by kernel_rfl) (by kernel_rfl) (fun _ _ _ h=>h) (Or.inl ⟨by rfl,?_⟩) hS8 ?_
 rotate_left
 ·rintro W' ⟨s1,s2,s3,s4⟩
  go_simp
  with_reducible rfl
 refine wpAnyH_take (i:=2) (v:=?_) rfl (by kernel_rfl) (by kernel_rfl) (by kernel_rfl) (fun _ _ _ h=>h) (Or.inl ⟨by rfl,?_⟩) hS8 ?_
 rotate_left
 ·rintro W' ⟨s1,s2,s3,s4⟩
  go_simp
  with_reducible rfl
 refine wpAnyH_take (i:=3) (v:=?_) rfl (by kernel_rfl) (by kernel_rfl) (by kernel_rfl) (fun _ _ _ h=>h) (Or.inl ⟨by rfl,?_⟩) hS8 ?_
 rotate_left
 ·rintro W' ⟨s1,s2,s3,s4⟩
  go_simp
  with_reducible rfl
 refine wpAnyH_take (i:=4) (v:=?_) rfl (by kernel_rfl) (by kernel_rfl) (by kernel_rfl) (fun _ _ _ h=>h) (Or.inl ⟨by rfl,?_⟩) hS8 ?_
 rotate_left
 ·rintro W' ⟨s1,s2,s3,s4⟩
  go_simp
  with_reducible rfl
 refine wpAnyH_take (i:=5) (v:=?_) rfl (by kernel_rfl) (by kernel_rfl) (by kernel_rfl) (fun _ _ _ h=>h) (Or.inl ⟨by rfl,?_⟩) hS8 ?_
 rotate_left
 ·rintro W' ⟨s1,s2,s3,s4⟩
  go_simp
  with_reducible rfl
 refine wpAnyH_take (i:=6) (v:=?_) rfl (by kernel_rfl) (by kernel_rfl) (by kernel_rfl) (fun _ _ _ h=>h) (Or.inl ⟨by rfl,?_⟩) hS8 ?_
 rotate_left
 ·rintro W' ⟨s1,s2,s3,s4⟩
  go_simp
  with_reducible rfl
 refine wpAnyH_take (i:=7) (v:=?_) rfl (by kernel_rfl) (by kernel_rfl) (by kernel_rfl) (fun _ _ _ h=>h) (Or.inl ⟨by rfl,?_⟩) hS8 ?_
 rotate_left
 ·rintro W' ⟨s1,s2,s3,s4⟩
  go_simp
  with_reducible rfl
 refine wpAnyH_take (i:=8) (v:=?_) rfl (by kernel_rfl) (by kernel_rfl) (by kernel_rfl) (fun _ _ _ h=>h) (Or.inl ⟨by rfl,?_⟩) hS8 ?_
 rotate_left
 ·rintro W' ⟨s1,s2,s3,s4⟩
  go_simp
  with_reducible rfl
 refine wpAnyH_take (i:=9) (v:=?_) rfl (by kernel_rfl) (by kernel_rfl) (by kernel_rfl) (fun _ _ _ h=>h) (Or.inl ⟨by rfl,?_⟩) hS8 ?_
 rotate_left
 ·rintro W' ⟨s1,s2,s3,s4⟩
  go_simp
  with_reducible rfl
 refine wpAnyH_take (i:=10) (v:=?_) rfl (by kernel_rfl) (by kernel_rfl) (by kernel_rfl) (fun _ _ _ h=>h) (Or.inl ⟨by rfl,?_⟩) hS8 ?_
 rotate_left
 ·rintro W' ⟨s1,s2,s3,s4⟩
  go_simp
  with_reducible rfl
 refine wpAnyH_all (rs:=[11]) (by kernel_rfl) (by simp) ?_
 intro ii hii
 obtain rfl:ii=11:=by simpa using hii
 clear hii
 refine wpOp_step rfl (fun K hK=>?_)
 go_simp
 refine (jW.calls k _ _ _ HI.out).mono ?_
 rintro e w' ⟨rfl,⟨nd,rfl⟩⟩
 have hS9:(fun W':World=>W'.cell? ⟨w.heap.size,0,none⟩=some (.slice (some ad2) l0_0.length c0_0)∧W'.cell? ⟨w.heap.size+1,2,none⟩=some (.int .i64 a1_2)∧W'.cell? ⟨w.heap.size+1,3,none⟩=some (.int .i64 a1_3)∧W'.cell? (ad2.add (a1_2.toNat * 2))=some (.string N)) ((World.drew ((w.alloc (.cells #[.slice (some ad2) l0_0.length c0_0] 31)).alloc (.cells #[.int .i64 a1_0, .int .i64 a1_1, .int .i64 a1_2, .int .i64 a1_3] 42))).drewN nd):=hS8
 refine hK _ _ ⟨hS9,?_⟩
 clear hK K
 refine wpAnyH_take (i:=12) (v:=?_) rfl (by kernel_rfl) (by kernel_rfl) (by kernel_rfl) (fun _ _ _ h=>h) (Or.inl ⟨by rfl,?_⟩) hS9 ?_
 rotate_left
 ·rintro W' ⟨s1,s2,s3,s4⟩
  go_simp
  with_reducible rfl
 refine wpAnyH_take (i:=13) (v:=?_) rfl (by kernel_rfl) (by kernel_rfl) (by kernel_rfl) (fun _ _ _ h=>h) (Or.inl ⟨by rfl,?_⟩) hS9 ?_
 rotate_left
 ·rintro W' ⟨s1,s2,s3,s4⟩
  go_simp
  with_reducible rfl
 refine wpAnyH_done (by kernel_rfl) ?_ _
 rename_i K9 hK9
 refine hK9 _ _ ?_
 clear hK9
 go_simp
 go_wp2
 go_ret
 exact ⟨rfl,Y9⟩
set_option maxHeartbeats 8000000 in
set_option maxRecDepth 100000 in
theorem sl_except (k : Nat) (A0_0 : Option Addr) (c0_0 : Nat) (l0_0 : List (S63)) (a1_0 a1_1 a1_2 a1_3 : Int) (N : ByteArray) (w : World) (hr0_0 : Kd.C k63 w A0_0 l0_0.length l0_0) (hc0_0 : l0_0.length ≤ c0_0) (hk : a1_1 = 8) (f0 : 0 ≤ a1_2) (f1 : a1_2 < (l0_0.length : Int)) (hN : (jE l0_0 a1_2).f0 = N) (hNz : N.size ≤ 2000000) :
  Calls Tryd.prog 26 #[.agg #[.slice A0_0 l0_0.length c0_0], .agg #[.int .i64 a1_0, .int .i64 a1_1, .int .i64 a1_2, .int .i64 a1_3]] w fun e w'=>e=.returned (.string ((⟨#[101,120,99,101,112,116,32]⟩:ByteArray) ++ N))∧Below w.heap.size w w':=by
 have hu31:=Tryd.underlying31
 have hu42:=Tryd.underlying42
 have hu63:=Tryd.underlying63
 have hmx:Tryd.prog.follows .mixedOrders=true:=by kernel_rfl
 have e1:(a1_1 == 1)=false:=by simp;omega
 have e4:(a1_1 == 4)=false:=by simp;omega
 have e12:(a1_1 == 12)=false:=by simp;omega
 have e2:(a1_1 == 2)=false:=by simp;omega
 have e8:(a1_1 == 8)=true:=by simpa using hk
 have e11:(a1_1 == 11)=false:=by simp;omega
 clear hk
 have z0:7+N.size≤9223372036854775807:=by omega
 have z1:=ezT z0
 have z2:=dzT z0
 have z3:(9223372036854775807<7+N.size)=False:=eq_false (Nat.not_lt.2 z0)
 have p2:=ezT f0
 have p3:=ezT f1
 have hB2:Below w.heap.size w ((w.alloc (.cells #[.slice A0_0 l0_0.length c0_0] 31)).alloc (.cells #[.int .i64 a1_0, .int .i64 a1_1, .int .i64 a1_2, .int .i64 a1_3] 42)):=((Below.refl w.heap.size w).alloc (Nat.le_refl _) _).alloc (by simp) _
 have BT:=jJ (heap_alloc_new w (.cells #[.slice A0_0 l0_0.length c0_0] 31)) (.cells #[.int .i64 a1_0, .int .i64 a1_1, .int .i64 a1_2, .int .i64 a1_3] 42)
 have BX:((w.alloc (.cells #[.slice A0_0 l0_0.length c0_0] 31)).alloc (.cells #[.int .i64 a1_0, .int .i64 a1_1, .int .i64 a1_2, .int .i64 a1_3] 42)).heap[w.heap.size+1]?=some (.cells #[.int .i64 a1_0, .int .i64 a1_1, .int .i64 a1_2, .int .i64 a1_3] 42 (0,0)):=by have h:=heap_alloc_new (w.alloc (.cells #[.slice A0_0 l0_0.length c0_0] 31)) (.cells #[.int .i64 a1_0, .int .i64 a1_1, .int .i64 a1_2, .int .i64 a1_3] 42);simpa only [World.size_alloc] using h
 go_enter Tryd.func26,Tryd.ntmps26
 have hB4:=am hB2
 obtain ⟨ad2,rfl,y4,y5⟩:=jJb (Kd.jH hr0_0 hB2) a1_2 f0 f1
 rw [hN] at y4
 go_wp2
 go_ret
 exact ⟨rfl,Y9⟩
set_option maxHeartbeats 8000000 in
set_option maxRecDepth 100000 in
theorem sl_with (k : Nat) (A0_0 : Option Addr) (c0_0 : Nat) (l0_0 : List (S63)) (a1_0 a1_1 a1_2 a1_3 : Int) (d : ByteArray) (w : World) (hr0_0 : Kd.C k63 w A0_0 l0_0.length l0_0) (hc0_0 : l0_0.length ≤ c0_0) (hk : a1_1 = 11) (q3 : a1_3 ≠ 1) (hi : jW.f k a1_2 = some d) (hz : d.size ≤ 1000) :
  Calls Tryd.prog 26 #[.agg #[.slice A0_0 l0_0.length c0_0], .agg #[.int .i64 a1_0, .int .i64 a1_1, .int .i64 a1_2, .int .i64 a1_3]] w fun e w'=>e=.returned (.string ((⟨#[119,105,116,104,32]⟩:ByteArray) ++ d))∧Below w.heap.size w w':=by
 have hu31:=Tryd.underlying31
 have hu42:=Tryd.underlying42
 have hu63:=Tryd.underlying63
 have hmx:Tryd.prog.follows .mixedOrders=true:=by kernel_rfl
 have HI:=am hi
 clear hi
 have e1:(a1_1 == 1)=false:=by simp;omega
 have e4:(a1_1 == 4)=false:=by simp;omega
 have e12:(a1_1 == 12)=false:=by simp;omega
 have e2:(a1_1 == 2)=false:=by simp;omega
 have e8:(a1_1 == 8)=false:=by simp;omega
 have e11:(a1_1 == 11)=true:=by simpa using hk
 clear hk
 have e31:(a1_3 == 1)=false:=by simpa using q3
 clear q3
 have z0:5+d.size≤9223372036854775807:=by omega
 have z1:=ezT z0
 have z2:=dzT z0
 have z3:(9223372036854775807<5+d.size)=False:=eq_false (Nat.not_lt.2 z0)
 have y0:5+d.size+6≤9223372036854775807:=by omega
 have y1:=ezT y0
 have y2:=dzT y0
 have y3:(9223372036854775807<5+d.size+6)=False:=eq_false (Nat.not_lt.2 y0)
 have hB2:Below w.heap.size w ((w.alloc (.cells #[.slice A0_0 l0_0.length c0_0] 31)).alloc (.cells #[.int .i64 a1_0, .int .i64 a1_1, .int .i64 a1_2, .int .i64 a1_3] 42)):=((Below.refl w.heap.size w).alloc (Nat.le_refl _) _).alloc (by simp) _
 have BT:=jJ (heap_alloc_new w (.cells #[.slice A0_0 l0_0.length c0_0] 31)) (.cells #[.int .i64 a1_0, .int .i64 a1_1, .int .i64 a1_2, .int .i64 a1_3] 42)
 have BX:((w.alloc (.cells #[.slice A0_0 l0_0.length c0_0] 31)).alloc (.cells #[.int .i64 a1_0, .int .i64 a1_1, .int .i64 a1_2, .int .i64 a1_3] 42)).heap[w.heap.size+1]?=some (.cells #[.int .i64 a1_0, .int .i64 a1_1, .int .i64 a1_2, .int .i64 a1_3] 42 (0,0)):=by have h:=heap_alloc_new (w.alloc (.cells #[.slice A0_0 l0_0.length c0_0] 31)) (.cells #[.int .i64 a1_0, .int .i64 a1_1, .int .i64 a1_2, .int .i64 a1_3] 42);simpa only [World.size_alloc] using h
 go_enter Tryd.func26,Tryd.ntmps26
 have hB4:=am hB2
 go_wp2_with (go_at_call 48;refine (jW.calls k _ _ _ HI.out).mono ?_;rintro e w' ⟨rfl,⟨nd,rfl⟩⟩)
 go_ret
 exact ⟨rfl,Y9⟩
set_option maxHeartbeats 8000000 in
set_option maxRecDepth 100000 in
theorem sl_quiet (k : Nat) (A0_0 : Option Addr) (c0_0 : Nat) (l0_0 : List (S63)) (a1_0 a1_1 a1_2 a1_3 : Int) (d : ByteArray) (w : World) (hr0_0 : Kd.C k63 w A0_0 l0_0.length l0_0) (hc0_0 : l0_0.length ≤ c0_0) (hk : a1_1 = 11) (q3 : a1_3 = 1) (hi : jW.f k a1_2 = some d) (hz : d.size ≤ 1000) :
  Calls Tryd.prog 26 #[.agg #[.slice A0_0 l0_0.length c0_0], .agg #[.int .i64 a1_0, .int .i64 a1_1, .int .i64 a1_2, .int .i64 a1_3]] w fun e w'=>e=.returned (.string (((⟨#[119,105,116,104,32]⟩:ByteArray) ++ d) ++ (⟨#[32,113,117,105,101,116]⟩:ByteArray)))∧Below w.heap.size w w':=by
 have hu31:=Tryd.underlying31
 have hu42:=Tryd.underlying42
 have hu63:=Tryd.underlying63
 have hmx:Tryd.prog.follows .mixedOrders=true:=by kernel_rfl
 have HI:=am hi
 clear hi
 have e1:(a1_1 == 1)=false:=by simp;omega
 have e4:(a1_1 == 4)=false:=by simp;omega
 have e12:(a1_1 == 12)=false:=by simp;omega
 have e2:(a1_1 == 2)=false:=by simp;omega
 have e8:(a1_1 == 8)=false:=by simp;omega
 have e11:(a1_1 == 11)=true:=by simpa using hk
 clear hk
 have e31:(a1_3 == 1)=true:=by simpa using q3
 clear q3
 have z0:5+d.size≤9223372036854775807:=by omega
 have z1:=ezT z0
 have z2:=dzT z0
 have z3:(9223372036854775807<5+d.size)=False:=eq_false (Nat.not_lt.2 z0)
 have y0:5+d.size+6≤9223372036854775807:=by omega
 have y1:=ezT y0
 have y2:=dzT y0
 have y3:(9223372036854775807<5+d.size+6)=False:=eq_false (Nat.not_lt.2 y0)
 have hB2:Below w.heap.size w ((w.alloc (.cells #[.slice A0_0 l0_0.length c0_0] 31)).alloc (.cells #[.int .i64 a1_0, .int .i64 a1_1, .int .i64 a1_2, .int .i64 a1_3] 42)):=((Below.refl w.heap.size w).alloc (Nat.le_refl _) _).alloc (by simp) _
 have BT:=jJ (heap_alloc_new w (.cells #[.slice A0_0 l0_0.length c0_0] 31)) (.cells #[.int .i64 a1_0, .int .i64 a1_1, .int .i64 a1_2, .int .i64 a1_3] 42)
 have BX:((w.alloc (.cells #[.slice A0_0 l0_0.length c0_0] 31)).alloc (.cells #[.int .i64 a1_0, .int .i64 a1_1, .int .i64 a1_2, .int .i64 a1_3] 42)).heap[w.heap.size+1]?=some (.cells #[.int .i64 a1_0, .int .i64 a1_1, .int .i64 a1_2, .int .i64 a1_3] 42 (0,0)):=by have h:=heap_alloc_new (w.alloc (.cells #[.slice A0_0 l0_0.length c0_0] 31)) (.cells #[.int .i64 a1_0, .int .i64 a1_1, .int .i64 a1_2, .int .i64 a1_3] 42);simpa only [World.size_alloc] using h
 go_enter Tryd.func26,Tryd.ntmps26
 have hB4:=am hB2
 go_wp2_with (go_at_call 48;refine (jW.calls k _ _ _ HI.out).mono ?_;rintro e w' ⟨rfl,⟨nd,rfl⟩⟩)
 go_ret
 exact ⟨rfl,Y9⟩
set_option maxHeartbeats 8000000 in
set_option maxRecDepth 100000 in
theorem sl_plain (k : Nat) (A0_0 : Option Addr) (c0_0 : Nat) (l0_0 : List (S63)) (a1_0 a1_1 a1_2 a1_3 : Int) (w : World) (hr0_0 : Kd.C k63 w A0_0 l0_0.length l0_0) (hc0_0 : l0_0.length ≤ c0_0) (k1 : a1_1 ≠ 1) (k4 : a1_1 ≠ 4) (k12 : a1_1 ≠ 12) (k2 : a1_1 ≠ 2) (k8 : a1_1 ≠ 8) (k11 : a1_1 ≠ 11) (g2 : 0 ≤ a1_1) (g3 : a1_1 < (jeb.length : Int)) :
  Calls Tryd.prog 26 #[.agg #[.slice A0_0 l0_0.length c0_0], .agg #[.int .i64 a1_0, .int .i64 a1_1, .int .i64 a1_2, .int .i64 a1_3]] w fun e w'=>e=.returned (.string (jcb a1_1))∧Below w.heap.size w w':=by
 have hu31:=Tryd.underlying31
 have hu42:=Tryd.underlying42
 have hu63:=Tryd.underlying63
 have hmx:Tryd.prog.follows .mixedOrders=true:=by kernel_rfl
 have p0:=ezT g2
 have p1:=ezT g3
 have n1:=jBb a1_1
 obtain ⟨nm,hnm⟩:∃ nm,nm=jcb a1_1:=⟨_,rfl⟩
 rw [← hnm] at n1 ⊢
 have HN:=am (show jcb a1_1=nm from hnm.symm)
 clear hnm
 have e1:(a1_1 == 1)=false:=by simp;omega
 have e4:(a1_1 == 4)=false:=by simp;omega
 have e12:(a1_1 == 12)=false:=by simp;omega
 have e2:(a1_1 == 2)=false:=by simp;omega
 have e8:(a1_1 == 8)=false:=by simp;omega
 have e11:(a1_1 == 11)=false:=by simp;omega
 have hB2:Below w.heap.size w ((w.alloc (.cells #[.slice A0_0 l0_0.length c0_0] 31)).alloc (.cells #[.int .i64 a1_0, .int .i64 a1_1, .int .i64 a1_2, .int .i64 a1_3] 42)):=((Below.refl w.heap.size w).alloc (Nat.le_refl _) _).alloc (by simp) _
 have BT:=jJ (heap_alloc_new w (.cells #[.slice A0_0 l0_0.length c0_0] 31)) (.cells #[.int .i64 a1_0, .int .i64 a1_1, .int .i64 a1_2, .int .i64 a1_3] 42)
 have BX:((w.alloc (.cells #[.slice A0_0 l0_0.length c0_0] 31)).alloc (.cells #[.int .i64 a1_0, .int .i64 a1_1, .int .i64 a1_2, .int .i64 a1_3] 42)).heap[w.heap.size+1]?=some (.cells #[.int .i64 a1_0, .int .i64 a1_1, .int .i64 a1_2, .int .i64 a1_3] 42 (0,0)):=by have h:=heap_alloc_new (w.alloc (.cells #[.slice A0_0 l0_0.length c0_0] 31)) (.cells #[.int .i64 a1_0, .int .i64 a1_1, .int .i64 a1_2, .int .i64 a1_3] 42);simpa only [World.size_alloc] using h
 go_enter Tryd.func26,Tryd.ntmps26
 go_wp2
 refine wp_region_held (S:=(fun W':World=>W'.cell? ⟨w.heap.size+1,1,none⟩=some (.int .i64 a1_1))) hmx ?_
 change wpAnyH _ _ _ _ _ _ _ _ (World.drew ((w.alloc (.cells #[.slice A0_0 l0_0.length c0_0] 31)).alloc (.cells #[.int .i64 a1_0, .int .i64 a1_1, .int .i64 a1_2, .int .i64 a1_3] 42)))
 have hS0:(fun W':World=>W'.cell? ⟨w.heap.size+1,1,none⟩=some (.int .i64 a1_1)) (World.drew ((w.alloc (.cells #[.slice A0_0 l0_0.length c0_0] 31)).alloc (.cells #[.int .i64 a1_0, .int .i64 a1_1, .int .i64 a1_2, .int .i64 a1_3] 42))):=sl1 (jI BX)
 refine wpAnyH_take (i:=1) (v:=?_) rfl (by kernel_rfl) (by kernel_rfl) (by kernel_rfl) (fun _ _ _ h=>h) (Or.inl ⟨by rfl,?_⟩) hS0 ?_
 rotate_left
 ·rintro W' s1
  go_simp
  with_reducible rfl
 refine wpAnyH_take (i:=2) (v:=?_) rfl (by kernel_rfl) (by kernel_rfl) (by kernel_rfl) (fun _ _ _ h=>h) (Or.inl ⟨by rfl,?_⟩) hS0 ?_
 rotate_left
 ·rintro W' s1
  go_simp
  with_reducible rfl
 refine wpAnyH_all (rs:=[0]) (by kernel_rfl) (by simp) ?_
 intro ii hii
 obtain rfl:ii=0:=by simpa using hii
 clear hii
 refine wpOp_step rfl (fun K hK=>?_)
 go_simp
 refine (jXa.calls jeb _ rfl).mono ?_
 rintro e w4 ⟨v,rfl,hR,hb4⟩
 obtain ⟨Ao,co,eo⟩:=Kd.jKa hR
 subst eo
 obtain ⟨ad,rfl,hx⟩:=Kd.jWa (Kd.jT hR).2.2 a1_1 g2 g3
 replace hx:w4.cell? (ad.add a1_1.toNat)=some (.string nm):=by rw [← HN.out];exact hx
 have hB4:=am (jc (jJa hB2) hb4)
 clear hR
 have hS2:(fun W':World=>W'.cell? ⟨w.heap.size+1,1,none⟩=some (.int .i64 a1_1)) w4:=jk hb4 hS0
 refine hK _ _ ⟨hS2,?_⟩
 clear hK K
 refine wpAnyH_take (i:=3) (v:=?_) rfl (by kernel_rfl) (by kernel_rfl) (by kernel_rfl) (fun _ _ _ h=>h) (Or.inl ⟨by rfl,?_⟩) hS2 ?_
 rotate_left
 ·rintro W' s1
  go_simp
  with_reducible rfl
 refine wpAnyH_all (rs:=[4]) (by kernel_rfl) (by simp) ?_
 intro ii hii
 obtain rfl:ii=4:=by simpa using hii
 clear hii
 refine wpOp_step rfl (fun K hK=>?_)
 go_simp
 refine hK _ _ ⟨hS2,?_⟩
 clear hK K
 refine wpAnyH_take (i:=5) (v:=?_) rfl (by kernel_rfl) (by kernel_rfl) (by kernel_rfl) (fun _ _ _ h=>h) (Or.inl ⟨by rfl,?_⟩) hS2 ?_
 rotate_left
 ·rintro W' s1
  go_simp
  with_reducible rfl
 refine wpAnyH_done (by kernel_rfl) ?_ _
 rename_i K9 hK9
 refine hK9 _ _ ?_
 clear hK9
 go_simp
 go_wp2
 go_ret
 exact ⟨rfl,Y9⟩
theorem jUa.calls (k : Nat) (A0_0 : Option Addr) (c0_0 : Nat) (l0_0 : List (S63)) (a1_0 : Int) (a1_1 : Int) (a1_2 : Int) (a1_3 : Int) (r : ByteArray) (w : World) (hr0_0 : Kd.C k63 w A0_0 l0_0.length l0_0) (hc0_0 : l0_0.length ≤ c0_0) (h : jUa.f k l0_0 a1_0 a1_1 a1_2 a1_3 = some r) :
  Calls Tryd.prog 26 #[.agg #[.slice A0_0 l0_0.length c0_0], .agg #[.int .i64 a1_0, .int .i64 a1_1, .int .i64 a1_2, .int .i64 a1_3]] w fun e w'=>e=.returned (.string r)∧Below w.heap.size w w':=by
 have hlen:(jeb.length:Int)=13:=rfl
 unfold jUa.f at h
 by_cases k1:a1_1=1∨a1_1=4∨a1_1=12
 ·rw [if_pos k1] at h
  obtain ⟨d,hi,h⟩:=bzS h
  by_cases hz:d.size≤1000
  case neg=>rw [if_neg hz] at h;cases h
  rw [if_pos hz] at h
  obtain rfl:=Option.some.inj h
  rcases k1 with k1 | k1 | k1
  ·exact sl_num1 k A0_0 c0_0 l0_0 a1_0 a1_1 a1_2 a1_3 d w hr0_0 hc0_0 k1 (by omega) (by omega) hi hz
  ·exact sl_num4 k A0_0 c0_0 l0_0 a1_0 a1_1 a1_2 a1_3 d w hr0_0 hc0_0 k1 (by omega) (by omega) hi hz
  ·exact sl_num12 k A0_0 c0_0 l0_0 a1_0 a1_1 a1_2 a1_3 d w hr0_0 hc0_0 k1 (by omega) (by omega) hi hz
 ·rw [if_neg k1] at h
  by_cases k2:a1_1=2
  ·rw [if_pos k2] at h
   by_cases f0:0≤a1_2
   case neg=>rw [if_neg f0] at h;cases h
   rw [if_pos f0] at h
   by_cases f1:a1_2<(l0_0.length:Int)
   case neg=>rw [if_neg f1] at h;cases h
   rw [if_pos f1] at h
   by_cases f2:(jE l0_0 a1_2).f0.size≤2000000
   case neg=>rw [if_neg f2] at h;cases h
   rw [if_pos f2] at h
   obtain ⟨d,hi,h⟩:=bzS h
   by_cases hz:d.size≤1000
   case neg=>rw [if_neg hz] at h;cases h
   rw [if_pos hz] at h
   obtain rfl:=Option.some.inj h
   exact sl_raise k A0_0 c0_0 l0_0 a1_0 a1_1 a1_2 a1_3 _ d w hr0_0 hc0_0 k2 f0 f1 rfl f2 hi hz
  ·rw [if_neg k2] at h
   by_cases k8:a1_1=8
   ·rw [if_pos k8] at h
    by_cases f0:0≤a1_2
    case neg=>rw [if_neg f0] at h;cases h
    rw [if_pos f0] at h
    by_cases f1:a1_2<(l0_0.length:Int)
    case neg=>rw [if_neg f1] at h;cases h
    rw [if_pos f1] at h
    by_cases f2:(jE l0_0 a1_2).f0.size≤2000000
    case neg=>rw [if_neg f2] at h;cases h
    rw [if_pos f2] at h
    obtain rfl:=Option.some.inj h
    exact sl_except k A0_0 c0_0 l0_0 a1_0 a1_1 a1_2 a1_3 _ w hr0_0 hc0_0 k8 f0 f1 rfl f2
   ·rw [if_neg k8] at h
    by_cases k11:a1_1=11
    ·rw [if_pos k11] at h
     obtain ⟨d,hi,h⟩:=bzS h
     by_cases hz:d.size≤1000
     case neg=>rw [if_neg hz] at h;cases h
     rw [if_pos hz] at h
     by_cases q3:a1_3=1
     ·rw [if_pos q3] at h
      obtain rfl:=Option.some.inj h
      exact sl_quiet k A0_0 c0_0 l0_0 a1_0 a1_1 a1_2 a1_3 d w hr0_0 hc0_0 k11 q3 hi hz
     ·rw [if_neg q3] at h
      obtain rfl:=Option.some.inj h
      exact sl_with k A0_0 c0_0 l0_0 a1_0 a1_1 a1_2 a1_3 d w hr0_0 hc0_0 k11 q3 hi hz
    ·rw [if_neg k11] at h
     by_cases g:0≤a1_1∧a1_1<(jeb.length:Int)
     ·rw [if_pos g] at h
      obtain rfl:=Option.some.inj h
      exact sl_plain k A0_0 c0_0 l0_0 a1_0 a1_1 a1_2 a1_3 w hr0_0 hc0_0 (fun e=>k1 (.inl e)) (fun e=>k1 (.inr (.inl e))) (fun e=>k1 (.inr (.inr e))) k2 k8 k11 g.1 g.2
     ·rw [if_neg g] at h;cases h
mutual
def jr.l0 : Nat → List (S42) → ByteArray → Int → List (S63) → Option (ByteArray)
 | 0,_,_,_,_=>none
 | k+1,x1,x5,x6,x163000=>if x6<(x1.length:Int) then (if 0≤x6 then (jr.l1 k x1 x5 x6 ((jb x1 x6).f0) x163000) else (none)) else (some x5)
def jr.l1 : Nat → List (S42) → ByteArray → Int → Int → List (S63) → Option (ByteArray)
 | 0,_,_,_,_,_=>none
 | k+1,x1,x5,x6,x7,x163000=>if x7 > 0 then (if x5.size+1≤9223372036854775807 then (jr.l1 k x1 (x5 ++ (⟨#[32]⟩:ByteArray)) x6 (wrap64 (x7 - 1)) x163000) else (none)) else (if 0≤x6 then (if x6<(x1.length:Int) then ((jUa.f k x163000 ((jb x1 x6).f0) ((jb x1 x6).f1) ((jb x1 x6).f2) ((jb x1 x6).f3)).bind fun t165=>(if x5.size+t165.size≤9223372036854775807 then (if (x5 ++ t165).size+1≤9223372036854775807 then (jr.l0 k x1 ((x5 ++ t165) ++ (⟨#[10]⟩:ByteArray)) (wrap64 (x6+1)) x163000) else (none)) else (none))) else (none)) else (none))
end
def jr.f (k : Nat) (l0_0 : List (S63)) (l1 : List (S42)) : Option (ByteArray) := jr.l0 k l1 (⟨#[]⟩ : ByteArray) 0 l0_0
def jr.T9 : Bool × List (List Nat × List Nat) := (true, [([], []), ([], []), ([], []), ([], []), ([2, 3], [2, 3]), ([4], [4]), ([1, 5], [1, 5]), ([0, 6], [0, 6]), ([7], [7]), ([8, 6, 0, 1, 2, 3, 4, 5, 6, 7, 8], [0, 8])])
def jr.B9 : List Nat := [0, 0, 0, 0, 12, 28, 62, 127, 255, 511]
theorem jr.tab9 : rtab .any (opsOf Tryd.f14 9) = jr.T9 := by kernel_rfl
theorem jr.bits9 : waitsOk jr.T9.2 jr.B9 = true := by kernel_rfl
set_option maxHeartbeats 8000000 in
set_option maxRecDepth 100000 in
theorem jr.calls (k : Nat) (A0_0 : Option Addr) (c0_0 : Nat) (l0_0 : List (S63)) (A1 : Option Addr) (c1 : Nat) (l1 : List (S42)) (r : ByteArray) (w : World) (hr0_0 : Kd.C k63 w A0_0 l0_0.length l0_0) (hc0_0 : l0_0.length ≤ c0_0) (hr1 : Kd.C k42 w A1 l1.length l1) (hc1 : l1.length ≤ c1) (h : jr.f k l0_0 l1 = some r) :
  Calls Tryd.prog 14 #[.agg #[.slice A0_0 l0_0.length c0_0], .slice A1 l1.length c1] w fun e w'=>e=.returned (.string r)∧Below w.heap.size w w':=by
 have hu31:=Tryd.underlying31
 have hu42:=Tryd.underlying42
 have HR0_0:=am hr0_0
 have HC0_0:=am hc0_0
 clear hr0_0 hc0_0
 have HR1:=am hr1
 have HC1:=am hc1
 clear hr1 hc1
 have HB:=am (Below.refl w.heap.size w)
 have H:(jr.l0 k l1 (⟨#[]⟩:ByteArray) 0 l0_0)=some r:=h
 clear h
 have H':=am H
 clear H
 go_enter Tryd.func14,Tryd.ntmps14
 go_wp2_with (first |((with_reducible refine jN (N:=2) rfl ?_);refine bE (N:=2) (cs:=#[.slice A0_0 l0_0.length c0_0]) (t:=31) ?_;intro gb162 hg w3 hbox hb;have BK162:=am (hbox);have GW162:=am ((Y1:w.heap.size≤gb162));have GE162:=am ((Y1:w.heap.size≤gb162));replace HB:=am (jc (bq) hb);clear hb hbox hg))
 go_loopg [5,6] k (fun kq v5 v6 w'=>∃ (x5_1:ByteArray) (x6_1:Int),v5=.string x5_1∧v6=.int .i64 x6_1∧jD (jr.l0 kq l1 x5_1 x6_1 l0_0=some r)∧jD (kq≤k)∧jD (w'.heap[gb162]?=some (.cells #[(.slice A0_0 l0_0.length c0_0)] 31 (0,0)))∧jD (Below w.heap.size w w'))
 case atStart=>exact ⟨((⟨#[]⟩:ByteArray)),(0),(sq),(sq),H',⟨Nat.le_refl _⟩,⟨kq BK162.out⟩,⟨Y14⟩⟩
 case round =>
  clear H'
  try clear c1
  try clear p2
  obtain ⟨x5_1,x6_1,rfl,rfl,HA,HK1,BK162,HB⟩:=hrel
  cases gk with
  | zero=>exact absurd HA.out (by simp [jr.l0])
  | succ k1 =>
   have H:=HA.out
   clear HA
   simp only [jr.l0] at H
   by_cases c4:x6_1<(l1.length:Int)
   ·rw [if_pos c4] at H
    have c4b0:decide (x6_1<(l1.length:Int))=true:=dzT c4
    clear c4
    by_cases c5:0≤x6_1
    ·rw [if_pos c5] at H
     have c5b0:decide (0≤x6_1)=true:=dzT c5
     clear c5
     have H':=am H
     clear H
     have p163:0≤(x6_1:Int):=ozD (uq)
     have q163:x6_1<(l1.length:Int):=ozD (uq)
     obtain ⟨ad163,e163,hx163_0,hx163_1,hx163_2,hx163_3⟩:=jla HR1.out x6_1 p163 q163
     cases e163
     replace hx163_0:=cb HB.out hx163_0
     replace hx163_1:=cb HB.out hx163_1
     replace hx163_2:=cb HB.out hx163_2
     replace hx163_3:=cb HB.out hx163_3
     replace p163:=ezT p163
     replace q163:=ezT q163
     go_wp2
     go_loopg [5,7] k1 (fun kq v5 v7 w'=>∃ (x5_2:ByteArray) (x7_2:Int),v5=.string x5_2∧v7=.int .i64 x7_2∧jD (jr.l1 kq l1 x5_2 x6_1 x7_2 l0_0=some r)∧jD (kq≤k1)∧jD (w'.heap[gb162]?=some (.cells #[(.slice A0_0 l0_0.length c0_0)] 31 (0,0)))∧jD (Below w.heap.size w w'))
     case atStart=>exact ⟨(x5_1),((jb l1 x6_1).f0),(sq),(sq),H',⟨Nat.le_refl _⟩,⟨kq BK162.out⟩,⟨Y14⟩⟩
     case round =>
      clear H'
      try clear c1
      try clear p1
      try clear q1
      try clear hx1
      try clear p2
      try clear c4
      try clear c4b0
      try clear c5
      try clear c5b0
      try clear hx163_0
      try clear hx163_1
      try clear hx163_2
      try clear hx163_3
      try clear p163
      try clear p2
      try clear q163
      obtain ⟨x5_2,x7_2,rfl,rfl,HA,HK2,BK162,HB⟩:=hrel
      cases gk with
      | zero=>exact absurd HA.out (by simp [jr.l1])
      | succ k2 =>
       have H:=HA.out
       clear HA
       simp only [jr.l1] at H
       by_cases c6:x7_2 > 0
       ·rw [if_pos c6] at H
        have c6b0:decide (0<x7_2)=true:=dzT c6
        clear c6
        by_cases c7:x5_2.size+1≤9223372036854775807
        ·rw [if_pos c7] at H
         have c7b0:=ezT c7
         have c7b1:decide (x5_2.size+1≤9223372036854775807)=true:=dzT c7
         try have c7b2:(9223372036854775807<x5_2.size+1)=False:=eq_false (Nat.not_lt.2 c7)
         have H':=am H
         clear H
         go_wp2
         go_roundg k2
         case measure=>have:=HK1.out;have:=HK2.out;omega
         case rel=>exact ⟨(x5_2 ++ (⟨#[32]⟩:ByteArray)),(wrap64 (x7_2 - 1)),(sq),(sq),H',⟨by have:=HK1.out;have:=HK2.out;omega⟩,⟨kq BK162.out⟩,⟨Y14⟩⟩
        ·rw [if_neg c7] at H
         exact absurd H (by simp)
       ·rw [if_neg c6] at H
        have c6b0:decide (0<x7_2)=false:=dzF c6
        clear c6
        by_cases c8:0≤x6_1
        ·rw [if_pos c8] at H
         have c8b0:decide (0≤x6_1)=true:=dzT c8
         clear c8
         by_cases c9:x6_1<(l1.length:Int)
         ·rw [if_pos c9] at H
          have c9b0:decide (x6_1<(l1.length:Int))=true:=dzT c9
          clear c9
          replace H:=bzS H
          obtain ⟨t165,A100,H⟩:=H
          replace H:(if x5_2.size+t165.size≤9223372036854775807 then (if (x5_2 ++ t165).size+1≤9223372036854775807 then (jr.l0 k2 l1 ((x5_2 ++ t165) ++ (⟨#[10]⟩:ByteArray)) (wrap64 (x6_1+1)) l0_0) else (none)) else (none))=some r:=H
          have A10:=am A100
          clear A100
          by_cases c11:x5_2.size+t165.size≤9223372036854775807
          ·rw [if_pos c11] at H
           have c11b0:=ezT c11
           have c11b1:decide (x5_2.size+t165.size≤9223372036854775807)=true:=dzT c11
           try have c11b2:(9223372036854775807<x5_2.size+t165.size)=False:=eq_false (Nat.not_lt.2 c11)
           by_cases c12:(x5_2 ++ t165).size+1≤9223372036854775807
           ·rw [if_pos c12] at H
            have c12b0:=ezT c12
            have c12b1:decide ((x5_2 ++ t165).size+1≤9223372036854775807)=true:=dzT c12
            try have c12b2:(9223372036854775807<(x5_2 ++ t165).size+1)=False:=eq_false (Nat.not_lt.2 c12)
            try have c12s:(9223372036854775807<x5_2.size+t165.size+1)=False:=eq_false (Nat.not_lt.2 (by have h_:=c12;simp only [ByteArray.size_append] at h_;exact h_))
            have H':=am H
            clear H
            try go_wp2
            replace BK162:=am (jI BK162.out)
            replace HB:=am (jy HB.out)
            have p164:0≤(x6_1:Int):=ozD (uq)
            have q164:x6_1<(l1.length:Int):=ozD (uq)
            obtain ⟨ad164,e164,hx164_0,hx164_1,hx164_2,hx164_3⟩:=jla HR1.out x6_1 p164 q164
            have hw164_3:=hx164_3
            have hw164_2:=hx164_2
            have hw164_1:=hx164_1
            have hw164_0:=hx164_0
            obtain rfl:ad163=ad164:=(by injection e164)
            replace hx164_0:=cb HB.out hx164_0
            replace hx164_1:=cb HB.out hx164_1
            replace hx164_2:=cb HB.out hx164_2
            replace hx164_3:=cb HB.out hx164_3
            replace p164:=ezT p164
            replace q164:=ezT q164
            refine start_ (n:=10) (S:=fun w'=>w'.cell? ⟨gb162,0,none⟩=some (.slice A0_0 l0_0.length c0_0)∧w'.cell? (ad163.add ((x6_1).toNat * 4))=some (.int .i64 ((jb l1 x6_1).f0))∧w'.cell? ⟨(ad163.add ((x6_1).toNat * 4)).block,(ad163.add ((x6_1).toNat * 4)).off+1,none⟩=some (.int .i64 ((jb l1 x6_1).f1))∧w'.cell? ⟨(ad163.add ((x6_1).toNat * 4)).block,(ad163.add ((x6_1).toNat * 4)).off+2,none⟩=some (.int .i64 ((jb l1 x6_1).f2))∧w'.cell? ⟨(ad163.add ((x6_1).toNat * 4)).block,(ad163.add ((x6_1).toNat * 4)).off+3,none⟩=some (.int .i64 ((jb l1 x6_1).f3))) (ds:=[]) #[false,false,false,false,false,false,false,false,false,false] (by kernel_rfl) rfl rfl ⟨(joa BK162.out 0).trans rfl,((HB.out.cell (World.block_lt_of_cell? w _ hw164_0)).trans hw164_0),((HB.out.cell (World.block_lt_of_cell? w _ hw164_1)).trans hw164_1),((HB.out.cell (World.block_lt_of_cell? w _ hw164_2)).trans hw164_2),((HB.out.cell (World.block_lt_of_cell? w _ hw164_3)).trans hw164_3)⟩ (fun hHeld=>?_);refine with_tabW jr.tab9 jr.bits9 (fun HT_ HW_=>?_)
            generalize wr.drew=w13 at BK162 HB hx164_0 hx164_1 hx164_2 hx164_3 hHeld ⊢
            refine pq (i:=0) (N:=some 25) #[true,false,false,false,false,false,false,false,false,false] ?_
            refine pq (i:=2) (N:=some 27) #[true,false,true,false,false,false,false,false,false,false] ?_
            refine pq (i:=3) (N:=some 28) #[true,false,true,true,false,false,false,false,false,false] ?_
            refine pq (i:=4) (N:=some 29) #[true,false,true,true,true,false,false,false,false,false] ?_
            refine take_ (i:=1) (N:=some 26) (v:=?_) (a':=?_) #[true,true,true,true,true,false,false,false,false,false] rfl rfl (jpb HT_.out HW_.out (by kernel_rfl)) (fun _ _ _ h=>h) (Or.inl ⟨by rfl,?_⟩) hHeld ?_ ?_
            rotate_left
            ·rintro w' ⟨s0,s1,s2,s3,s4⟩
             go_simp
             with_reducible rfl
            rotate_left
            ·exact sa
            refine take_ (i:=5) (N:=some 30) (v:=?_) (a':=?_) #[true,true,true,true,true,true,false,false,false,false] rfl rfl (jpb HT_.out HW_.out (by kernel_rfl)) (fun _ _ _ h=>h) (Or.inl ⟨by rfl,?_⟩) hHeld ?_ ?_
            rotate_left
            ·rintro w' ⟨s0,s1,s2,s3,s4⟩
             go_simp
             with_reducible rfl
            rotate_left
            ·exact sa
            refine one_ (i:=6) (N:=some 31) #[true,true,true,true,true,true,true,false,false,false] rfl rfl (one_of HT_.out (by kernel_rfl)) (by decide) (fun K hK=>?_)
            refine goes_ Tryd.func26 (by kernel_rfl) rfl #[.agg #[.slice A0_0 l0_0.length c0_0], .agg #[.int .i64 ((jb l1 x6_1).f0), .int .i64 ((jb l1 x6_1).f1), .int .i64 ((jb l1 x6_1).f2), .int .i64 ((jb l1 x6_1).f3)]] (by rfl) rfl rfl (aq) ?_
            with_reducible refine (jUa.calls k2 _ _ l0_0 ((jb l1 x6_1).f0) ((jb l1 x6_1).f1) ((jb l1 x6_1).f2) ((jb l1 x6_1).f3) t165 _ ?side1 ?side2 A10.out).mono ?_
            (case side1=>exact cq (Kd.jH HR0_0.out HB.out))
            (case side2=>exact HC0_0.out)
            rintro e w14 ⟨rfl,hb⟩
            refine ⟨_,rfl,?_⟩
            replace BK162:=am (ji (g:=gb162) (o:=.cells #[.slice A0_0 l0_0.length c0_0] 31 (0,0)) (kq BK162.out) hb)
            replace HB:=am (jc (Y14) hb)
            (try clear hb)
            (try clear hb2)
            (try clear hk)
            (try clear hi)
            refine hK.out _ _ ⟨(joa BK162.out 0).trans rfl,((HB.out.cell (World.block_lt_of_cell? w _ hw164_0)).trans hw164_0),((HB.out.cell (World.block_lt_of_cell? w _ hw164_1)).trans hw164_1),((HB.out.cell (World.block_lt_of_cell? w _ hw164_2)).trans hw164_2),((HB.out.cell (World.block_lt_of_cell? w _ hw164_3)).trans hw164_3)⟩ (fun hHeld=>?_)
            clear hK K
            refine norm_ (a':=?_) ?_ ?_
            rotate_left
            ·show Act.put _ (some 31) _=_
             simp only [Act.put,List.setIfInBounds_toArray,List.set_cons_zero,List.set_cons_succ,jlb,job]
             rfl
            refine pq (i:=7) (N:=some 32) #[true,true,true,true,true,true,true,true,false,false] ?_
            refine pq (i:=8) (N:=some 33) #[true,true,true,true,true,true,true,true,true,false] ?_
            refine pq (i:=9) (N:=some 5) #[true,true,true,true,true,true,true,true,true,true] ?_
            refine done_ (done_of HT_.out (by kernel_rfl)) ?_
            try go_wp2
            go_roundg k2
            case measure=>have:=HK1.out;have:=HK2.out;omega
            case rel=>exact ⟨((x5_2 ++ t165) ++ (⟨#[10]⟩:ByteArray)),(wrap64 (x6_1+1)),(sq),(sq),H',⟨by have:=HK1.out;have:=HK2.out;omega⟩,⟨kq BK162.out⟩,⟨Y14⟩⟩
           ·rw [if_neg c12] at H
            exact absurd H (by simp)
          ·rw [if_neg c11] at H
           exact absurd H (by simp)
         ·rw [if_neg c9] at H
          exact absurd H (by simp)
        ·rw [if_neg c8] at H
         exact absurd H (by simp)
    ·rw [if_neg c5] at H
     exact absurd H (by simp)
   ·rw [if_neg c4] at H
    have c4b0:decide (x6_1<(l1.length:Int))=false:=dzF c4
    clear c4
    obtain rfl:=Option.some.inj H
    go_wp2
    go_ret
    exact ⟨Y0,Y14⟩
end Go.Proofs.YtegpknnlggkcpaaDoor.P
end
