/- One part of the proofs on this program: functions of the program as plain functions, that the code comes to them, and facts on them. -/
import Derived.LoopIn
import Derived.LoopNIn
import Derived.Maps.AppendAt
import Derived.OwnWalkIn
import Derived.RangeFuncBound
import Derived.RangeFuncBox
import Derived.RangeFuncCalls
import Derived.RangeFuncLeaves
import Derived.RangeFuncNested
import Derived.Shelf.Abstract
import Derived.Shelf.RegionOpen
import Derived.TacticsInMore
import Derived.WalkKit
import Derived.Test.YtbcjbcjpoddkoaaYAll1
import Derived.Test.YtbcjbcjpoddkoaaYWAuto
section
namespace Go.Proofs.Ytbcjbcjpoddkoaa.P
open Go.RowKit Go.Proofs.YtbcjbcjpoddkoaaW.PrintWords Go.Proofs.YtbcjbcjpoddkoaaW.PrintLast Go.Proofs.YtbcjbcjpoddkoaaW.PrintMore
attribute [local go_sem] jla jja jya jxa jY jX jka jia jh
set_option linter.unusedVariables false
set_option linter.unusedSimpArgs false
mutual
def jD.l0 : Nat → List (S98) → Int → Int → List (S98) → Option (Bool)
 | 0,_,_,_,_=>none
 | k+1,x6,x7,x8,x214000=>if x8<x7 then (if 0≤x8 then (if x8<(x6.length:Int) then ((jNa.f k ((jba x6 x8).f0)).bind fun t217=>(if t217=true then ((jTa.f x214000 ((jba x6 x8).f0)).bind fun t218=>(if t218=x8 then (if x8=0 then (if ((jba x6 x8).f1)=(-1) then (if x8 > 0 then ((jI.f ((jba x6 x8).f1) 0 (wrap64 (x8 - 1))).bind fun t219=>(jD.j1 k x6 x7 x8 (!t219) x214000)) else (jD.j1 k x6 x7 x8 false x214000)) else (jD.j1 k x6 x7 x8 true x214000)) else (if x8 > 0 then ((jI.f ((jba x6 x8).f1) 0 (wrap64 (x8 - 1))).bind fun t220=>(jD.j1 k x6 x7 x8 (!t220) x214000)) else (jD.j1 k x6 x7 x8 false x214000))) else (jD.j1 k x6 x7 x8 true x214000))) else (jD.j1 k x6 x7 x8 true x214000))) else (none)) else (none)) else ((jI.f (x214000.length:Int) 1 8).bind fun t214=>(some t214))
def jD.j1 : Nat → List (S98) → Int → Int → Bool → List (S98) → Option (Bool)
 | 0,_,_,_,_,_=>none
 | k+1,x6,x7,x8,x45,x214000=>if x45=true then (some false) else (jD.l0 k x6 x7 (wrap64 (x8+1)) x214000)
end
def jD.f (k : Nat) (l0_0 : List (S98)) : Option (Bool) := jD.l0 k l0_0 (l0_0.length : Int) 0 l0_0
set_option maxHeartbeats 8000000 in
set_option maxRecDepth 100000 in
theorem jD.calls (k : Nat) (A0_0 : Option Addr) (c0_0 : Nat) (l0_0 : List (S98)) (r : Bool) (w : World) (hr0_0 : Kd.C k98 w A0_0 l0_0.length l0_0) (hc0_0 : l0_0.length ≤ c0_0) (h : jD.f k l0_0 = some r) :
  Calls Try.prog 43 #[.agg #[.slice A0_0 l0_0.length c0_0]] w fun e w'=>e=.returned (.bool r)∧Below w.heap.size w w':=by
 have hu32:=Try.underlying32
 have hu98:=Try.underlying98
 have HR0_0:=am hr0_0
 have HC0_0:=am hc0_0
 clear hr0_0 hc0_0
 have HB:=am (Below.refl w.heap.size w)
 have H:(jD.l0 k l0_0 (l0_0.length:Int) 0 l0_0)=some r:=h
 clear h
 have H':=am H
 clear H
 go_enter Try.func43,Try.ntmps43
 go_wp2_with (first |((with_reducible refine jS (N:=1) rfl ?_);refine bE (N:=1) (cs:=#[.slice A0_0 l0_0.length c0_0]) (t:=32) ?_;intro gb213 hg w2 hbox hb;have BK213:=am (hbox);have GW213:=am ((Y9:w.heap.size≤gb213));have GE213:=am ((Y9:w.heap.size≤gb213));replace HB:=am (jg (bq) hb);clear hb hbox hg;have hcz3_0:=bc0 BK213.out;have hfz3_0:=ja BK213.out 0))
 go_loopg [8] k (fun kq v8 w'=>∃ (x8_1:Int),v8=.int .i64 x8_1∧jl (jD.l0 kq l0_0 (l0_0.length:Int) x8_1 l0_0=some r)∧jl (kq≤k)∧jl (w'.heap[gb213]?=some (.cells #[(.slice A0_0 l0_0.length c0_0)] 32 (0,0)))∧jl (Below w.heap.size w w'))
 case atStart=>exact ⟨(0),(sq),H',⟨Nat.le_refl _⟩,⟨kq BK213.out⟩,⟨Y85⟩⟩
 case round =>
  clear H'
  try clear p2
  try clear hcz3_0
  try clear hfz3_0
  obtain ⟨x8_1,rfl,HA,HK1,BK213,HB⟩:=hrel
  cases gk with
  | zero=>exact absurd HA.out (by simp [jD.l0])
  | succ k1 =>
   have H:=HA.out
   clear HA
   simp only [jD.l0] at H
   by_cases c4:x8_1<(l0_0.length:Int)
   ·rw [if_pos c4] at H
    have c4b0:decide (x8_1<(l0_0.length:Int))=true:=dzT c4
    clear c4
    by_cases c5:0≤x8_1
    ·rw [if_pos c5] at H
     have c5b0:decide (0≤x8_1)=true:=dzT c5
     clear c5
     by_cases c6:x8_1<(l0_0.length:Int)
     ·rw [if_pos c6] at H
      have c6b0:decide (x8_1<(l0_0.length:Int))=true:=dzT c6
      clear c6
      have HC7:=am H
      clear H
      have p215:0≤(x8_1:Int):=ozD (uq)
      have q215:x8_1<(l0_0.length:Int):=ozD (uq)
      obtain ⟨ad215,e215,hx215_0,hx215_1⟩:=at_T98 HR0_0.out x8_1 p215 q215
      cases e215
      replace hx215_0:=cb HB.out hx215_0
      replace hx215_1:=cb HB.out hx215_1
      replace p215:=ezT p215
      replace q215:=ezT q215
      go_upto_region 4 with (first |((with_reducible refine jS (N:=4) rfl ?_);refine bE (N:=4) (cs:=#[.string (⟨#[]⟩:ByteArray), .int .i64 0]) (t:=98) ?_;intro gb216 hg w8 hbox hb;have BK216:=am (hbox);have GW216:=am ((Y94:w.heap.size≤gb216));have GE216:=am ((Y94:w.heap.size≤gb216));have NB213_216:=am ((by rw [hg];exact Nat.ne_of_lt (jrb (g:=gb213) (o:=.cells #[.slice (some ad215) l0_0.length c0_0] 32 (0,0)) (kq BK213.out)):gb213≠gb216));have NB216_213:=am ((by rw [hg];exact Nat.ne_of_gt (jrb (g:=gb213) (o:=.cells #[.slice (some ad215) l0_0.length c0_0] 32 (0,0)) (kq BK213.out)):gb216≠gb213));replace BK213:=am (jo (g:=gb213) (o:=.cells #[.slice (some ad215) l0_0.length c0_0] 32 (0,0)) (kq BK213.out) hb);replace HB:=am (jg (Y85) hb);clear hb hbox hg;have hnb9:=NB216_213.out;have hnc9:=NB213_216.out;have hcz10_0:=bc0 BK216.out;have hcz10_1:=bc1 BK216.out;have hfz10_0:=ja BK216.out 0;have hfz10_1:=ja BK216.out 1))
      (try simp only [Act.put,List.setIfInBounds_toArray,List.set_cons_zero,List.set_cons_succ])
      go_cut [45] (fun v45 wc=>∃ (kq:Nat) (x45_6:Bool),v45=.bool x45_6∧jl (jD.j1 kq l0_0 (l0_0.length:Int) x8_1 x45_6 l0_0=some r)∧jl (kq≤k1)∧jl (wc.heap[gb213]?=some (.cells #[(.slice (some ad215) l0_0.length c0_0)] 32 (0,0)))∧jl (wc.heap[gb216]?=some (.cells #[.string ((jba l0_0 x8_1).f0), .int .i64 ((jba l0_0 x8_1).f1)] 98 (0,0)))∧jl (Below w.heap.size w wc))
      case first =>
       have H:=HC7.out
       clear HC7
       replace H:=bzS H
       obtain ⟨t217,A110,H⟩:=H
       replace H:(if t217=true then ((jTa.f l0_0 ((jba l0_0 x8_1).f0)).bind fun t218=>(if t218=x8_1 then (if x8_1=0 then (if ((jba l0_0 x8_1).f1)=(-1) then (if x8_1 > 0 then ((jI.f ((jba l0_0 x8_1).f1) 0 (wrap64 (x8_1 - 1))).bind fun t219=>(jD.j1 k1 l0_0 (l0_0.length:Int) x8_1 (!t219) l0_0)) else (jD.j1 k1 l0_0 (l0_0.length:Int) x8_1 false l0_0)) else (jD.j1 k1 l0_0 (l0_0.length:Int) x8_1 true l0_0)) else (if x8_1 > 0 then ((jI.f ((jba l0_0 x8_1).f1) 0 (wrap64 (x8_1 - 1))).bind fun t220=>(jD.j1 k1 l0_0 (l0_0.length:Int) x8_1 (!t220) l0_0)) else (jD.j1 k1 l0_0 (l0_0.length:Int) x8_1 false l0_0))) else (jD.j1 k1 l0_0 (l0_0.length:Int) x8_1 true l0_0))) else (jD.j1 k1 l0_0 (l0_0.length:Int) x8_1 true l0_0))=some r:=H
       have A11:=am A110
       clear A110
       by_cases c12:t217=true
       ·subst c12
        have H1:((jTa.f l0_0 ((jba l0_0 x8_1).f0)).bind fun t218=>(if t218=x8_1 then (if x8_1=0 then (if ((jba l0_0 x8_1).f1)=(-1) then (if x8_1 > 0 then ((jI.f ((jba l0_0 x8_1).f1) 0 (wrap64 (x8_1 - 1))).bind fun t219=>(jD.j1 k1 l0_0 (l0_0.length:Int) x8_1 (!t219) l0_0)) else (jD.j1 k1 l0_0 (l0_0.length:Int) x8_1 false l0_0)) else (jD.j1 k1 l0_0 (l0_0.length:Int) x8_1 true l0_0)) else (if x8_1 > 0 then ((jI.f ((jba l0_0 x8_1).f1) 0 (wrap64 (x8_1 - 1))).bind fun t220=>(jD.j1 k1 l0_0 (l0_0.length:Int) x8_1 (!t220) l0_0)) else (jD.j1 k1 l0_0 (l0_0.length:Int) x8_1 false l0_0))) else (jD.j1 k1 l0_0 (l0_0.length:Int) x8_1 true l0_0)))=some r:=by rw [if_pos rfl] at H;exact H
        clear H
        have H:=H1
        clear H1
        replace H:=bzS H
        obtain ⟨t218,A130,H⟩:=H
        replace H:(if t218=x8_1 then (if x8_1=0 then (if ((jba l0_0 x8_1).f1)=(-1) then (if x8_1 > 0 then ((jI.f ((jba l0_0 x8_1).f1) 0 (wrap64 (x8_1 - 1))).bind fun t219=>(jD.j1 k1 l0_0 (l0_0.length:Int) x8_1 (!t219) l0_0)) else (jD.j1 k1 l0_0 (l0_0.length:Int) x8_1 false l0_0)) else (jD.j1 k1 l0_0 (l0_0.length:Int) x8_1 true l0_0)) else (if x8_1 > 0 then ((jI.f ((jba l0_0 x8_1).f1) 0 (wrap64 (x8_1 - 1))).bind fun t220=>(jD.j1 k1 l0_0 (l0_0.length:Int) x8_1 (!t220) l0_0)) else (jD.j1 k1 l0_0 (l0_0.length:Int) x8_1 false l0_0))) else (jD.j1 k1 l0_0 (l0_0.length:Int) x8_1 true l0_0))=some r:=H
        have A13:=am A130
        clear A130
        by_cases c14:t218=x8_1
        ·rw [if_pos c14] at H
         have c14b0:(t218 == x8_1)=true:=beq_iff_eq.mpr c14
         have c14b1:(t218 != x8_1)=false:=bne_eq_false_iff_eq.mpr c14
         clear c14
         (first | rw [c14b0] |(simp only [jlb,jmb];rw [c14b0]) | skip)
         by_cases c15:x8_1=0
         ·rw [if_pos c15] at H
          have c15b0:(x8_1 == 0)=true:=beq_iff_eq.mpr c15
          have c15b1:(x8_1 != 0)=false:=bne_eq_false_iff_eq.mpr c15
          clear c15
          by_cases c16:((jba l0_0 x8_1).f1)=(-1)
          ·rw [if_pos c16] at H
           have c16b0:(((jba l0_0 x8_1).f1) == (-1))=true:=beq_iff_eq.mpr c16
           have c16b1:(((jba l0_0 x8_1).f1) != (-1))=false:=bne_eq_false_iff_eq.mpr c16
           clear c16
           by_cases c17:x8_1 > 0
           ·rw [if_pos c17] at H
            have c17b0:decide (0<x8_1)=true:=dzT c17
            clear c17
            replace H:=bzS H
            obtain ⟨t219,A180,H⟩:=H
            replace H:(jD.j1 k1 l0_0 (l0_0.length:Int) x8_1 (!t219) l0_0)=some r:=H
            have A18:=am A180
            clear A180
            have H':=am H
            clear H
            have hnb19:=NB216_213.out
            have hnc19:=NB213_216.out
            have hcz20_0:=bc0 BK216.out
            have hcz20_1:=bc1 BK216.out
            have hfz20_0:=ja BK216.out 0
            have hfz20_1:=ja BK216.out 1
            go_wp2_with (first |((with_reducible refine je (f:=73) rfl ?_);refine gL (some 15) Try.func73 #[.string ((jba l0_0 x8_1).f0)] ?_;(with_reducible refine (jNa.calls k1 ((jba l0_0 x8_1).f0) true _ A11.out).mono ?_);rintro e w' ⟨rfl,⟨nd,rfl⟩⟩;refine ⟨_,rfl,?_⟩;have hcz21_0:=bc0 BK213.out;have hfz21_0:=ja BK213.out 0) |(go_at_call 74;(with_reducible refine (jTa.calls _ _ l0_0 ((jba l0_0 x8_1).f0) t218 _ ?side1 ?side2 A13.out).mono ?_);(case side1=>exact Kd.jV HR0_0.out (Y19));(case side2=>exact HC0_0.out);rintro e w22 ⟨rfl,hb⟩;replace BK213:=am (jo (g:=gb213) (o:=.cells #[.slice (some ad215) l0_0.length c0_0] 32 (0,0)) (Y57) hb);replace BK216:=am (jo (g:=gb216) (o:=.cells #[.string ((jba l0_0 x8_1).f0), .int .i64 ((jba l0_0 x8_1).f1)] 98 (0,0)) (Y58) hb);replace HB:=am (jg (Y19) hb);(try clear hb);(try clear hb2);(try clear hk);(try clear hi);have hcz23_0:=bc0 BK216.out;have hcz23_1:=bc1 BK216.out;have hfz23_0:=ja BK216.out 0;have hfz23_1:=ja BK216.out 1) |(go_at_call 45;(with_reducible refine (jI.calls ((jba l0_0 x8_1).f1) 0 (wrap64 (x8_1 - 1)) t219 _ A18.out).mono ?_);rintro e w' ⟨rfl,⟨nd,rfl⟩⟩))
            go_meet
            case rel=>exact ⟨_,(!t219),(sq),H',⟨by have:=HK1.out;first | omega | exact Nat.le_refl _⟩,⟨kq BK213.out⟩,⟨kq BK216.out⟩,⟨Y19⟩⟩
           ·rw [if_neg c17] at H
            have c17b0:decide (0<x8_1)=false:=dzF c17
            clear c17
            have H':=am H
            clear H
            have hnb24:=NB216_213.out
            have hnc24:=NB213_216.out
            have hcz25_0:=bc0 BK216.out
            have hcz25_1:=bc1 BK216.out
            have hfz25_0:=ja BK216.out 0
            have hfz25_1:=ja BK216.out 1
            go_wp2_with (first |((with_reducible refine je (f:=73) rfl ?_);refine gL (some 15) Try.func73 #[.string ((jba l0_0 x8_1).f0)] ?_;(with_reducible refine (jNa.calls k1 ((jba l0_0 x8_1).f0) true _ A11.out).mono ?_);rintro e w' ⟨rfl,⟨nd,rfl⟩⟩;refine ⟨_,rfl,?_⟩;have hcz26_0:=bc0 BK213.out;have hfz26_0:=ja BK213.out 0) |(go_at_call 74;(with_reducible refine (jTa.calls _ _ l0_0 ((jba l0_0 x8_1).f0) t218 _ ?side1 ?side2 A13.out).mono ?_);(case side1=>exact Kd.jV HR0_0.out (Y19));(case side2=>exact HC0_0.out);rintro e w27 ⟨rfl,hb⟩;replace BK213:=am (jo (g:=gb213) (o:=.cells #[.slice (some ad215) l0_0.length c0_0] 32 (0,0)) (Y57) hb);replace BK216:=am (jo (g:=gb216) (o:=.cells #[.string ((jba l0_0 x8_1).f0), .int .i64 ((jba l0_0 x8_1).f1)] 98 (0,0)) (Y58) hb);replace HB:=am (jg (Y19) hb);(try clear hb);(try clear hb2);(try clear hk);(try clear hi);have hcz28_0:=bc0 BK216.out;have hcz28_1:=bc1 BK216.out;have hfz28_0:=ja BK216.out 0;have hfz28_1:=ja BK216.out 1))
            go_meet
            case rel=>exact ⟨_,(false),(sq),H',⟨by have:=HK1.out;first | omega | exact Nat.le_refl _⟩,⟨kq BK213.out⟩,⟨kq BK216.out⟩,⟨Y19⟩⟩
          ·rw [if_neg c16] at H
           have c16b0:(((jba l0_0 x8_1).f1) == (-1))=false:=beq_eq_false_iff_ne.mpr c16
           have c16b1:(((jba l0_0 x8_1).f1) != (-1))=true:=bne_iff_ne.mpr c16
           have H':=am H
           clear H
           have hnb29:=NB216_213.out
           have hnc29:=NB213_216.out
           have hcz30_0:=bc0 BK216.out
           have hcz30_1:=bc1 BK216.out
           have hfz30_0:=ja BK216.out 0
           have hfz30_1:=ja BK216.out 1
           go_wp2_with (first |((with_reducible refine je (f:=73) rfl ?_);refine gL (some 15) Try.func73 #[.string ((jba l0_0 x8_1).f0)] ?_;(with_reducible refine (jNa.calls k1 ((jba l0_0 x8_1).f0) true _ A11.out).mono ?_);rintro e w' ⟨rfl,⟨nd,rfl⟩⟩;refine ⟨_,rfl,?_⟩;have hcz31_0:=bc0 BK213.out;have hfz31_0:=ja BK213.out 0) |(go_at_call 74;(with_reducible refine (jTa.calls _ _ l0_0 ((jba l0_0 x8_1).f0) t218 _ ?side1 ?side2 A13.out).mono ?_);(case side1=>exact Kd.jV HR0_0.out (Y19));(case side2=>exact HC0_0.out);rintro e w32 ⟨rfl,hb⟩;replace BK213:=am (jo (g:=gb213) (o:=.cells #[.slice (some ad215) l0_0.length c0_0] 32 (0,0)) (Y57) hb);replace BK216:=am (jo (g:=gb216) (o:=.cells #[.string ((jba l0_0 x8_1).f0), .int .i64 ((jba l0_0 x8_1).f1)] 98 (0,0)) (Y58) hb);replace HB:=am (jg (Y19) hb);(try clear hb);(try clear hb2);(try clear hk);(try clear hi);have hcz33_0:=bc0 BK216.out;have hcz33_1:=bc1 BK216.out;have hfz33_0:=ja BK216.out 0;have hfz33_1:=ja BK216.out 1))
           go_meet
           case rel=>exact ⟨_,(true),(sq),H',⟨by have:=HK1.out;first | omega | exact Nat.le_refl _⟩,⟨kq BK213.out⟩,⟨kq BK216.out⟩,⟨Y19⟩⟩
         ·rw [if_neg c15] at H
          have c15b0:(x8_1 == 0)=false:=beq_eq_false_iff_ne.mpr c15
          have c15b1:(x8_1 != 0)=true:=bne_iff_ne.mpr c15
          by_cases c34:x8_1 > 0
          ·rw [if_pos c34] at H
           have c34b0:decide (0<x8_1)=true:=dzT c34
           clear c34
           replace H:=bzS H
           obtain ⟨t220,A350,H⟩:=H
           replace H:(jD.j1 k1 l0_0 (l0_0.length:Int) x8_1 (!t220) l0_0)=some r:=H
           have A35:=am A350
           clear A350
           have H':=am H
           clear H
           have hnb36:=NB216_213.out
           have hnc36:=NB213_216.out
           have hcz37_0:=bc0 BK216.out
           have hcz37_1:=bc1 BK216.out
           have hfz37_0:=ja BK216.out 0
           have hfz37_1:=ja BK216.out 1
           go_wp2_with (first |((with_reducible refine je (f:=73) rfl ?_);refine gL (some 15) Try.func73 #[.string ((jba l0_0 x8_1).f0)] ?_;(with_reducible refine (jNa.calls k1 ((jba l0_0 x8_1).f0) true _ A11.out).mono ?_);rintro e w' ⟨rfl,⟨nd,rfl⟩⟩;refine ⟨_,rfl,?_⟩;have hcz38_0:=bc0 BK213.out;have hfz38_0:=ja BK213.out 0) |(go_at_call 74;(with_reducible refine (jTa.calls _ _ l0_0 ((jba l0_0 x8_1).f0) t218 _ ?side1 ?side2 A13.out).mono ?_);(case side1=>exact Kd.jV HR0_0.out (Y19));(case side2=>exact HC0_0.out);rintro e w39 ⟨rfl,hb⟩;replace BK213:=am (jo (g:=gb213) (o:=.cells #[.slice (some ad215) l0_0.length c0_0] 32 (0,0)) (Y57) hb);replace BK216:=am (jo (g:=gb216) (o:=.cells #[.string ((jba l0_0 x8_1).f0), .int .i64 ((jba l0_0 x8_1).f1)] 98 (0,0)) (Y58) hb);replace HB:=am (jg (Y19) hb);(try clear hb);(try clear hb2);(try clear hk);(try clear hi);have hcz40_0:=bc0 BK216.out;have hcz40_1:=bc1 BK216.out;have hfz40_0:=ja BK216.out 0;have hfz40_1:=ja BK216.out 1) |(go_at_call 45;(with_reducible refine (jI.calls ((jba l0_0 x8_1).f1) 0 (wrap64 (x8_1 - 1)) t220 _ A35.out).mono ?_);rintro e w' ⟨rfl,⟨nd,rfl⟩⟩))
           go_meet
           case rel=>exact ⟨_,(!t220),(sq),H',⟨by have:=HK1.out;first | omega | exact Nat.le_refl _⟩,⟨kq BK213.out⟩,⟨kq BK216.out⟩,⟨Y19⟩⟩
          ·rw [if_neg c34] at H
           have c34b0:decide (0<x8_1)=false:=dzF c34
           clear c34
           have H':=am H
           clear H
           have hnb41:=NB216_213.out
           have hnc41:=NB213_216.out
           have hcz42_0:=bc0 BK216.out
           have hcz42_1:=bc1 BK216.out
           have hfz42_0:=ja BK216.out 0
           have hfz42_1:=ja BK216.out 1
           go_wp2_with (first |((with_reducible refine je (f:=73) rfl ?_);refine gL (some 15) Try.func73 #[.string ((jba l0_0 x8_1).f0)] ?_;(with_reducible refine (jNa.calls k1 ((jba l0_0 x8_1).f0) true _ A11.out).mono ?_);rintro e w' ⟨rfl,⟨nd,rfl⟩⟩;refine ⟨_,rfl,?_⟩;have hcz43_0:=bc0 BK213.out;have hfz43_0:=ja BK213.out 0) |(go_at_call 74;(with_reducible refine (jTa.calls _ _ l0_0 ((jba l0_0 x8_1).f0) t218 _ ?side1 ?side2 A13.out).mono ?_);(case side1=>exact Kd.jV HR0_0.out (Y19));(case side2=>exact HC0_0.out);rintro e w44 ⟨rfl,hb⟩;replace BK213:=am (jo (g:=gb213) (o:=.cells #[.slice (some ad215) l0_0.length c0_0] 32 (0,0)) (Y57) hb);replace BK216:=am (jo (g:=gb216) (o:=.cells #[.string ((jba l0_0 x8_1).f0), .int .i64 ((jba l0_0 x8_1).f1)] 98 (0,0)) (Y58) hb);replace HB:=am (jg (Y19) hb);(try clear hb);(try clear hb2);(try clear hk);(try clear hi)))
           go_meet
           case rel=>exact ⟨_,(false),(sq),H',⟨by have:=HK1.out;first | omega | exact Nat.le_refl _⟩,⟨kq BK213.out⟩,⟨kq BK216.out⟩,⟨Y19⟩⟩
        ·rw [if_neg c14] at H
         have c14b0:(t218 == x8_1)=false:=beq_eq_false_iff_ne.mpr c14
         have c14b1:(t218 != x8_1)=true:=bne_iff_ne.mpr c14
         (first | rw [c14b0] |(simp only [jlb,jmb];rw [c14b0]) | skip)
         have H':=am H
         clear H
         have hnb45:=NB216_213.out
         have hnc45:=NB213_216.out
         have hcz46_0:=bc0 BK216.out
         have hcz46_1:=bc1 BK216.out
         have hfz46_0:=ja BK216.out 0
         have hfz46_1:=ja BK216.out 1
         go_wp2_with (first |((with_reducible refine je (f:=73) rfl ?_);refine gL (some 15) Try.func73 #[.string ((jba l0_0 x8_1).f0)] ?_;(with_reducible refine (jNa.calls k1 ((jba l0_0 x8_1).f0) true _ A11.out).mono ?_);rintro e w' ⟨rfl,⟨nd,rfl⟩⟩;refine ⟨_,rfl,?_⟩;have hcz47_0:=bc0 BK213.out;have hfz47_0:=ja BK213.out 0) |(go_at_call 74;(with_reducible refine (jTa.calls _ _ l0_0 ((jba l0_0 x8_1).f0) t218 _ ?side1 ?side2 A13.out).mono ?_);(case side1=>exact Kd.jV HR0_0.out (Y19));(case side2=>exact HC0_0.out);rintro e w48 ⟨rfl,hb⟩;replace BK213:=am (jo (g:=gb213) (o:=.cells #[.slice (some ad215) l0_0.length c0_0] 32 (0,0)) (Y57) hb);replace BK216:=am (jo (g:=gb216) (o:=.cells #[.string ((jba l0_0 x8_1).f0), .int .i64 ((jba l0_0 x8_1).f1)] 98 (0,0)) (Y58) hb);replace HB:=am (jg (Y19) hb);(try clear hb);(try clear hb2);(try clear hk);(try clear hi)))
         go_meet
         case rel=>exact ⟨_,(true),(sq),H',⟨by have:=HK1.out;first | omega | exact Nat.le_refl _⟩,⟨kq BK213.out⟩,⟨kq BK216.out⟩,⟨Y19⟩⟩
       ·replace c12:=Bool.eq_false_iff.mpr c12
        subst c12
        have H1:(jD.j1 k1 l0_0 (l0_0.length:Int) x8_1 true l0_0)=some r:=by rw [if_neg (show ¬ (false=true) by decide)] at H;exact H
        clear H
        have H:=H1
        clear H1
        have H':=am H
        clear H
        have hnb49:=NB216_213.out
        have hnc49:=NB213_216.out
        have hcz50_0:=bc0 BK216.out
        have hcz50_1:=bc1 BK216.out
        have hfz50_0:=ja BK216.out 0
        have hfz50_1:=ja BK216.out 1
        go_wp2_with (first |((with_reducible refine je (f:=73) rfl ?_);refine gL (some 15) Try.func73 #[.string ((jba l0_0 x8_1).f0)] ?_;(with_reducible refine (jNa.calls k1 ((jba l0_0 x8_1).f0) false _ A11.out).mono ?_);rintro e w' ⟨rfl,⟨nd,rfl⟩⟩;refine ⟨_,rfl,?_⟩))
        go_meet
        case rel=>exact ⟨_,(true),(sq),H',⟨by have:=HK1.out;first | omega | exact Nat.le_refl _⟩,⟨by (with_reducible repeat (first | refine jr ?_ _ | refine jF ?_ | refine jB ?_ _));refine jjb ?_ NB213_216.out _;(with_reducible repeat (first | refine jr ?_ _ | refine jF ?_ | refine jB ?_ _));refine jjb ?_ NB213_216.out _;(with_reducible repeat (first | refine jr ?_ _ | refine jF ?_ | refine jB ?_ _));exact BK213.out⟩,⟨by (with_reducible repeat (first | refine jr ?_ _ | refine jF ?_ | refine jB ?_ _));refine jXa (cs:=#[.string ((jba l0_0 x8_1).f0), .int .i64 0]) ?_ 1 _ rfl;(with_reducible repeat (first | refine jr ?_ _ | refine jF ?_ | refine jB ?_ _));refine jXa (cs:=#[.string (⟨#[]⟩:ByteArray), .int .i64 0]) ?_ 0 _ rfl;(with_reducible repeat (first | refine jr ?_ _ | refine jF ?_ | refine jB ?_ _));exact BK216.out⟩,⟨Y19⟩⟩
      case rest =>
       clear HC7
       try clear c1
       try clear c2
       try clear p2
       try clear q2
       try clear hx2
       try clear c3
       try clear c4
       try clear c4b0
       try clear c5
       try clear c5b0
       try clear c6
       try clear c6b0
       try clear p6
       try clear c7
       try clear c9
       try clear c12
       try clear c14
       try clear c14b0
       try clear c14b1
       try clear c15
       try clear c15b0
       try clear c15b1
       try clear c16
       try clear c16b0
       try clear c16b1
       try clear c17
       try clear c17b0
       try clear c19
       try clear p21
       try clear q21
       try clear hx21
       try clear c24
       try clear c29
       try clear c34
       try clear c34b0
       try clear c36
       try clear c41
       try clear c43
       try clear c45
       try clear c49
       try clear hcz10_0
       try clear hcz10_1
       try clear hcz20_0
       try clear hcz20_1
       try clear hcz21_0
       try clear hcz23_0
       try clear hcz23_1
       try clear hcz25_0
       try clear hcz25_1
       try clear hcz26_0
       try clear hcz28_0
       try clear hcz28_1
       try clear hcz30_0
       try clear hcz30_1
       try clear hcz31_0
       try clear hcz33_0
       try clear hcz33_1
       try clear hcz37_0
       try clear hcz37_1
       try clear hcz38_0
       try clear hcz3_0
       try clear hcz40_0
       try clear hcz40_1
       try clear hcz42_0
       try clear hcz42_1
       try clear hcz43_0
       try clear hcz46_0
       try clear hcz46_1
       try clear hcz47_0
       try clear hcz50_0
       try clear hcz50_1
       try clear hfz10_0
       try clear hfz10_1
       try clear hfz20_0
       try clear hfz20_1
       try clear hfz21_0
       try clear hfz23_0
       try clear hfz23_1
       try clear hfz25_0
       try clear hfz25_1
       try clear hfz26_0
       try clear hfz28_0
       try clear hfz28_1
       try clear hfz30_0
       try clear hfz30_1
       try clear hfz31_0
       try clear hfz33_0
       try clear hfz33_1
       try clear hfz37_0
       try clear hfz37_1
       try clear hfz38_0
       try clear hfz3_0
       try clear hfz40_0
       try clear hfz40_1
       try clear hfz42_0
       try clear hfz42_1
       try clear hfz43_0
       try clear hfz46_0
       try clear hfz46_1
       try clear hfz47_0
       try clear hfz50_0
       try clear hfz50_1
       try clear hx215_0
       try clear hx215_1
       try clear p2
       try clear p215
       try clear q215
       obtain ⟨kq,x45_6,rfl,HA,HJ6,BK213,BK216,HB⟩:=hcut
       cases kq with
       | zero=>exact absurd HA.out (by simp [jD.j1])
       | succ kj6 =>
        have H:=HA.out
        clear HA
        simp only [jD.j1] at H
        by_cases c51:x45_6=true
        ·subst c51
         have H1:(some false)=some r:=by rw [if_pos rfl] at H;exact H
         clear H
         have H:=H1
         clear H1
         obtain rfl:=Option.some.inj H
         go_wp2
         go_ret
         exact ⟨Y0,Y19⟩
        ·replace c51:=Bool.eq_false_iff.mpr c51
         subst c51
         have H1:(jD.l0 kj6 l0_0 (l0_0.length:Int) (wrap64 (x8_1+1)) l0_0)=some r:=by rw [if_neg (show ¬ (false=true) by decide)] at H;exact H
         clear H
         have H:=H1
         clear H1
         have H':=am H
         clear H
         go_wp2
         go_roundg kj6
         case measure=>have:=HK1.out;have:=HJ6.out;omega
         case rel=>exact ⟨(wrap64 (x8_1+1)),(sq),H',⟨by have:=HK1.out;have:=HJ6.out;omega⟩,⟨kq BK213.out⟩,⟨Y19⟩⟩
     ·rw [if_neg c6] at H
      exact absurd H (by simp)
    ·rw [if_neg c5] at H
     exact absurd H (by simp)
   ·rw [if_neg c4] at H
    have c4b0:decide (x8_1<(l0_0.length:Int))=false:=dzF c4
    clear c4
    replace H:=bzS H
    obtain ⟨t214,A520,H⟩:=H
    replace H:(some t214)=some r:=H
    have A52:=am A520
    clear A520
    obtain rfl:=Option.some.inj H
    have hcz53_0:=bc0 BK213.out
    have hfz53_0:=ja BK213.out 0
    go_wp2_with (first |((with_reducible refine je (f:=45) rfl ?_);refine gL (some 50) Try.func45 #[.int .i64 (l0_0.length:Int), .int .i64 1, .int .i64 8] ?_;(with_reducible refine (jI.calls (l0_0.length:Int) 1 8 t214 _ A52.out).mono ?_);rintro e w' ⟨rfl,⟨nd,rfl⟩⟩;refine ⟨_,rfl,?_⟩))
    go_ret
    exact ⟨Y0,Y85⟩
def jwa.f (l0_0 : List (S98)) (a1 : Int) : Option (Bool) := (jI.f a1 0 (wrap64 ((l0_0.length : Int) - 1))).bind fun t222 => (some t222)
set_option maxHeartbeats 8000000 in
set_option maxRecDepth 100000 in
theorem jwa.calls (A0_0 : Option Addr) (c0_0 : Nat) (l0_0 : List (S98)) (a1 : Int) (r : Bool) (w : World) (hr0_0 : Kd.C k98 w A0_0 l0_0.length l0_0) (hc0_0 : l0_0.length ≤ c0_0) (h : jwa.f l0_0 a1 = some r) :
  Calls Try.prog 50 #[.agg #[.slice A0_0 l0_0.length c0_0], .int .i64 a1] w fun e w'=>e=.returned (.bool r)∧Below w.heap.size w w':=by
 have hu32:=Try.underlying32
 have HR0_0:=am hr0_0
 have HC0_0:=am hc0_0
 clear hr0_0 hc0_0
 have HB:=am (Below.refl w.heap.size w)
 have H:((jI.f a1 0 (wrap64 ((l0_0.length:Int) - 1))).bind fun t222=>(some t222))=some r:=h
 clear h
 replace H:=bzS H
 obtain ⟨t222,A30,H⟩:=H
 replace H:(some t222)=some r:=H
 have A3:=am A30
 clear A30
 obtain rfl:=Option.some.inj H
 go_enter Try.func50,Try.ntmps50
 go_wp2_with (first |((with_reducible refine jS (N:=2) rfl ?_);refine bE (N:=2) (cs:=#[.slice A0_0 l0_0.length c0_0]) (t:=32) ?_;intro gb221 hg w4 hbox hb;have BK221:=am (hbox);have GW221:=am ((Y9:w.heap.size≤gb221));have GE221:=am ((Y9:w.heap.size≤gb221));replace HB:=am (jg (bq) hb);clear hb hbox hg;have hcz5_0:=bc0 BK221.out;have hfz5_0:=ja BK221.out 0) |((with_reducible refine je (f:=45) rfl ?_);refine gL (some 10) Try.func45 #[.int .i64 a1, .int .i64 0, .int .i64 (wrap64 ((l0_0.length:Int) - 1))] ?_;(with_reducible refine (jI.calls a1 0 (wrap64 ((l0_0.length:Int) - 1)) t222 _ A3.out).mono ?_);rintro e w' ⟨rfl,⟨nd,rfl⟩⟩;refine ⟨_,rfl,?_⟩))
 go_ret
 exact ⟨Y0,by repeat (first |(with_reducible first | exact HB.out | apply jU | apply jm | apply jR | refine jT ?_ GE221.out) | exact HB.out)⟩
def jqb.f (a0 : Int) : Option (Bool) := (jI.f a0 0 99).bind fun t223 => (some t223)
set_option maxHeartbeats 8000000 in
set_option maxRecDepth 100000 in
theorem jqb.calls (a0 : Int) (r : Bool) (w : World) (h : jqb.f a0 = some r) :
  Calls Try.prog 75 #[.int .i64 a0] w fun e w'=>e=.returned (.bool r)∧jfb w w':=by
 have H:((jI.f a0 0 99).bind fun t223=>(some t223))=some r:=h
 clear h
 replace H:=bzS H
 obtain ⟨t223,A20,H⟩:=H
 replace H:(some t223)=some r:=H
 have A2:=am A20
 clear A20
 obtain rfl:=Option.some.inj H
 go_enter Try.func75,Try.ntmps75
 go_wp2_with (first |((with_reducible refine je (f:=45) rfl ?_);refine gL (some 4) Try.func45 #[.int .i64 a0, .int .i64 0, .int .i64 99] ?_;(with_reducible refine (jI.calls a0 0 99 t223 _ A2.out).mono ?_);rintro e w' ⟨rfl,⟨nd,rfl⟩⟩;refine ⟨_,rfl,?_⟩))
 go_ret
 exact ⟨sq,Y5⟩
def jEa.j0 : Nat → Int → Bool → Int → Int → Int → Int → List (S98) → Option (Bool)
 | 0,_,_,_,_,_,_,_=>none
 | k+1,x6,x7,x225000,x225001,x225002,x225003,x226000=>if x7=true then ((jqb.f x225002).bind fun t226=>(if t226=true then (some (x225003 == 0)) else (some false))) else (if x6=2 then ((jwa.f x226000 x225002).bind fun t227=>(if t227=true then ((jqb.f x225003).bind fun t228=>(some t228)) else (some false))) else (if x6=8 then ((jwa.f x226000 x225002).bind fun t229=>(if t229=true then (some (x225003 == 0)) else (some false))) else (if x6=11 then ((jI.f x225002 0 9).bind fun t230=>(if t230=true then ((jI.f x225003 0 1).bind fun t231=>(some t231)) else (some false))) else (if x6=12 then ((jI.f x225002 0 3).bind fun t232=>(if t232=true then (some (x225003 == 0)) else (some false))) else ((jI.f x225001 0 12).bind fun t233=>(if t233=true then (if x225002=0 then (some (x225003 == 0)) else (some false)) else (some false)))))))
def jEa.f (k : Nat) (a0_0 : Int) (a0_1 : Int) (a0_2 : Int) (a0_3 : Int) (l1_0 : List (S98)) : Option (Bool) := if a0_1 = 1 then (jEa.j0 k a0_1 (a0_1 == 1) a0_0 a0_1 a0_2 a0_3 l1_0) else (jEa.j0 k a0_1 (a0_1 == 4) a0_0 a0_1 a0_2 a0_3 l1_0)
set_option maxHeartbeats 8000000 in
set_option maxRecDepth 100000 in
theorem jEa.calls (k : Nat) (a0_0 : Int) (a0_1 : Int) (a0_2 : Int) (a0_3 : Int) (A1_0 : Option Addr) (c1_0 : Nat) (l1_0 : List (S98)) (r : Bool) (w : World) (hr1_0 : Kd.C k98 w A1_0 l1_0.length l1_0) (hc1_0 : l1_0.length ≤ c1_0) (h : jEa.f k a0_0 a0_1 a0_2 a0_3 l1_0 = some r) :
  Calls Try.prog 44 #[.agg #[.int .i64 a0_0, .int .i64 a0_1, .int .i64 a0_2, .int .i64 a0_3], .agg #[.slice A1_0 l1_0.length c1_0]] w fun e w'=>e=.returned (.bool r)∧Below w.heap.size w w':=by
 have hu59:=Try.underlying59
 have hu32:=Try.underlying32
 have HR1_0:=am hr1_0
 have HC1_0:=am hc1_0
 clear hr1_0 hc1_0
 have HB:=am (Below.refl w.heap.size w)
 have H:(if a0_1=1 then (jEa.j0 k a0_1 (a0_1 == 1) a0_0 a0_1 a0_2 a0_3 l1_0) else (jEa.j0 k a0_1 (a0_1 == 4) a0_0 a0_1 a0_2 a0_3 l1_0))=some r:=h
 clear h
 have HC3:=am H
 clear H
 go_enter Try.func44,Try.ntmps44
 go_upto_if 7 with (first |((with_reducible refine jS (N:=2) rfl ?_);refine bE (N:=2) (cs:=#[.int .i64 a0_0, .int .i64 a0_1, .int .i64 a0_2, .int .i64 a0_3]) (t:=59) ?_;intro gb224 hg w4 hbox hb;have BK224:=am (hbox);have GW224:=am ((Y9:w.heap.size≤gb224));have GE224:=am ((Y9:w.heap.size≤gb224));replace HB:=am (jg (bq) hb);clear hb hbox hg) |((with_reducible refine jS (N:=3) rfl ?_);refine bE (N:=3) (cs:=#[.slice A1_0 l1_0.length c1_0]) (t:=32) ?_;intro gb225 hg w5 hbox hb;have BK225:=am (hbox);have GW225:=am ((Y95:w.heap.size≤gb225));have GE225:=am ((Y95:w.heap.size≤gb225));have NB224_225:=am ((by rw [hg];exact Nat.ne_of_lt (jrb (g:=gb224) (o:=.cells #[.int .i64 a0_0, .int .i64 a0_1, .int .i64 a0_2, .int .i64 a0_3] 59 (0,0)) (kq BK224.out)):gb224≠gb225));have NB225_224:=am ((by rw [hg];exact Nat.ne_of_gt (jrb (g:=gb224) (o:=.cells #[.int .i64 a0_0, .int .i64 a0_1, .int .i64 a0_2, .int .i64 a0_3] 59 (0,0)) (kq BK224.out)):gb225≠gb224));replace BK224:=am (jo (g:=gb224) (o:=.cells #[.int .i64 a0_0, .int .i64 a0_1, .int .i64 a0_2, .int .i64 a0_3] 59 (0,0)) (kq BK224.out) hb);replace HB:=am (jg (by repeat (first |(with_reducible first | exact HB.out | apply jU | apply jm | apply jR | refine jT ?_ GE224.out) | exact HB.out)) hb);clear hb hbox hg;have hnb6:=NB224_225.out;have hnc6:=NB225_224.out;have hcz7_0:=bc0 BK224.out;have hcz7_1:=bc1 BK224.out;have hcz7_2:=bc2 BK224.out;have hcz7_3:=bc3 BK224.out;have hfz7_0:=ja BK224.out 0;have hfz7_1:=ja BK224.out 1;have hfz7_2:=ja BK224.out 2;have hfz7_3:=ja BK224.out 3))
 (try simp only [Act.put,List.setIfInBounds_toArray,List.set_cons_zero,List.set_cons_succ])
 go_cut [7] (fun v7 wc=>∃ (kq:Nat) (x7_2:Bool),v7=.bool x7_2∧jl (jEa.j0 kq a0_1 x7_2 a0_0 a0_1 a0_2 a0_3 l1_0=some r)∧jl (kq≤k)∧jl (wc.heap[gb224]?=some (.cells #[.int .i64 a0_0, .int .i64 a0_1, .int .i64 a0_2, .int .i64 a0_3] 59 (0,0)))∧jl (wc.heap[gb225]?=some (.cells #[(.slice A1_0 l1_0.length c1_0)] 32 (0,0)))∧jl (Below w.heap.size w wc))
 case first =>
  have H:=HC3.out
  clear HC3
  by_cases c8:a0_1=1
  ·rw [if_pos c8] at H
   have c8b0:(a0_1 == 1)=true:=beq_iff_eq.mpr c8
   have c8b1:(a0_1 != 1)=false:=bne_eq_false_iff_eq.mpr c8
   clear c8
   (first | rw [c8b0] |(simp only [jlb,jmb];rw [c8b0]) | skip)
   have H':=am H
   clear H
   go_wp2
   go_meet
   case rel=>exact ⟨_,((a0_1 == 1)),(sq),H',⟨Y42⟩,⟨kq BK224.out⟩,⟨kq BK225.out⟩,⟨Y21⟩⟩
  ·rw [if_neg c8] at H
   have c8b0:(a0_1 == 1)=false:=beq_eq_false_iff_ne.mpr c8
   have c8b1:(a0_1 != 1)=true:=bne_iff_ne.mpr c8
   (first | rw [c8b0] |(simp only [jlb,jmb];rw [c8b0]) | skip)
   have H':=am H
   clear H
   go_wp2
   go_meet
   case rel=>exact ⟨_,((a0_1 == 4)),(sq),H',⟨Y42⟩,⟨kq BK224.out⟩,⟨kq BK225.out⟩,⟨Y21⟩⟩
 case rest =>
  clear HC3
  try clear c1
  try clear p2
  try clear c4
  try clear c6
  try clear c8
  try clear c8b0
  try clear c8b1
  try clear hcz7_0
  try clear hcz7_1
  try clear hcz7_2
  try clear hcz7_3
  try clear hfz7_0
  try clear hfz7_1
  try clear hfz7_2
  try clear hfz7_3
  obtain ⟨kq,x7_2,rfl,HA,HJ2,BK224,BK225,HB⟩:=hcut
  cases kq with
  | zero=>exact absurd HA.out (by simp [jEa.j0])
  | succ kj2 =>
   have H:=HA.out
   clear HA
   simp only [jEa.j0] at H
   by_cases c9:x7_2=true
   ·subst c9
    have H1:((jqb.f a0_2).bind fun t226=>(if t226=true then (some (a0_3 == 0)) else (some false)))=some r:=by rw [if_pos rfl] at H;exact H
    clear H
    have H:=H1
    clear H1
    replace H:=bzS H
    obtain ⟨t226,A100,H⟩:=H
    replace H:(if t226=true then (some (a0_3 == 0)) else (some false))=some r:=H
    have A10:=am A100
    clear A100
    by_cases c11:t226=true
    ·subst c11
     have H1:(some (a0_3 == 0))=some r:=by rw [if_pos rfl] at H;exact H
     clear H
     have H:=H1
     clear H1
     obtain rfl:=Option.some.inj H
     have hnb12:=NB224_225.out
     have hnc12:=NB225_224.out
     have hcz13_0:=bc0 BK224.out
     have hcz13_1:=bc1 BK224.out
     have hcz13_2:=bc2 BK224.out
     have hcz13_3:=bc3 BK224.out
     have hfz13_0:=ja BK224.out 0
     have hfz13_1:=ja BK224.out 1
     have hfz13_2:=ja BK224.out 2
     have hfz13_3:=ja BK224.out 3
     go_wp2_with (first |((with_reducible refine je (f:=75) rfl ?_);refine gL (some 12) Try.func75 #[.int .i64 a0_2] ?_;(with_reducible refine (jqb.calls a0_2 true _ A10.out).mono ?_);rintro e w' ⟨rfl,⟨nd,rfl⟩⟩;refine ⟨_,rfl,?_⟩))
     go_ret
     exact ⟨Y0,Y21⟩
    ·replace c11:=Bool.eq_false_iff.mpr c11
     subst c11
     have H1:(some false)=some r:=by rw [if_neg (show ¬ (false=true) by decide)] at H;exact H
     clear H
     have H:=H1
     clear H1
     obtain rfl:=Option.some.inj H
     have hnb14:=NB224_225.out
     have hnc14:=NB225_224.out
     have hcz15_0:=bc0 BK224.out
     have hcz15_1:=bc1 BK224.out
     have hcz15_2:=bc2 BK224.out
     have hcz15_3:=bc3 BK224.out
     have hfz15_0:=ja BK224.out 0
     have hfz15_1:=ja BK224.out 1
     have hfz15_2:=ja BK224.out 2
     have hfz15_3:=ja BK224.out 3
     go_wp2_with (first |((with_reducible refine je (f:=75) rfl ?_);refine gL (some 12) Try.func75 #[.int .i64 a0_2] ?_;(with_reducible refine (jqb.calls a0_2 false _ A10.out).mono ?_);rintro e w' ⟨rfl,⟨nd,rfl⟩⟩;refine ⟨_,rfl,?_⟩))
     go_ret
     exact ⟨Y0,Y21⟩
   ·replace c9:=Bool.eq_false_iff.mpr c9
    subst c9
    have H1:(if a0_1=2 then ((jwa.f l1_0 a0_2).bind fun t227=>(if t227=true then ((jqb.f a0_3).bind fun t228=>(some t228)) else (some false))) else (if a0_1=8 then ((jwa.f l1_0 a0_2).bind fun t229=>(if t229=true then (some (a0_3 == 0)) else (some false))) else (if a0_1=11 then ((jI.f a0_2 0 9).bind fun t230=>(if t230=true then ((jI.f a0_3 0 1).bind fun t231=>(some t231)) else (some false))) else (if a0_1=12 then ((jI.f a0_2 0 3).bind fun t232=>(if t232=true then (some (a0_3 == 0)) else (some false))) else ((jI.f a0_1 0 12).bind fun t233=>(if t233=true then (if a0_2=0 then (some (a0_3 == 0)) else (some false)) else (some false)))))))=some r:=by rw [if_neg (show ¬ (false=true) by decide)] at H;exact H
    clear H
    have H:=H1
    clear H1
    by_cases c16:a0_1=2
    ·rw [if_pos c16] at H
     have c16b0:(a0_1 == 2)=true:=beq_iff_eq.mpr c16
     have c16b1:(a0_1 != 2)=false:=bne_eq_false_iff_eq.mpr c16
     clear c16
     replace H:=bzS H
     obtain ⟨t227,A170,H⟩:=H
     replace H:(if t227=true then ((jqb.f a0_3).bind fun t228=>(some t228)) else (some false))=some r:=H
     have A17:=am A170
     clear A170
     by_cases c18:t227=true
     ·subst c18
      have H1:((jqb.f a0_3).bind fun t228=>(some t228))=some r:=by rw [if_pos rfl] at H;exact H
      clear H
      have H:=H1
      clear H1
      replace H:=bzS H
      obtain ⟨t228,A190,H⟩:=H
      replace H:(some t228)=some r:=H
      have A19:=am A190
      clear A190
      obtain rfl:=Option.some.inj H
      have hnb20:=NB225_224.out
      have hnc20:=NB224_225.out
      have hcz21_0:=bc0 BK225.out
      have hfz21_0:=ja BK225.out 0
      have hcz22_0:=bc0 BK224.out
      have hcz22_1:=bc1 BK224.out
      have hcz22_2:=bc2 BK224.out
      have hcz22_3:=bc3 BK224.out
      have hfz22_0:=ja BK224.out 0
      have hfz22_1:=ja BK224.out 1
      have hfz22_2:=ja BK224.out 2
      have hfz22_3:=ja BK224.out 3
      go_wp2_with (first |((with_reducible refine je (f:=50) rfl ?_);refine gL (some 23) Try.func50 #[.agg #[.slice A1_0 l1_0.length c1_0], .int .i64 a0_2] ?_;(with_reducible refine (jwa.calls _ _ l1_0 a0_2 true _ ?side1 ?side2 A17.out).mono ?_);(case side1=>exact cq (Kd.jV HR1_0.out HB.out));(case side2=>exact HC1_0.out);rintro e w23 ⟨rfl,hb⟩;refine ⟨_,rfl,?_⟩;replace BK224:=am (jo (g:=gb224) (o:=.cells #[.int .i64 a0_0, .int .i64 a0_1, .int .i64 a0_2, .int .i64 a0_3] 59 (0,0)) (kq BK224.out) hb);replace BK225:=am (jo (g:=gb225) (o:=.cells #[.slice A1_0 l1_0.length c1_0] 32 (0,0)) (kq BK225.out) hb);replace HB:=am (jg (Y21) hb);(try clear hb);(try clear hb2);(try clear hk);(try clear hi);have hcz24_0:=bc0 BK224.out;have hcz24_1:=bc1 BK224.out;have hcz24_2:=bc2 BK224.out;have hcz24_3:=bc3 BK224.out;have hfz24_0:=ja BK224.out 0;have hfz24_1:=ja BK224.out 1;have hfz24_2:=ja BK224.out 2;have hfz24_3:=ja BK224.out 3) |(go_at_call 75;(with_reducible refine (jqb.calls a0_3 t228 _ A19.out).mono ?_);rintro e w' ⟨rfl,⟨nd,rfl⟩⟩))
      go_ret
      exact ⟨Y0,Y21⟩
     ·replace c18:=Bool.eq_false_iff.mpr c18
      subst c18
      have H1:(some false)=some r:=by rw [if_neg (show ¬ (false=true) by decide)] at H;exact H
      clear H
      have H:=H1
      clear H1
      obtain rfl:=Option.some.inj H
      have hnb25:=NB225_224.out
      have hnc25:=NB224_225.out
      have hcz26_0:=bc0 BK225.out
      have hfz26_0:=ja BK225.out 0
      have hcz27_0:=bc0 BK224.out
      have hcz27_1:=bc1 BK224.out
      have hcz27_2:=bc2 BK224.out
      have hcz27_3:=bc3 BK224.out
      have hfz27_0:=ja BK224.out 0
      have hfz27_1:=ja BK224.out 1
      have hfz27_2:=ja BK224.out 2
      have hfz27_3:=ja BK224.out 3
      go_wp2_with (first |((with_reducible refine je (f:=50) rfl ?_);refine gL (some 23) Try.func50 #[.agg #[.slice A1_0 l1_0.length c1_0], .int .i64 a0_2] ?_;(with_reducible refine (jwa.calls _ _ l1_0 a0_2 false _ ?side1 ?side2 A17.out).mono ?_);(case side1=>exact cq (Kd.jV HR1_0.out HB.out));(case side2=>exact HC1_0.out);rintro e w28 ⟨rfl,hb⟩;refine ⟨_,rfl,?_⟩;replace BK224:=am (jo (g:=gb224) (o:=.cells #[.int .i64 a0_0, .int .i64 a0_1, .int .i64 a0_2, .int .i64 a0_3] 59 (0,0)) (kq BK224.out) hb);replace BK225:=am (jo (g:=gb225) (o:=.cells #[.slice A1_0 l1_0.length c1_0] 32 (0,0)) (kq BK225.out) hb);replace HB:=am (jg (Y21) hb);(try clear hb);(try clear hb2);(try clear hk);(try clear hi)))
      go_ret
      exact ⟨Y0,Y21⟩
    ·rw [if_neg c16] at H
     have c16b0:(a0_1 == 2)=false:=beq_eq_false_iff_ne.mpr c16
     have c16b1:(a0_1 != 2)=true:=bne_iff_ne.mpr c16
     by_cases c29:a0_1=8
     ·rw [if_pos c29] at H
      have c29b0:(a0_1 == 8)=true:=beq_iff_eq.mpr c29
      have c29b1:(a0_1 != 8)=false:=bne_eq_false_iff_eq.mpr c29
      clear c29
      replace H:=bzS H
      obtain ⟨t229,A300,H⟩:=H
      replace H:(if t229=true then (some (a0_3 == 0)) else (some false))=some r:=H
      have A30:=am A300
      clear A300
      by_cases c31:t229=true
      ·subst c31
       have H1:(some (a0_3 == 0))=some r:=by rw [if_pos rfl] at H;exact H
       clear H
       have H:=H1
       clear H1
       obtain rfl:=Option.some.inj H
       have hnb32:=NB225_224.out
       have hnc32:=NB224_225.out
       have hcz33_0:=bc0 BK225.out
       have hfz33_0:=ja BK225.out 0
       have hcz34_0:=bc0 BK224.out
       have hcz34_1:=bc1 BK224.out
       have hcz34_2:=bc2 BK224.out
       have hcz34_3:=bc3 BK224.out
       have hfz34_0:=ja BK224.out 0
       have hfz34_1:=ja BK224.out 1
       have hfz34_2:=ja BK224.out 2
       have hfz34_3:=ja BK224.out 3
       go_wp2_with (first |((with_reducible refine je (f:=50) rfl ?_);refine gL (some 34) Try.func50 #[.agg #[.slice A1_0 l1_0.length c1_0], .int .i64 a0_2] ?_;(with_reducible refine (jwa.calls _ _ l1_0 a0_2 true _ ?side1 ?side2 A30.out).mono ?_);(case side1=>exact cq (Kd.jV HR1_0.out HB.out));(case side2=>exact HC1_0.out);rintro e w35 ⟨rfl,hb⟩;refine ⟨_,rfl,?_⟩;replace BK224:=am (jo (g:=gb224) (o:=.cells #[.int .i64 a0_0, .int .i64 a0_1, .int .i64 a0_2, .int .i64 a0_3] 59 (0,0)) (kq BK224.out) hb);replace BK225:=am (jo (g:=gb225) (o:=.cells #[.slice A1_0 l1_0.length c1_0] 32 (0,0)) (kq BK225.out) hb);replace HB:=am (jg (Y21) hb);(try clear hb);(try clear hb2);(try clear hk);(try clear hi);have hcz36_0:=bc0 BK224.out;have hcz36_1:=bc1 BK224.out;have hcz36_2:=bc2 BK224.out;have hcz36_3:=bc3 BK224.out;have hfz36_0:=ja BK224.out 0;have hfz36_1:=ja BK224.out 1;have hfz36_2:=ja BK224.out 2;have hfz36_3:=ja BK224.out 3))
       go_ret
       exact ⟨Y0,Y21⟩
      ·replace c31:=Bool.eq_false_iff.mpr c31
       subst c31
       have H1:(some false)=some r:=by rw [if_neg (show ¬ (false=true) by decide)] at H;exact H
       clear H
       have H:=H1
       clear H1
       obtain rfl:=Option.some.inj H
       have hnb37:=NB225_224.out
       have hnc37:=NB224_225.out
       have hcz38_0:=bc0 BK225.out
       have hfz38_0:=ja BK225.out 0
       have hcz39_0:=bc0 BK224.out
       have hcz39_1:=bc1 BK224.out
       have hcz39_2:=bc2 BK224.out
       have hcz39_3:=bc3 BK224.out
       have hfz39_0:=ja BK224.out 0
       have hfz39_1:=ja BK224.out 1
       have hfz39_2:=ja BK224.out 2
       have hfz39_3:=ja BK224.out 3
       go_wp2_with (first |((with_reducible refine je (f:=50) rfl ?_);refine gL (some 34) Try.func50 #[.agg #[.slice A1_0 l1_0.length c1_0], .int .i64 a0_2] ?_;(with_reducible refine (jwa.calls _ _ l1_0 a0_2 false _ ?side1 ?side2 A30.out).mono ?_);(case side1=>exact cq (Kd.jV HR1_0.out HB.out));(case side2=>exact HC1_0.out);rintro e w40 ⟨rfl,hb⟩;refine ⟨_,rfl,?_⟩;replace BK224:=am (jo (g:=gb224) (o:=.cells #[.int .i64 a0_0, .int .i64 a0_1, .int .i64 a0_2, .int .i64 a0_3] 59 (0,0)) (kq BK224.out) hb);replace BK225:=am (jo (g:=gb225) (o:=.cells #[.slice A1_0 l1_0.length c1_0] 32 (0,0)) (kq BK225.out) hb);replace HB:=am (jg (Y21) hb);(try clear hb);(try clear hb2);(try clear hk);(try clear hi)))
       go_ret
       exact ⟨Y0,Y21⟩
     ·rw [if_neg c29] at H
      have c29b0:(a0_1 == 8)=false:=beq_eq_false_iff_ne.mpr c29
      have c29b1:(a0_1 != 8)=true:=bne_iff_ne.mpr c29
      by_cases c41:a0_1=11
      ·rw [if_pos c41] at H
       have c41b0:(a0_1 == 11)=true:=beq_iff_eq.mpr c41
       have c41b1:(a0_1 != 11)=false:=bne_eq_false_iff_eq.mpr c41
       clear c41
       replace H:=bzS H
       obtain ⟨t230,A420,H⟩:=H
       replace H:(if t230=true then ((jI.f a0_3 0 1).bind fun t231=>(some t231)) else (some false))=some r:=H
       have A42:=am A420
       clear A420
       by_cases c43:t230=true
       ·subst c43
        have H1:((jI.f a0_3 0 1).bind fun t231=>(some t231))=some r:=by rw [if_pos rfl] at H;exact H
        clear H
        have H:=H1
        clear H1
        replace H:=bzS H
        obtain ⟨t231,A440,H⟩:=H
        replace H:(some t231)=some r:=H
        have A44:=am A440
        clear A440
        obtain rfl:=Option.some.inj H
        have hnb45:=NB224_225.out
        have hnc45:=NB225_224.out
        have hcz46_0:=bc0 BK224.out
        have hcz46_1:=bc1 BK224.out
        have hcz46_2:=bc2 BK224.out
        have hcz46_3:=bc3 BK224.out
        have hfz46_0:=ja BK224.out 0
        have hfz46_1:=ja BK224.out 1
        have hfz46_2:=ja BK224.out 2
        have hfz46_3:=ja BK224.out 3
        go_wp2_with (first |((with_reducible refine je (f:=45) rfl ?_);refine gL (some 44) Try.func45 #[.int .i64 a0_2, .int .i64 0, .int .i64 9] ?_;(with_reducible refine (jI.calls a0_2 0 9 true _ A42.out).mono ?_);rintro e w' ⟨rfl,⟨nd,rfl⟩⟩;refine ⟨_,rfl,?_⟩) |(go_at_call 45;(with_reducible refine (jI.calls a0_3 0 1 t231 _ A44.out).mono ?_);rintro e w' ⟨rfl,⟨nd,rfl⟩⟩))
        go_ret
        exact ⟨Y0,Y21⟩
       ·replace c43:=Bool.eq_false_iff.mpr c43
        subst c43
        have H1:(some false)=some r:=by rw [if_neg (show ¬ (false=true) by decide)] at H;exact H
        clear H
        have H:=H1
        clear H1
        obtain rfl:=Option.some.inj H
        have hnb47:=NB224_225.out
        have hnc47:=NB225_224.out
        have hcz48_0:=bc0 BK224.out
        have hcz48_1:=bc1 BK224.out
        have hcz48_2:=bc2 BK224.out
        have hcz48_3:=bc3 BK224.out
        have hfz48_0:=ja BK224.out 0
        have hfz48_1:=ja BK224.out 1
        have hfz48_2:=ja BK224.out 2
        have hfz48_3:=ja BK224.out 3
        go_wp2_with (first |((with_reducible refine je (f:=45) rfl ?_);refine gL (some 44) Try.func45 #[.int .i64 a0_2, .int .i64 0, .int .i64 9] ?_;(with_reducible refine (jI.calls a0_2 0 9 false _ A42.out).mono ?_);rintro e w' ⟨rfl,⟨nd,rfl⟩⟩;refine ⟨_,rfl,?_⟩))
        go_ret
        exact ⟨Y0,Y21⟩
      ·rw [if_neg c41] at H
       have c41b0:(a0_1 == 11)=false:=beq_eq_false_iff_ne.mpr c41
       have c41b1:(a0_1 != 11)=true:=bne_iff_ne.mpr c41
       by_cases c49:a0_1=12
       ·rw [if_pos c49] at H
        have c49b0:(a0_1 == 12)=true:=beq_iff_eq.mpr c49
        have c49b1:(a0_1 != 12)=false:=bne_eq_false_iff_eq.mpr c49
        clear c49
        replace H:=bzS H
        obtain ⟨t232,A500,H⟩:=H
        replace H:(if t232=true then (some (a0_3 == 0)) else (some false))=some r:=H
        have A50:=am A500
        clear A500
        by_cases c51:t232=true
        ·subst c51
         have H1:(some (a0_3 == 0))=some r:=by rw [if_pos rfl] at H;exact H
         clear H
         have H:=H1
         clear H1
         obtain rfl:=Option.some.inj H
         have hnb52:=NB224_225.out
         have hnc52:=NB225_224.out
         have hcz53_0:=bc0 BK224.out
         have hcz53_1:=bc1 BK224.out
         have hcz53_2:=bc2 BK224.out
         have hcz53_3:=bc3 BK224.out
         have hfz53_0:=ja BK224.out 0
         have hfz53_1:=ja BK224.out 1
         have hfz53_2:=ja BK224.out 2
         have hfz53_3:=ja BK224.out 3
         go_wp2_with (first |((with_reducible refine je (f:=45) rfl ?_);refine gL (some 54) Try.func45 #[.int .i64 a0_2, .int .i64 0, .int .i64 3] ?_;(with_reducible refine (jI.calls a0_2 0 3 true _ A50.out).mono ?_);rintro e w' ⟨rfl,⟨nd,rfl⟩⟩;refine ⟨_,rfl,?_⟩))
         go_ret
         exact ⟨Y0,Y21⟩
        ·replace c51:=Bool.eq_false_iff.mpr c51
         subst c51
         have H1:(some false)=some r:=by rw [if_neg (show ¬ (false=true) by decide)] at H;exact H
         clear H
         have H:=H1
         clear H1
         obtain rfl:=Option.some.inj H
         have hnb54:=NB224_225.out
         have hnc54:=NB225_224.out
         have hcz55_0:=bc0 BK224.out
         have hcz55_1:=bc1 BK224.out
         have hcz55_2:=bc2 BK224.out
         have hcz55_3:=bc3 BK224.out
         have hfz55_0:=ja BK224.out 0
         have hfz55_1:=ja BK224.out 1
         have hfz55_2:=ja BK224.out 2
         have hfz55_3:=ja BK224.out 3
         go_wp2_with (first |((with_reducible refine je (f:=45) rfl ?_);refine gL (some 54) Try.func45 #[.int .i64 a0_2, .int .i64 0, .int .i64 3] ?_;(with_reducible refine (jI.calls a0_2 0 3 false _ A50.out).mono ?_);rintro e w' ⟨rfl,⟨nd,rfl⟩⟩;refine ⟨_,rfl,?_⟩))
         go_ret
         exact ⟨Y0,Y21⟩
       ·rw [if_neg c49] at H
        have c49b0:(a0_1 == 12)=false:=beq_eq_false_iff_ne.mpr c49
        have c49b1:(a0_1 != 12)=true:=bne_iff_ne.mpr c49
        replace H:=bzS H
        obtain ⟨t233,A560,H⟩:=H
        replace H:(if t233=true then (if a0_2=0 then (some (a0_3 == 0)) else (some false)) else (some false))=some r:=H
        have A56:=am A560
        clear A560
        by_cases c57:t233=true
        ·subst c57
         have H1:(if a0_2=0 then (some (a0_3 == 0)) else (some false))=some r:=by rw [if_pos rfl] at H;exact H
         clear H
         have H:=H1
         clear H1
         by_cases c58:a0_2=0
         ·rw [if_pos c58] at H
          have c58b0:(a0_2 == 0)=true:=beq_iff_eq.mpr c58
          have c58b1:(a0_2 != 0)=false:=bne_eq_false_iff_eq.mpr c58
          clear c58
          obtain rfl:=Option.some.inj H
          have hnb59:=NB224_225.out
          have hnc59:=NB225_224.out
          have hcz60_0:=bc0 BK224.out
          have hcz60_1:=bc1 BK224.out
          have hcz60_2:=bc2 BK224.out
          have hcz60_3:=bc3 BK224.out
          have hfz60_0:=ja BK224.out 0
          have hfz60_1:=ja BK224.out 1
          have hfz60_2:=ja BK224.out 2
          have hfz60_3:=ja BK224.out 3
          go_wp2_with (first |((with_reducible refine je (f:=45) rfl ?_);refine gL (some 62) Try.func45 #[.int .i64 a0_1, .int .i64 0, .int .i64 12] ?_;(with_reducible refine (jI.calls a0_1 0 12 true _ A56.out).mono ?_);rintro e w' ⟨rfl,⟨nd,rfl⟩⟩;refine ⟨_,rfl,?_⟩))
          go_ret
          exact ⟨Y0,Y21⟩
         ·rw [if_neg c58] at H
          have c58b0:(a0_2 == 0)=false:=beq_eq_false_iff_ne.mpr c58
          have c58b1:(a0_2 != 0)=true:=bne_iff_ne.mpr c58
          obtain rfl:=Option.some.inj H
          have hnb61:=NB224_225.out
          have hnc61:=NB225_224.out
          have hcz62_0:=bc0 BK224.out
          have hcz62_1:=bc1 BK224.out
          have hcz62_2:=bc2 BK224.out
          have hcz62_3:=bc3 BK224.out
          have hfz62_0:=ja BK224.out 0
          have hfz62_1:=ja BK224.out 1
          have hfz62_2:=ja BK224.out 2
          have hfz62_3:=ja BK224.out 3
          go_wp2_with (first |((with_reducible refine je (f:=45) rfl ?_);refine gL (some 62) Try.func45 #[.int .i64 a0_1, .int .i64 0, .int .i64 12] ?_;(with_reducible refine (jI.calls a0_1 0 12 true _ A56.out).mono ?_);rintro e w' ⟨rfl,⟨nd,rfl⟩⟩;refine ⟨_,rfl,?_⟩))
          go_ret
          exact ⟨Y0,Y21⟩
        ·replace c57:=Bool.eq_false_iff.mpr c57
         subst c57
         have H1:(some false)=some r:=by rw [if_neg (show ¬ (false=true) by decide)] at H;exact H
         clear H
         have H:=H1
         clear H1
         obtain rfl:=Option.some.inj H
         have hnb63:=NB224_225.out
         have hnc63:=NB225_224.out
         have hcz64_0:=bc0 BK224.out
         have hcz64_1:=bc1 BK224.out
         have hcz64_2:=bc2 BK224.out
         have hcz64_3:=bc3 BK224.out
         have hfz64_0:=ja BK224.out 0
         have hfz64_1:=ja BK224.out 1
         have hfz64_2:=ja BK224.out 2
         have hfz64_3:=ja BK224.out 3
         go_wp2_with (first |((with_reducible refine je (f:=45) rfl ?_);refine gL (some 62) Try.func45 #[.int .i64 a0_1, .int .i64 0, .int .i64 12] ?_;(with_reducible refine (jI.calls a0_1 0 12 false _ A56.out).mono ?_);rintro e w' ⟨rfl,⟨nd,rfl⟩⟩;refine ⟨_,rfl,?_⟩))
         go_ret
         exact ⟨Y0,Y21⟩
def jUa.f (a0_0 : Int) (a0_1 : Int) (a0_2 : Int) (a0_3 : Int) : Option (Bool) := (jI.f a0_1 7 12).bind fun t235 => (some t235)
set_option maxHeartbeats 8000000 in
set_option maxRecDepth 100000 in
theorem jUa.calls (a0_0 : Int) (a0_1 : Int) (a0_2 : Int) (a0_3 : Int) (r : Bool) (w : World) (h : jUa.f a0_0 a0_1 a0_2 a0_3 = some r) :
  Calls Try.prog 46 #[.agg #[.int .i64 a0_0, .int .i64 a0_1, .int .i64 a0_2, .int .i64 a0_3]] w fun e w'=>e=.returned (.bool r)∧Below w.heap.size w w':=by
 have hu59:=Try.underlying59
 have HB:=am (Below.refl w.heap.size w)
 have H:((jI.f a0_1 7 12).bind fun t235=>(some t235))=some r:=h
 clear h
 replace H:=bzS H
 obtain ⟨t235,A20,H⟩:=H
 replace H:(some t235)=some r:=H
 have A2:=am A20
 clear A20
 obtain rfl:=Option.some.inj H
 go_enter Try.func46,Try.ntmps46
 go_wp2_with (first |((with_reducible refine jS (N:=1) rfl ?_);refine bE (N:=1) (cs:=#[.int .i64 a0_0, .int .i64 a0_1, .int .i64 a0_2, .int .i64 a0_3]) (t:=59) ?_;intro gb234 hg w3 hbox hb;have BK234:=am (hbox);have GW234:=am ((Y9:w.heap.size≤gb234));have GE234:=am ((Y9:w.heap.size≤gb234));replace HB:=am (jg (bq) hb);clear hb hbox hg;have hcz4_0:=bc0 BK234.out;have hcz4_1:=bc1 BK234.out;have hcz4_2:=bc2 BK234.out;have hcz4_3:=bc3 BK234.out;have hfz4_0:=ja BK234.out 0;have hfz4_1:=ja BK234.out 1;have hfz4_2:=ja BK234.out 2;have hfz4_3:=ja BK234.out 3) |((with_reducible refine je (f:=45) rfl ?_);refine gL (some 5) Try.func45 #[.int .i64 a0_1, .int .i64 7, .int .i64 12] ?_;(with_reducible refine (jI.calls a0_1 7 12 t235 _ A2.out).mono ?_);rintro e w' ⟨rfl,⟨nd,rfl⟩⟩;refine ⟨_,rfl,?_⟩))
 go_ret
 exact ⟨Y0,by repeat (first |(with_reducible first | exact HB.out | apply jU | apply jm | apply jR | refine jT ?_ GE234.out) | exact HB.out)⟩
def joa.l0 : Nat → List (S59) → Int → Int → Option (Int)
 | 0,_,_,_=>none
 | k+1,x0,x1,x5=>if x5<(x0.length:Int) then (if 0≤x5 then (if 0≤x1 then (if x1<(x0.length:Int) then (if ((jd x0 x5).f0) > ((jd x0 x1).f0) then (joa.l0 k x0 x1 (wrap64 (x5+1))) else (some x5)) else (none)) else (none)) else (none)) else (some x5)
def joa.f (k : Nat) (l0 : List (S59)) (a1 : Int) : Option (Int) := joa.l0 k l0 a1 (wrap64 (a1 + 1))
set_option maxHeartbeats 8000000 in
set_option maxRecDepth 100000 in
theorem joa.calls (k : Nat) (A0 : Option Addr) (c0 : Nat) (l0 : List (S59)) (a1 : Int) (r : Int) (w : World) (hr0 : Kd.C k59 w A0 l0.length l0) (hc0 : l0.length ≤ c0) (h : joa.f k l0 a1 = some r) :
  Calls Try.prog 34 #[.slice A0 l0.length c0, .int .i64 a1] w fun e w'=>e=.returned (.int .i64 r)∧jfb w w':=by
 have HR0:=am hr0
 have HC0:=am hc0
 clear hr0 hc0
 have H:(joa.l0 k l0 a1 (wrap64 (a1+1)))=some r:=h
 clear h
 have H':=am H
 clear H
 go_enter Try.func34,Try.ntmps34
 go_wp2
 repeat (go_quiet (fail);try go_wp2)
 go_loopg [5] k (fun kq v5 w'=>∃ (x5_1:Int),v5=.int .i64 x5_1∧jl (joa.l0 kq l0 a1 x5_1=some r)∧jl (kq≤k)∧jfb w w')
 case atStart=>exact ⟨(wrap64 (a1+1)),(sq),H',⟨Nat.le_refl _⟩,Y5⟩
 case round =>
  clear H'
  try clear p2
  obtain ⟨x5_1,rfl,HA,HK1,⟨m1,rfl⟩⟩:=hrel
  cases gk with
  | zero=>exact absurd HA.out (by simp [joa.l0])
  | succ k1 =>
   have H:=HA.out
   clear HA
   simp only [joa.l0] at H
   by_cases c3:x5_1<(l0.length:Int)
   ·rw [if_pos c3] at H
    have c3b0:decide (x5_1<(l0.length:Int))=true:=dzT c3
    clear c3
    by_cases c4:0≤x5_1
    ·rw [if_pos c4] at H
     have c4b0:decide (0≤x5_1)=true:=dzT c4
     clear c4
     by_cases c5:0≤a1
     ·rw [if_pos c5] at H
      have c5b0:decide (0≤a1)=true:=dzT c5
      clear c5
      by_cases c6:a1<(l0.length:Int)
      ·rw [if_pos c6] at H
       have c6b0:decide (a1<(l0.length:Int))=true:=dzT c6
       clear c6
       by_cases c7:((jd l0 x5_1).f0) > ((jd l0 a1).f0)
       ·rw [if_pos c7] at H
        have c7b0:decide (((jd l0 a1).f0)<((jd l0 x5_1).f0))=true:=dzT c7
        clear c7
        have H':=am H
        clear H
        have p236:0≤(x5_1:Int):=ozD (uq)
        have q236:x5_1<(l0.length:Int):=ozD (uq)
        obtain ⟨ad236,e236,hx236_0,hx236_1,hx236_2,hx236_3⟩:=jza HR0.out x5_1 p236 q236
        cases e236
        replace p236:=ezT p236
        replace q236:=ezT q236
        have p237:0≤(a1:Int):=ozD (uq)
        have q237:a1<(l0.length:Int):=ozD (uq)
        obtain ⟨ad237,e237,hx237_0,hx237_1,hx237_2,hx237_3⟩:=jza HR0.out a1 p237 q237
        obtain rfl:ad236=ad237:=(by injection e237)
        replace p237:=ezT p237
        replace q237:=ezT q237
        go_wp2
        repeat (go_quiet (fail);try go_wp2)
        go_roundg k1
        case measure=>have:=HK1.out;omega
        case rel=>exact ⟨(wrap64 (x5_1+1)),(sq),H',⟨by have:=HK1.out;omega⟩,Y5⟩
       ·rw [if_neg c7] at H
        have c7b0:decide (((jd l0 a1).f0)<((jd l0 x5_1).f0))=false:=dzF c7
        clear c7
        obtain rfl:=Option.some.inj H
        have p236:0≤(x5_1:Int):=ozD (uq)
        have q236:x5_1<(l0.length:Int):=ozD (uq)
        obtain ⟨ad236,e236,hx236_0,hx236_1,hx236_2,hx236_3⟩:=jza HR0.out x5_1 p236 q236
        cases e236
        replace p236:=ezT p236
        replace q236:=ezT q236
        have p237:0≤(a1:Int):=ozD (uq)
        have q237:a1<(l0.length:Int):=ozD (uq)
        obtain ⟨ad237,e237,hx237_0,hx237_1,hx237_2,hx237_3⟩:=jza HR0.out a1 p237 q237
        obtain rfl:ad236=ad237:=(by injection e237)
        replace p237:=ezT p237
        replace q237:=ezT q237
        go_wp2
        repeat (go_quiet (fail);try go_wp2)
        go_ret
        exact ⟨sq,Y5⟩
      ·rw [if_neg c6] at H
       exact absurd H (by simp)
     ·rw [if_neg c5] at H
      exact absurd H (by simp)
    ·rw [if_neg c4] at H
     exact absurd H (by simp)
   ·rw [if_neg c3] at H
    have c3b0:decide (x5_1<(l0.length:Int))=false:=dzF c3
    clear c3
    obtain rfl:=Option.some.inj H
    go_wp2
    repeat (go_quiet (fail);try go_wp2)
    go_ret
    exact ⟨sq,Y5⟩
mutual
def jca.l0 : Nat → List (S59) → Int → List Int → Int → Option (List Int)
 | 0,_,_,_,_=>none
 | k+1,x0,x1,x5,x6=>if x6<(x0.length:Int) then (if 0≤x6 then (if 0≤x1 then (if x1<(x0.length:Int) then (if ((jd x0 x6).f0)=((jd x0 x1).f0) then ((jI.f ((jd x0 x6).f1) 8 10).bind fun t245=>(jca.j1 k x0 x1 x5 x6 t245)) else (jca.j1 k x0 x1 x5 x6 false)) else (none)) else (none)) else (none)) else (jca.j1 k x0 x1 x5 x6 false)
def jca.j1 : Nat → List (S59) → Int → List Int → Int → Bool → Option (List Int)
 | 0,_,_,_,_,_=>none
 | k+1,x0,x1,x5,x6,x36=>if x36=true then (if x5.length<17592186044416 then ((joa.f k x0 x6).bind fun t249=>(jca.l0 k x0 x1 (x5 ++ [x6]) t249)) else (none)) else (some x5)
end
def jca.f (k : Nat) (l0 : List (S59)) (a1 : Int) : Option (List Int) := (joa.f k l0 a1).bind fun t241 => (jca.l0 k l0 a1 (([a1] : List Int)) t241)
set_option maxHeartbeats 8000000 in
set_option maxRecDepth 100000 in
theorem jca.calls (k : Nat) (A0 : Option Addr) (c0 : Nat) (l0 : List (S59)) (a1 : Int) (r : List Int) (w : World) (hr0 : Kd.C k59 w A0 l0.length l0) (hc0 : l0.length ≤ c0) (h : jca.f k l0 a1 = some r) :
  Calls Try.prog 35 #[.slice A0 l0.length c0, .int .i64 a1] w fun e w'=>∃ v0_:Value,e=.returned (v0_)∧Kd.R (Kd.int .i64) 3 w' w.heap.size (fun _=>True) v0_ r∧Below w.heap.size w w':=by
 have HR0:=am hr0
 have HC0:=am hc0
 clear hr0 hc0
 have HB:=am (Below.refl w.heap.size w)
 have H:((joa.f k l0 a1).bind fun t241=>(jca.l0 k l0 a1 (([a1]:List Int)) t241))=some r:=h
 clear h
 obtain ⟨y238,hy238⟩:∃ y_:List Int,y_=(([a1]:List Int)):=⟨_,rfl⟩
 replace H:((joa.f k l0 a1).bind fun t241=>(jca.l0 k l0 a1 y238 t241))=some r:=by first |(rw [hy238];with_reducible exact H) |(have H2_:=(Option.bind_some _ _).symm.trans H;rw [hy238];with_reducible exact H2_) |(have H2_:=(Option.bind_some _ _).symm.trans H;with_reducible exact H2_) | with_reducible exact H |(rw [hy238];exact H) | exact H
 have Ny238:=am hy238
 clear hy238
 replace H:=bzS H
 obtain ⟨t241,A30,H⟩:=H
 replace H:(jca.l0 k l0 a1 y238 t241)=some r:=H
 have A3:=am A30
 clear A30
 have H':=am H
 clear H
 go_enter Try.func35,Try.ntmps35
 go_wp2_with (first |((with_reducible refine jS (N:=8) rfl ?_);refine Kd.jWb (Kd.int .i64) _ 3 ?hg (N:=8) ?hd (xs:=([a1]:List Int)) (inner:=[.int .i64 a1]) (ok:=fun _=>True) (okp:=fun _=>True) ?hr ?hp (fun _ hk=>hk) trivial (Below.refl _ _) (Nat.le_refl _) (by simp) ?_;(case hd=>rfl);(case hg=>rfl);(case hr=>exact Y8);(case hp=>exact (Reps.one (show Kd.M (Kd.int .i64) _ _ _ a1 [.int .i64 a1] from rfl) (Reps.none _ _)));intro v239 w4 ho5 hb hg_ hnew_;clear hg_ hnew_;(first | rw [← Ny238.out] at ho5 |(simp only [Int.reduceToNat] at ho5;rw [← Ny238.out] at ho5));have HO240:=am (Kd.jea ho5 (jta (bq)));replace HB:=am (jg (bq) hb);clear hb ho5) |(go_at_call 34;(with_reducible refine (joa.calls k _ _ l0 a1 t241 _ ?side1 ?side2 A3.out).mono ?_);(case side1=>exact cq (Kd.jV HR0.out HB.out));(case side2=>exact HC0.out);rintro e w' ⟨rfl,⟨nd,rfl⟩⟩;(try first | exact ⟨rfl,_,World.drewN_drewN _ _ _⟩ | exact ⟨rfl,_,Eq.trans (World.drewN_drewN _ _ _) (congrArg (World.drewN _) (Nat.add_assoc _ _ _))⟩)))
 repeat (go_quiet (first |((with_reducible refine jS (N:=8) rfl ?_);refine Kd.jWb (Kd.int .i64) _ 3 ?hg (N:=8) ?hd (xs:=([a1]:List Int)) (inner:=[.int .i64 a1]) (ok:=fun _=>True) (okp:=fun _=>True) ?hr ?hp (fun _ hk=>hk) trivial (Below.refl _ _) (Nat.le_refl _) (by simp) ?_;(case hd=>rfl);(case hg=>rfl);(case hr=>exact Y8);(case hp=>exact (Reps.one (show Kd.M (Kd.int .i64) _ _ _ a1 [.int .i64 a1] from rfl) (Reps.none _ _)));intro v239 w4 ho5 hb hg_ hnew_;clear hg_ hnew_;(first | rw [← Ny238.out] at ho5 |(simp only [Int.reduceToNat] at ho5;rw [← Ny238.out] at ho5));have HO240:=am (Kd.jea ho5 (jta (bq)));replace HB:=am (jg (bq) hb);clear hb ho5) |(go_at_call 34;(with_reducible refine (joa.calls k _ _ l0 a1 t241 _ ?side1 ?side2 A3.out).mono ?_);(case side1=>exact cq (Kd.jV HR0.out HB.out));(case side2=>exact HC0.out);rintro e w' ⟨rfl,⟨nd,rfl⟩⟩;(try first | exact ⟨rfl,_,World.drewN_drewN _ _ _⟩ | exact ⟨rfl,_,Eq.trans (World.drewN_drewN _ _ _) (congrArg (World.drewN _) (Nat.add_assoc _ _ _))⟩)));try go_wp2_with (first |((with_reducible refine jS (N:=8) rfl ?_);refine Kd.jWb (Kd.int .i64) _ 3 ?hg (N:=8) ?hd (xs:=([a1]:List Int)) (inner:=[.int .i64 a1]) (ok:=fun _=>True) (okp:=fun _=>True) ?hr ?hp (fun _ hk=>hk) trivial (Below.refl _ _) (Nat.le_refl _) (by simp) ?_;(case hd=>rfl);(case hg=>rfl);(case hr=>exact Y8);(case hp=>exact (Reps.one (show Kd.M (Kd.int .i64) _ _ _ a1 [.int .i64 a1] from rfl) (Reps.none _ _)));intro v239 w4 ho5 hb hg_ hnew_;clear hg_ hnew_;(first | rw [← Ny238.out] at ho5 |(simp only [Int.reduceToNat] at ho5;rw [← Ny238.out] at ho5));have HO240:=am (Kd.jea ho5 (jta (bq)));replace HB:=am (jg (bq) hb);clear hb ho5) |(go_at_call 34;(with_reducible refine (joa.calls k _ _ l0 a1 t241 _ ?side1 ?side2 A3.out).mono ?_);(case side1=>exact cq (Kd.jV HR0.out HB.out));(case side2=>exact HC0.out);rintro e w' ⟨rfl,⟨nd,rfl⟩⟩;(try first | exact ⟨rfl,_,World.drewN_drewN _ _ _⟩ | exact ⟨rfl,_,Eq.trans (World.drewN_drewN _ _ _) (congrArg (World.drewN _) (Nat.add_assoc _ _ _))⟩))))
 go_loopg [5,6] k (fun kq v5 v6 w'=>∃ (x5_1:List Int) (x6_1:Int),v6=.int .i64 x6_1∧jl (jca.l0 kq l0 a1 x5_1 x6_1=some r)∧jl (kq≤k)∧jl (Kd.R (Kd.int .i64) 3 w' w.heap.size (fun _=>True) v5 x5_1)∧jl (Below w.heap.size w w'))
 case atStart=>exact ⟨(y238),(t241),(sq),H',⟨Nat.le_refl _⟩,⟨rq HO240.out⟩,⟨bq⟩⟩
 case round =>
  clear H'
  try clear p2
  try clear c3
  obtain ⟨x5_1,x6_1,rfl,HA,HK1,HO_5,HB⟩:=hrel
  cases gk with
  | zero=>exact absurd HA.out (by simp [jca.l0])
  | succ k1 =>
   have H:=HA.out
   clear HA
   simp only [jca.l0] at H
   have HC6:=am H
   clear H
   go_upto_region 3 with (fail)
   repeat (go_quiet (fail);go_upto_region 3 with (fail))
   go_cut [36] (fun v36 wc=>∃ (kq:Nat) (x36_5:Bool),v36=.bool x36_5∧jl (jca.j1 kq l0 a1 x5_1 x6_1 x36_5=some r)∧jl (kq≤k1)∧jl (Kd.R (Kd.int .i64) 3 wc w.heap.size (fun _=>True) u5 x5_1)∧jl (Below w.heap.size w wc))
   case first =>
    have H:=HC6.out
    clear HC6
    by_cases c7:x6_1<(l0.length:Int)
    ·rw [if_pos c7] at H
     have c7b0:decide (x6_1<(l0.length:Int))=true:=dzT c7
     clear c7
     (first | rw [c7b0] |(simp only [jlb,jmb];rw [c7b0]) | skip)
     by_cases c8:0≤x6_1
     ·rw [if_pos c8] at H
      have c8b0:decide (0≤x6_1)=true:=dzT c8
      clear c8
      by_cases c9:0≤a1
      ·rw [if_pos c9] at H
       have c9b0:decide (0≤a1)=true:=dzT c9
       clear c9
       by_cases c10:a1<(l0.length:Int)
       ·rw [if_pos c10] at H
        have c10b0:decide (a1<(l0.length:Int))=true:=dzT c10
        clear c10
        by_cases c11:((jd l0 x6_1).f0)=((jd l0 a1).f0)
        ·rw [if_pos c11] at H
         have c11b0:(((jd l0 x6_1).f0) == ((jd l0 a1).f0))=true:=beq_iff_eq.mpr c11
         have c11b1:(((jd l0 x6_1).f0) != ((jd l0 a1).f0))=false:=bne_eq_false_iff_eq.mpr c11
         clear c11
         replace H:=bzS H
         obtain ⟨t245,A120,H⟩:=H
         replace H:(jca.j1 k1 l0 a1 x5_1 x6_1 t245)=some r:=H
         have A12:=am A120
         clear A120
         have H':=am H
         clear H
         have p242:0≤(x6_1:Int):=ozD (uq)
         have q242:x6_1<(l0.length:Int):=ozD (uq)
         obtain ⟨ad242,e242,hx242_0,hx242_1,hx242_2,hx242_3⟩:=jza HR0.out x6_1 p242 q242
         cases e242
         replace hx242_0:=cb HB.out hx242_0
         replace hx242_1:=cb HB.out hx242_1
         replace hx242_2:=cb HB.out hx242_2
         replace hx242_3:=cb HB.out hx242_3
         replace p242:=ezT p242
         replace q242:=ezT q242
         have p243:0≤(a1:Int):=ozD (uq)
         have q243:a1<(l0.length:Int):=ozD (uq)
         obtain ⟨ad243,e243,hx243_0,hx243_1,hx243_2,hx243_3⟩:=jza HR0.out a1 p243 q243
         obtain rfl:ad242=ad243:=(by injection e243)
         replace hx243_0:=cb HB.out hx243_0
         replace hx243_1:=cb HB.out hx243_1
         replace hx243_2:=cb HB.out hx243_2
         replace hx243_3:=cb HB.out hx243_3
         replace p243:=ezT p243
         replace q243:=ezT q243
         have p244:0≤(x6_1:Int):=ozD (uq)
         have q244:x6_1<(l0.length:Int):=ozD (uq)
         obtain ⟨ad244,e244,hx244_0,hx244_1,hx244_2,hx244_3⟩:=jza HR0.out x6_1 p244 q244
         obtain rfl:ad242=ad244:=(by injection e244)
         replace hx244_0:=cb HB.out hx244_0
         replace hx244_1:=cb HB.out hx244_1
         replace hx244_2:=cb HB.out hx244_2
         replace hx244_3:=cb HB.out hx244_3
         replace p244:=ezT p244
         replace q244:=ezT q244
         go_wp2_with (first |(go_at_call 45;(with_reducible refine (jI.calls ((jd l0 x6_1).f1) 8 10 t245 _ A12.out).mono ?_);rintro e w' ⟨rfl,⟨nd,rfl⟩⟩;(try first | exact ⟨rfl,_,World.drewN_drewN _ _ _⟩ | exact ⟨rfl,_,Eq.trans (World.drewN_drewN _ _ _) (congrArg (World.drewN _) (Nat.add_assoc _ _ _))⟩)))
         repeat (go_quiet (first |(go_at_call 45;(with_reducible refine (jI.calls ((jd l0 x6_1).f1) 8 10 t245 _ A12.out).mono ?_);rintro e w' ⟨rfl,⟨nd,rfl⟩⟩;(try first | exact ⟨rfl,_,World.drewN_drewN _ _ _⟩ | exact ⟨rfl,_,Eq.trans (World.drewN_drewN _ _ _) (congrArg (World.drewN _) (Nat.add_assoc _ _ _))⟩)));try go_wp2_with (first |(go_at_call 45;(with_reducible refine (jI.calls ((jd l0 x6_1).f1) 8 10 t245 _ A12.out).mono ?_);rintro e w' ⟨rfl,⟨nd,rfl⟩⟩;(try first | exact ⟨rfl,_,World.drewN_drewN _ _ _⟩ | exact ⟨rfl,_,Eq.trans (World.drewN_drewN _ _ _) (congrArg (World.drewN _) (Nat.add_assoc _ _ _))⟩))))
         go_meet
         case rel=>exact ⟨_,(t245),(sq),H',⟨by have:=HK1.out;first | omega | exact Nat.le_refl _⟩,⟨rq HO_5.out⟩,⟨bq⟩⟩
        ·rw [if_neg c11] at H
         have c11b0:(((jd l0 x6_1).f0) == ((jd l0 a1).f0))=false:=beq_eq_false_iff_ne.mpr c11
         have c11b1:(((jd l0 x6_1).f0) != ((jd l0 a1).f0))=true:=bne_iff_ne.mpr c11
         have H':=am H
         clear H
         have p242:0≤(x6_1:Int):=ozD (uq)
         have q242:x6_1<(l0.length:Int):=ozD (uq)
         obtain ⟨ad242,e242,hx242_0,hx242_1,hx242_2,hx242_3⟩:=jza HR0.out x6_1 p242 q242
         cases e242
         replace hx242_0:=cb HB.out hx242_0
         replace hx242_1:=cb HB.out hx242_1
         replace hx242_2:=cb HB.out hx242_2
         replace hx242_3:=cb HB.out hx242_3
         replace p242:=ezT p242
         replace q242:=ezT q242
         have p243:0≤(a1:Int):=ozD (uq)
         have q243:a1<(l0.length:Int):=ozD (uq)
         obtain ⟨ad243,e243,hx243_0,hx243_1,hx243_2,hx243_3⟩:=jza HR0.out a1 p243 q243
         obtain rfl:ad242=ad243:=(by injection e243)
         replace hx243_0:=cb HB.out hx243_0
         replace hx243_1:=cb HB.out hx243_1
         replace hx243_2:=cb HB.out hx243_2
         replace hx243_3:=cb HB.out hx243_3
         replace p243:=ezT p243
         replace q243:=ezT q243
         go_wp2
         repeat (go_quiet (fail);try go_wp2)
         go_meet
         case rel=>exact ⟨_,(false),(sq),H',⟨by have:=HK1.out;first | omega | exact Nat.le_refl _⟩,⟨rq HO_5.out⟩,⟨bq⟩⟩
       ·rw [if_neg c10] at H
        exact absurd H (by simp)
      ·rw [if_neg c9] at H
       exact absurd H (by simp)
     ·rw [if_neg c8] at H
      exact absurd H (by simp)
    ·rw [if_neg c7] at H
     have c7b0:decide (x6_1<(l0.length:Int))=false:=dzF c7
     clear c7
     (first | rw [c7b0] |(simp only [jlb,jmb];rw [c7b0]) | skip)
     have H':=am H
     clear H
     go_wp2
     repeat (go_quiet (fail);try go_wp2)
     go_meet
     case rel=>exact ⟨_,(false),(sq),H',⟨by have:=HK1.out;first | omega | exact Nat.le_refl _⟩,⟨rq HO_5.out⟩,⟨bq⟩⟩
   case rest =>
    clear HC6
    try clear c1
    try clear p2
    try clear q2
    try clear hx2
    try clear c3
    try clear c7
    try clear c7b0
    try clear c8
    try clear c8b0
    try clear c9
    try clear c9b0
    try clear c10
    try clear c10b0
    try clear c11
    try clear c11b0
    try clear c11b1
    try clear hx242_0
    try clear hx242_1
    try clear hx242_2
    try clear hx242_3
    try clear hx243_0
    try clear hx243_1
    try clear hx243_2
    try clear hx243_3
    try clear hx244_0
    try clear hx244_1
    try clear hx244_2
    try clear hx244_3
    try clear p2
    try clear p242
    try clear p243
    try clear p244
    try clear q242
    try clear q243
    try clear q244
    obtain ⟨kq,x36_5,rfl,HA,HJ5,HO_5,HB⟩:=hcut
    cases kq with
    | zero=>exact absurd HA.out (by simp [jca.j1])
    | succ kj5 =>
     have H:=HA.out
     clear HA
     simp only [jca.j1] at H
     by_cases c13:x36_5=true
     ·subst c13
      have H1:(if x5_1.length<17592186044416 then ((joa.f kj5 l0 x6_1).bind fun t249=>(jca.l0 kj5 l0 a1 (x5_1 ++ [x6_1]) t249)) else (none))=some r:=by rw [if_pos rfl] at H;exact H
      clear H
      have H:=H1
      clear H1
      by_cases c14:x5_1.length<17592186044416
      ·rw [if_pos c14] at H
       have LMc14:=am c14
       clear c14
       obtain ⟨y246,hy246⟩:∃ y_:List Int,y_=(x5_1 ++ [x6_1]):=⟨_,rfl⟩
       replace H:((joa.f kj5 l0 x6_1).bind fun t249=>(jca.l0 kj5 l0 a1 y246 t249))=some r:=by first |(rw [hy246];with_reducible exact H) |(have H2_:=(Option.bind_some _ _).symm.trans H;rw [hy246];with_reducible exact H2_) |(have H2_:=(Option.bind_some _ _).symm.trans H;with_reducible exact H2_) | with_reducible exact H |(rw [hy246];exact H) | exact H
       have Ny246:=am hy246
       clear hy246
       replace H:=bzS H
       obtain ⟨t249,A150,H⟩:=H
       replace H:(jca.l0 kj5 l0 a1 y246 t249)=some r:=H
       have A15:=am A150
       clear A150
       have H':=am H
       clear H
       go_wp2_with (first |((with_reducible refine jLa (b:=.append) (xs:=#[.tmp 40, .tmp 42]) rfl ?_);at_builtin;refine Kd.jVb (Kd.int .i64) (w0:=w) w.heap.size rfl (.tmp 40) (.tmp 42) 65 3 (.int .i64 0) 8 rfl Try.underlying65 info3 rfl (by decide) (by omega) u5 x5_1 x6_1 [.int .i64 x6_1] (fun _=>True) (fun _=>False) rfl rfl ?aP (fun _ hk=>hk.elim) ?aF ?aO ?aB ?aS ?aL ?_;(case aP=>exact rfl);(case aB=>exact (bq));(case aF=>exact (fun _ _=>trivial));(case aO=>exact (rq HO_5.out));(case aS=>exact (jta (bq)));(case aL=>have:=LMc14.out;omega);intro v247 w16 ho hb hg hat;rw [← Ny246.out] at ho;have n0_:=am (hb);have n1_:=am (ho);clear HB HO_5;have HB:=n0_;have HO248:=n1_;clear n0_ n1_ ho hb hg hat) |(go_at_call 34;(with_reducible refine (joa.calls kj5 _ _ l0 x6_1 t249 _ ?side1 ?side2 A15.out).mono ?_);(case side1=>exact cq (Kd.jV HR0.out HB.out));(case side2=>exact HC0.out);rintro e w' ⟨rfl,⟨nd,rfl⟩⟩;(try first | exact ⟨rfl,_,World.drewN_drewN _ _ _⟩ | exact ⟨rfl,_,Eq.trans (World.drewN_drewN _ _ _) (congrArg (World.drewN _) (Nat.add_assoc _ _ _))⟩)))
       repeat (go_quiet (first |((with_reducible refine jLa (b:=.append) (xs:=#[.tmp 40, .tmp 42]) rfl ?_);at_builtin;refine Kd.jVb (Kd.int .i64) (w0:=w) w.heap.size rfl (.tmp 40) (.tmp 42) 65 3 (.int .i64 0) 8 rfl Try.underlying65 info3 rfl (by decide) (by omega) u5 x5_1 x6_1 [.int .i64 x6_1] (fun _=>True) (fun _=>False) rfl rfl ?aP (fun _ hk=>hk.elim) ?aF ?aO ?aB ?aS ?aL ?_;(case aP=>exact rfl);(case aB=>exact (bq));(case aF=>exact (fun _ _=>trivial));(case aO=>exact (rq HO_5.out));(case aS=>exact (jta (bq)));(case aL=>have:=LMc14.out;omega);intro v247 w16 ho hb hg hat;rw [← Ny246.out] at ho;have n0_:=am (hb);have n1_:=am (ho);clear HB HO_5;have HB:=n0_;have HO248:=n1_;clear n0_ n1_ ho hb hg hat) |(go_at_call 34;(with_reducible refine (joa.calls kj5 _ _ l0 x6_1 t249 _ ?side1 ?side2 A15.out).mono ?_);(case side1=>exact cq (Kd.jV HR0.out HB.out));(case side2=>exact HC0.out);rintro e w' ⟨rfl,⟨nd,rfl⟩⟩;(try first | exact ⟨rfl,_,World.drewN_drewN _ _ _⟩ | exact ⟨rfl,_,Eq.trans (World.drewN_drewN _ _ _) (congrArg (World.drewN _) (Nat.add_assoc _ _ _))⟩)));try go_wp2_with (first |((with_reducible refine jLa (b:=.append) (xs:=#[.tmp 40, .tmp 42]) rfl ?_);at_builtin;refine Kd.jVb (Kd.int .i64) (w0:=w) w.heap.size rfl (.tmp 40) (.tmp 42) 65 3 (.int .i64 0) 8 rfl Try.underlying65 info3 rfl (by decide) (by omega) u5 x5_1 x6_1 [.int .i64 x6_1] (fun _=>True) (fun _=>False) rfl rfl ?aP (fun _ hk=>hk.elim) ?aF ?aO ?aB ?aS ?aL ?_;(case aP=>exact rfl);(case aB=>exact (bq));(case aF=>exact (fun _ _=>trivial));(case aO=>exact (rq HO_5.out));(case aS=>exact (jta (bq)));(case aL=>have:=LMc14.out;omega);intro v247 w16 ho hb hg hat;rw [← Ny246.out] at ho;have n0_:=am (hb);have n1_:=am (ho);clear HB HO_5;have HB:=n0_;have HO248:=n1_;clear n0_ n1_ ho hb hg hat) |(go_at_call 34;(with_reducible refine (joa.calls kj5 _ _ l0 x6_1 t249 _ ?side1 ?side2 A15.out).mono ?_);(case side1=>exact cq (Kd.jV HR0.out HB.out));(case side2=>exact HC0.out);rintro e w' ⟨rfl,⟨nd,rfl⟩⟩;(try first | exact ⟨rfl,_,World.drewN_drewN _ _ _⟩ | exact ⟨rfl,_,Eq.trans (World.drewN_drewN _ _ _) (congrArg (World.drewN _) (Nat.add_assoc _ _ _))⟩))))
       go_roundg kj5
       case measure=>have:=HK1.out;have:=HJ5.out;omega
       case rel=>exact ⟨(y246),(t249),(sq),H',⟨by have:=HK1.out;have:=HJ5.out;omega⟩,⟨rq HO248.out⟩,⟨bq⟩⟩
      ·rw [if_neg c14] at H
       exact absurd H (by simp)
     ·replace c13:=Bool.eq_false_iff.mpr c13
      subst c13
      have H1:(some x5_1)=some r:=by rw [if_neg (show ¬ (false=true) by decide)] at H;exact H
      clear H
      have H:=H1
      clear H1
      obtain rfl:=Option.some.inj H
      go_wp2
      repeat (go_quiet (fail);try go_wp2)
      go_ret
      exact ⟨_,Y0,rq HO_5.out,bq⟩
def jHa.l0 : Nat → List (S59) → Int → List Int → Int → Option (List Int)
 | 0,_,_,_,_=>none
 | k+1,x0,x2,x7,x8=>if x8<x2 then (if x7.length<17592186044416 then ((joa.f k x0 x8).bind fun t256=>(jHa.l0 k x0 x2 (x7 ++ [x8]) t256)) else (none)) else (some x7)
def jHa.f (k : Nat) (l0 : List (S59)) (a1 : Int) (a2 : Int) : Option (List Int) := jHa.l0 k l0 a2 (([] : List Int)) a1
set_option maxHeartbeats 8000000 in
set_option maxRecDepth 100000 in
theorem jHa.calls (k : Nat) (A0 : Option Addr) (c0 : Nat) (l0 : List (S59)) (a1 : Int) (a2 : Int) (r : List Int) (w : World) (hr0 : Kd.C k59 w A0 l0.length l0) (hc0 : l0.length ≤ c0) (h : jHa.f k l0 a1 a2 = some r) :
  Calls Try.prog 76 #[.slice A0 l0.length c0, .int .i64 a1, .int .i64 a2] w fun e w'=>∃ v0_:Value,e=.returned (v0_)∧Kd.R (Kd.int .i64) 3 w' w.heap.size (fun _=>True) v0_ r∧Below w.heap.size w w':=by
 have HR0:=am hr0
 have HC0:=am hc0
 clear hr0 hc0
 have HB:=am (Below.refl w.heap.size w)
 have H:(jHa.l0 k l0 a2 (([]:List Int)) a1)=some r:=h
 clear h
 obtain ⟨y250,hy250⟩:∃ y_:List Int,y_=(([]:List Int)):=⟨_,rfl⟩
 replace H:(jHa.l0 k l0 a2 y250 a1)=some r:=by first |(rw [hy250];with_reducible exact H) |(have H2_:=(Option.bind_some _ _).symm.trans H;rw [hy250];with_reducible exact H2_) |(have H2_:=(Option.bind_some _ _).symm.trans H;with_reducible exact H2_) | with_reducible exact H |(rw [hy250];exact H) | exact H
 have Ny250:=am hy250
 clear hy250
 have H':=am H
 clear H
 go_enter Try.func76,Try.ntmps76
 go_wp2_with (first |((with_reducible refine jS (N:=9) rfl ?_);refine Kd.jWb (Kd.int .i64) _ 3 ?hg (N:=9) ?hd (xs:=([]:List Int)) (inner:=[]) (ok:=fun _=>True) (okp:=fun _=>True) ?hr ?hp (fun _ hk=>hk) trivial (Below.refl _ _) (Nat.le_refl _) (by simp) ?_;(case hd=>rfl);(case hg=>rfl);(case hr=>exact Y8);(case hp=>exact (Reps.none _ _));intro v251 w4 ho5 hb hg_ hnew_;clear hg_ hnew_;(first | rw [← Ny250.out] at ho5 |(simp only [Int.reduceToNat] at ho5;rw [← Ny250.out] at ho5));have HO252:=am (Kd.jea ho5 (jta (bq)));replace HB:=am (jg (bq) hb);clear hb ho5))
 go_loopg [7,8] k (fun kq v7 v8 w'=>∃ (x7_1:List Int) (x8_1:Int),v8=.int .i64 x8_1∧jl (jHa.l0 kq l0 a2 x7_1 x8_1=some r)∧jl (kq≤k)∧jl (Kd.R (Kd.int .i64) 3 w' w.heap.size (fun _=>True) v7 x7_1)∧jl (Below w.heap.size w w'))
 case atStart=>exact ⟨(y250),(a1),(sq),H',⟨Nat.le_refl _⟩,⟨rq HO252.out⟩,⟨bq⟩⟩
 case round =>
  clear H'
  try clear p2
  obtain ⟨x7_1,x8_1,rfl,HA,HK1,HO_7,HB⟩:=hrel
  cases gk with
  | zero=>exact absurd HA.out (by simp [jHa.l0])
  | succ k1 =>
   have H:=HA.out
   clear HA
   simp only [jHa.l0] at H
   by_cases c6:x8_1<a2
   ·rw [if_pos c6] at H
    have c6b0:decide (x8_1<a2)=true:=dzT c6
    clear c6
    by_cases c7:x7_1.length<17592186044416
    ·rw [if_pos c7] at H
     have LMc7:=am c7
     clear c7
     obtain ⟨y253,hy253⟩:∃ y_:List Int,y_=(x7_1 ++ [x8_1]):=⟨_,rfl⟩
     replace H:((joa.f k1 l0 x8_1).bind fun t256=>(jHa.l0 k1 l0 a2 y253 t256))=some r:=by first |(rw [hy253];with_reducible exact H) |(have H2_:=(Option.bind_some _ _).symm.trans H;rw [hy253];with_reducible exact H2_) |(have H2_:=(Option.bind_some _ _).symm.trans H;with_reducible exact H2_) | with_reducible exact H |(rw [hy253];exact H) | exact H
     have Ny253:=am hy253
     clear hy253
     replace H:=bzS H
     obtain ⟨t256,A80,H⟩:=H
     replace H:(jHa.l0 k1 l0 a2 y253 t256)=some r:=H
     have A8:=am A80
     clear A80
     have H':=am H
     clear H
     go_wp2_with (first |((with_reducible refine jLa (b:=.append) (xs:=#[.tmp 17, .tmp 19]) rfl ?_);at_builtin;refine Kd.jVb (Kd.int .i64) (w0:=w) w.heap.size rfl (.tmp 17) (.tmp 19) 65 3 (.int .i64 0) 8 rfl Try.underlying65 info3 rfl (by decide) (by omega) u7 x7_1 x8_1 [.int .i64 x8_1] (fun _=>True) (fun _=>False) rfl rfl ?aP (fun _ hk=>hk.elim) ?aF ?aO ?aB ?aS ?aL ?_;(case aP=>exact rfl);(case aB=>exact (bq));(case aF=>exact (fun _ _=>trivial));(case aO=>exact (rq HO_7.out));(case aS=>exact (jta (bq)));(case aL=>have:=LMc7.out;omega);intro v254 w9 ho hb hg hat;rw [← Ny253.out] at ho;have n0_:=am (hb);have n1_:=am (ho);clear HB HO_7;have HB:=n0_;have HO255:=n1_;clear n0_ n1_ ho hb hg hat) |((with_reducible refine je (f:=34) rfl ?_);refine gL (some 16) Try.func34 #[.slice A0 l0.length c0, .int .i64 x8_1] ?_;(with_reducible refine (joa.calls k1 _ _ l0 x8_1 t256 _ ?side1 ?side2 A8.out).mono ?_);(case side1=>exact cq (Kd.jV HR0.out HB.out));(case side2=>exact HC0.out);rintro e w' ⟨rfl,⟨nd,rfl⟩⟩;refine ⟨_,rfl,?_⟩))
     go_roundg k1
     case measure=>have:=HK1.out;omega
     case rel=>exact ⟨(y253),(t256),(sq),H',⟨by have:=HK1.out;omega⟩,⟨rq HO255.out⟩,⟨bq⟩⟩
    ·rw [if_neg c7] at H
     exact absurd H (by simp)
   ·rw [if_neg c6] at H
    have c6b0:decide (x8_1<a2)=false:=dzF c6
    clear c6
    obtain rfl:=Option.some.inj H
    go_wp2
    go_ret
    exact ⟨_,Y0,rq HO_7.out,bq⟩
def jOa.go (p : List S59) : List Int → Int → Int → Option (Option Int)
 | [],ex,_=>some (some ex)
 | k :: ks,ex,last=>if 0≤k then if k<(p.length:Int) then
   if (jd p k).f1=8 then if last≤8 then jOa.go p ks (ex+1) (jd p k).f1 else some none
   else if (jd p k).f1=9 then if last=8 then jOa.go p ks ex (jd p k).f1 else some none
   else if (jd p k).f1=10 then if last<10 then jOa.go p ks ex (jd p k).f1 else some none
   else some none
  else none else none
def jOa.f (l0 : List S59) (l1 : List Int) : Option Bool := if 1 ≤ l1.length then (jOa.go l0 (l1.drop 1) 0 7).bind fun r => match r with | none => some false | some ex => some (decide (1 < l1.length) && decide (ex ≤ 6)) else none
theorem jOa.step {p : List S59} {l : List Int} {k : Nat} {ex last : Int} {r : Option Int} (hk : k < l.length) (h : jOa.go p (l.drop k) ex last = some r) : jOa.go p (l[k] :: l.drop (k + 1)) ex last = some r := by
 rw [← List.drop_eq_getElem_cons hk];exact h
set_option maxHeartbeats 8000000 in
set_option maxRecDepth 100000 in
theorem jOa.calls (A0 : Option Addr) (c0 : Nat) (l0 : List S59) (A1 : Option Addr) (c1 : Nat) (l1 : List Int) (r : Bool) (w : World) (hr0 : Kd.C k59 w A0 l0.length l0) (hc0 : l0.length ≤ c0) (hr1 : Kd.C (Kd.int .i64) w A1 l1.length l1) (hc1 : l1.length ≤ c1) (h : jOa.f l0 l1 = some r) :
  Calls Try.prog 77 #[.slice A0 l0.length c0, .slice A1 l1.length c1] w fun e w'=>e=.returned (.bool r)∧jfb w w':=by
 have hu59:=Try.underlying59
 have hm:l1.length≤9223372036854775807:=Kd.C_max hr1
 simp only [jOa.f] at h
 by_cases h1:1≤l1.length
 ·rw [if_pos h1] at h
  obtain ⟨q,hq,h⟩:=bzS h
  have HR0:=am hr0
  have HR1:=am hr1
  have H0:=am hq
  have HZ:=am h
  have h1b:(1:Int)≤(l1.length:Int):=by omega
  obtain ⟨i03,hi03,_,hsz3,_⟩:=info_parts info3
  obtain ⟨A',hcut,hA',hC'⟩:=print_drop_of (P:=Try.prog) (Value.int .i64) (0:Int) 65 3 .i64 Try.underlying65 hi03 hsz3 A1 c1 l1 1 (by omega) h1b hc1
  replace hA':=hA' _ (Kd.reads_of_C hr1)
  rw [show ((1:Int)).toNat=1 from rfl] at hcut hA' hC'
  generalize hl2:l1.drop 1=l2 at hcut hA' hC' H0
  have hdl:l2.length<l1.length:=by rw [← hl2,List.length_drop];omega
  clear hl2
  have HS:=am hA'
  clear hr0 hr1 hq h hA' hi03 hsz3
  go_enter Try.func77,Try.ntmps77
  go_wp2
  go_loop [5,6,13] (fun i5 i6 i13=>∃ (k:Nat) (ex last:Int),i13=.int .i64 k∧i5=.int .i64 ex∧i6=.int .i64 last∧k≤l2.length∧0≤ex∧ex≤(k:Int)∧jl (jOa.go l0 (l2.drop k) ex last=some q)) (fun _ _ i13=>l2.length - (intOf i13).toNat)
  case atStart=>exact ⟨0,0,7,rfl,rfl,rfl,Nat.zero_le _,by omega,by omega,H0⟩
  case round =>
   clear H0
   obtain ⟨k,ex,last,rfl,rfl,rfl,hk,hx0,hx1,HA⟩:=hrel
   by_cases hlt:k<l2.length
   ·have HB:=am (jOa.step hlt HA.out)
    clear HA
    have HC:=HS.out
    obtain ⟨ad,rfl,hx⟩:=Kd.jsb (Kd.C_of_reads (h1:=fun _=>rfl) HC) (k:Int) (by omega) (by omega)
    have hrd:rd l2 (k:Int)=l2[k]:=by simp only [rd,Int.toNat_natCast,List.getD_eq_getElem?_getD,List.getElem?_eq_getElem hlt,Option.getD_some]
    rw [hrd,Int.toNat_natCast] at hx
    clear hrd HC
    have hgo:=HB.out
    generalize l2[k]=x at hgo hx
    simp only [jOa.go] at hgo
    clear HB
    by_cases h0:0≤x
    ·rw [if_pos h0] at hgo
     by_cases h2:x<(l0.length:Int)
     ·rw [if_pos h2] at hgo
      obtain ⟨ad0,rfl,hy0,hy1,hy2,hy3⟩:=jza HR0.out x h0 h2
      generalize hkd:(jd l0 x).f1=kd at hgo hy1
      clear hkd
      have q2:=ezT h2
      have q0:=ezT h0
      clear h0 h2
      by_cases e8:kd=8
      ·subst e8
       rw [if_pos rfl] at hgo
       by_cases hl:last≤8
       ·rw [if_pos hl] at hgo
        have hlb:=dzT hl
        clear hl
        have HG:=am hgo
        clear hgo HZ
        go_wp2
        go_round
        case rel=>exact ⟨k+1,ex+1,_,by go_num,rfl,rfl,hlt,by omega,by omega,HG⟩
        case measure=>simp [intOf];omega
       ·rw [if_neg hl] at hgo
        have hlb:=dzF hl
        clear hl
        obtain rfl:none=q:=by simpa using hgo
        have HR:=am (by simpa using HZ.out:r=false)
        clear hgo HZ
        go_wp2
        go_ret
        exact ⟨by rw [HR.out];rfl,jfb.refl _⟩
      ·rw [if_neg e8] at hgo
       have e8b:(kd == 8)=false:=beq_eq_false_iff_ne.2 e8
       clear e8
       by_cases e9:kd=9
       ·subst e9
        rw [if_pos rfl] at hgo
        by_cases hl:last=8
        ·rw [if_pos hl] at hgo
         have hlb:(last == 8)=true:=beq_iff_eq.2 hl
         clear hl
         have HG:=am hgo
         clear hgo HZ
         go_wp2
         go_round
         case rel=>exact ⟨k+1,ex,_,by go_num,rfl,rfl,hlt,by omega,by omega,HG⟩
         case measure=>simp [intOf];omega
        ·rw [if_neg hl] at hgo
         have hlb:(last == 8)=false:=beq_eq_false_iff_ne.2 hl
         clear hl
         obtain rfl:none=q:=by simpa using hgo
         have HR:=am (by simpa using HZ.out:r=false)
         clear hgo HZ
         go_wp2
         go_ret
         exact ⟨by rw [HR.out];rfl,jfb.refl _⟩
       ·rw [if_neg e9] at hgo
        have e9b:(kd == 9)=false:=beq_eq_false_iff_ne.2 e9
        clear e9
        by_cases e10:kd=10
        ·subst e10
         rw [if_pos rfl] at hgo
         by_cases hl:last<10
         ·rw [if_pos hl] at hgo
          have hlb:=dzT hl
          clear hl
          have HG:=am hgo
          clear hgo HZ
          go_wp2
          go_round
          case rel=>exact ⟨k+1,ex,_,by go_num,rfl,rfl,hlt,by omega,by omega,HG⟩
          case measure=>simp [intOf];omega
         ·rw [if_neg hl] at hgo
          have hlb:=dzF hl
          clear hl
          obtain rfl:none=q:=by simpa using hgo
          have HR:=am (by simpa using HZ.out:r=false)
          clear hgo HZ
          go_wp2
          go_ret
          exact ⟨by rw [HR.out];rfl,jfb.refl _⟩
        ·rw [if_neg e10] at hgo
         have e10b:(kd == 10)=false:=beq_eq_false_iff_ne.2 e10
         clear e10
         obtain rfl:none=q:=by simpa using hgo
         have HR:=am (by simpa using HZ.out:r=false)
         clear hgo HZ
         go_wp2
         go_ret
         exact ⟨by rw [HR.out];rfl,jfb.refl _⟩
     ·rw [if_neg h2] at hgo
      cases hgo
    ·rw [if_neg h0] at hgo
     cases hgo
   ·have hgo:=HA.out
    rw [List.drop_eq_nil_of_le (by omega)] at hgo
    obtain rfl:some ex=q:=by simpa [jOa.go] using hgo
    clear hgo HA
    have HY:=am (Option.some.inj HZ.out)
    clear HZ
    by_cases h1c:1<l1.length
    ·have hb1:=dzT h1c
     go_wp2
     go_ret
     exact ⟨by rw [← HY.out,hb1];rfl,jfb.refl _⟩
    ·have hb1:=dzF h1c
     go_wp2
     go_ret
     exact ⟨by rw [← HY.out,hb1];rfl,jfb.refl _⟩
 ·rw [if_neg h1] at h
  cases h
mutual
def jk.l0 : Nat → List (S59) → Bool → List Int → Int → Option (Bool)
 | 0,_,_,_,_=>none
 | k+1,x0,x3,x9,x10=>if x10<(x9.length:Int) then (if 0≤x10 then (if 0≤(rd x9 x10) then (if (rd x9 x10)<(x0.length:Int) then (if ((jd x0 (rd x9 x10)).f1)=5 then (jk.j1 k x0 x3 x9 x10 (rd x9 x10) ((jd x0 (rd x9 x10)).f1) ((jd x0 (rd x9 x10)).f1) (((jd x0 (rd x9 x10)).f1) == 5)) else (jk.j1 k x0 x3 x9 x10 (rd x9 x10) ((jd x0 (rd x9 x10)).f1) ((jd x0 (rd x9 x10)).f1) (((jd x0 (rd x9 x10)).f1) == 6))) else (none)) else (none)) else (none)) else (some true)
def jk.j1 : Nat → List (S59) → Bool → List Int → Int → Int → Int → Int → Bool → Option (Bool)
 | 0,_,_,_,_,_,_,_,_=>none
 | k+1,x0,x3,x9,x10,x11,x12,x35,x36=>if x36=true then (if x3=true then (jk.l0 k x0 x3 x9 (wrap64 (x10+1))) else (some false)) else (if x35=8 then (jk.j2 k x0 x3 x9 x10 x11 x12 x35 (x35 == 8)) else (if x35=9 then (jk.j2 k x0 x3 x9 x10 x11 x12 x35 (x35 == 9)) else (jk.j2 k x0 x3 x9 x10 x11 x12 x35 (x35 == 10))))
def jk.j2 : Nat → List (S59) → Bool → List Int → Int → Int → Int → Int → Bool → Option (Bool)
 | 0,_,_,_,_,_,_,_,_=>none
 | k+1,x0,x3,x9,x10,x11,x12,x35,x41=>if x41=true then (some false) else (if x35=7 then ((jca.f k x0 x11).bind fun t262=>((jOa.f x0 t262).bind fun t265=>(if t265=true then (jk.l1 k x0 x3 x9 x10 t262 t262 (t262.length:Int) 0) else (some false)))) else (if x35=11 then (jk.j4 k x0 x3 x9 x10 x11 x12 (x35 == 11)) else (jk.j4 k x0 x3 x9 x10 x11 x12 (x35 == 12))))
def jk.l1 : Nat → List (S59) → Bool → List Int → Int → List Int → List Int → Int → Int → Option (Bool)
 | 0,_,_,_,_,_,_,_,_=>none
 | k+1,x0,x3,x9,x10,x13,x54,x55,x56=>if x56<x55 then (if 0≤x56 then (if x56<(x54.length:Int) then ((joa.f k x0 (rd x54 x56)).bind fun t267=>((jk.f k x0 (wrap64 ((rd x54 x56)+1)) t267 x3).bind fun t268=>(if t268=true then (jk.l1 k x0 x3 x9 x10 x13 x54 x55 (wrap64 (x56+1))) else (some false)))) else (none)) else (none)) else (jk.l0 k x0 x3 x9 (wrap64 ((wrap64 (x10+(wrap64 ((x13.length:Int) - 1))))+1)))
def jk.j4 : Nat → List (S59) → Bool → List Int → Int → Int → Int → Bool → Option (Bool)
 | 0,_,_,_,_,_,_,_=>none
 | k+1,x0,x3,x9,x10,x11,x12,x75=>if x75=true then ((joa.f k x0 x11).bind fun t269=>(if x3=true then ((jk.f k x0 (wrap64 (x11+1)) t269 true).bind fun t270=>(if t270=true then (jk.l0 k x0 x3 x9 (wrap64 (x10+1))) else (some false))) else ((jk.f k x0 (wrap64 (x11+1)) t269 (x12 == 12)).bind fun t271=>(if t271=true then (jk.l0 k x0 x3 x9 (wrap64 (x10+1))) else (some false))))) else (jk.l0 k x0 x3 x9 (wrap64 (x10+1)))
def jk.f : Nat → List (S59) → Int → Int → Bool → Option (Bool)
 | 0,_,_,_,_=>none
 | k+1,l0,a1,a2,a3=>(jHa.f k l0 a1 a2).bind fun t257=>(jk.l0 k l0 a3 t257 0)
end
set_option maxHeartbeats 8000000 in
set_option maxRecDepth 100000 in
theorem jk.calls (k : Nat) : ∀ (A0 : Option Addr) (c0 : Nat) (l0 : List (S59)) (a1 : Int) (a2 : Int) (a3 : Bool) (r : Bool) (w : World) (hr0 : Kd.C k59 w A0 l0.length l0) (hc0 : l0.length ≤ c0) (h : jk.f k l0 a1 a2 a3 = some r),
  Calls Try.prog 47 #[.slice A0 l0.length c0, .int .i64 a1, .int .i64 a2, .bool a3] w fun e w'=>e=.returned (.bool r)∧Below w.heap.size w w':=by
 induction k using Nat.strongRecOn with
 | _ k ih =>
 intro A0 c0 l0 a1 a2 a3 r w hr0 hc0 h
 cases k with
 | zero=>exact absurd h (by simp [jk.f])
 | succ k =>
 simp only [jk.f] at h
 have HR0:=am hr0
 have HC0:=am hc0
 clear hr0 hc0
 have HB:=am (Below.refl w.heap.size w)
 have H:((jHa.f k l0 a1 a2).bind fun t257=>(jk.l0 k l0 a3 t257 0))=some r:=h
 clear h
 replace H:=bzS H
 obtain ⟨t257,A50,H⟩:=H
 replace H:(jk.l0 k l0 a3 t257 0)=some r:=H
 have A5:=am A50
 clear A50
 have H':=am H
 clear H
 go_enter Try.func47,Try.ntmps47
 go_wp2_with (first |((with_reducible refine je (f:=76) rfl ?_);refine gL (some 19) Try.func76 #[.slice A0 l0.length c0, .int .i64 a1, .int .i64 a2] ?_;(with_reducible refine (jHa.calls k _ _ l0 a1 a2 t257 _ ?side1 ?side2 A5.out).mono ?_);(case side1=>exact Y33);(case side2=>exact HC0.out);rintro e w6 ⟨v258,rfl,ho0,hb⟩;refine ⟨_,rfl,?_⟩;have HO259:=am (Kd.jea ho0 (jta (bq)));replace HB:=am (jg (bq) hb);(try clear hb);(try clear hb2);(try clear hk);(try clear hi);(try clear ho0)))
 go_loopg [10] k (fun kq v10 w'=>∃ (x10_1:Int),v10=.int .i64 x10_1∧jl (jk.l0 kq l0 a3 t257 x10_1=some r)∧jl (kq≤k)∧jl (Kd.R (Kd.int .i64) 3 w' w.heap.size (fun _=>True) v258 t257)∧jl (Below w.heap.size w w'))
 case atStart=>exact ⟨(0),(sq),H',⟨Nat.le_refl _⟩,⟨rq HO259.out⟩,⟨bq⟩⟩
 case round =>
  clear H'
  try clear p2
  try clear c4
  obtain ⟨x10_1,rfl,HA,HK1,HO_9,HB⟩:=hrel
  cases gk with
  | zero=>exact absurd HA.out (by simp [jk.l0])
  | succ k1 =>
   have H:=HA.out
   clear HA
   simp only [jk.l0] at H
   by_cases c7:x10_1<(t257.length:Int)
   ·rw [if_pos c7] at H
    have c7b0:decide (x10_1<(t257.length:Int))=true:=dzT c7
    clear c7
    by_cases c8:0≤x10_1
    ·rw [if_pos c8] at H
     have c8b0:decide (0≤x10_1)=true:=dzT c8
     clear c8
     by_cases c9:0≤(rd t257 x10_1)
     ·rw [if_pos c9] at H
      have c9b0:decide (0≤(rd t257 x10_1))=true:=dzT c9
      clear c9
      by_cases c10:(rd t257 x10_1)<(l0.length:Int)
      ·rw [if_pos c10] at H
       have c10b0:decide ((rd t257 x10_1)<(l0.length:Int))=true:=dzT c10
       clear c10
       have HC11:=am H
       clear H
       obtain ⟨Ao12,co12,eo12⟩:=Kd.jsa HO_9.out
       subst eo12
       have p260:0≤(x10_1:Int):=ozD (uq)
       have q260:x10_1<(t257.length:Int):=ozD (uq)
       obtain ⟨ad260,e260,hx260_0⟩:=Kd.jsb (Kd.jE HO_9.out).2.2 x10_1 p260 q260
       cases e260
       replace p260:=ezT p260
       replace q260:=ezT q260
       have p261:0≤((rd t257 x10_1):Int):=ozD (uq)
       have q261:(rd t257 x10_1)<(l0.length:Int):=ozD (uq)
       obtain ⟨ad261,e261,hx261_0,hx261_1,hx261_2,hx261_3⟩:=jza HR0.out (rd t257 x10_1) p261 q261
       cases e261
       replace hx261_0:=cb HB.out hx261_0
       replace hx261_1:=cb HB.out hx261_1
       replace hx261_2:=cb HB.out hx261_2
       replace hx261_3:=cb HB.out hx261_3
       replace p261:=ezT p261
       replace q261:=ezT q261
       go_upto_if 36 with (fail)
       go_cut [36] (fun v36 wc=>∃ (kq:Nat) (x36_10:Bool),v36=.bool x36_10∧jl (jk.j1 kq l0 a3 t257 x10_1 (rd t257 x10_1) ((jd l0 (rd t257 x10_1)).f1) ((jd l0 (rd t257 x10_1)).f1) x36_10=some r)∧jl (kq≤k1)∧jl (Kd.R (Kd.int .i64) 3 wc w.heap.size (fun _=>True) (.slice (some ad260) t257.length co12) t257)∧jl (Below w.heap.size w wc))
       case first =>
        have H:=HC11.out
        clear HC11
        by_cases c13:((jd l0 (rd t257 x10_1)).f1)=5
        ·rw [if_pos c13] at H
         have c13b0:(((jd l0 (rd t257 x10_1)).f1) == 5)=true:=beq_iff_eq.mpr c13
         have c13b1:(((jd l0 (rd t257 x10_1)).f1) != 5)=false:=bne_eq_false_iff_eq.mpr c13
         clear c13
         (first | rw [c13b0] |(simp only [jlb,jmb];rw [c13b0]) | skip)
         have H':=am H
         clear H
         go_wp2
         go_meet
         case rel=>exact ⟨_,((((jd l0 (rd t257 x10_1)).f1) == 5)),(sq),H',⟨by have:=HK1.out;first | omega | exact Nat.le_refl _⟩,⟨rq HO_9.out⟩,⟨bq⟩⟩
        ·rw [if_neg c13] at H
         have c13b0:(((jd l0 (rd t257 x10_1)).f1) == 5)=false:=beq_eq_false_iff_ne.mpr c13
         have c13b1:(((jd l0 (rd t257 x10_1)).f1) != 5)=true:=bne_iff_ne.mpr c13
         (first | rw [c13b0] |(simp only [jlb,jmb];rw [c13b0]) | skip)
         have H':=am H
         clear H
         go_wp2
         go_meet
         case rel=>exact ⟨_,((((jd l0 (rd t257 x10_1)).f1) == 6)),(sq),H',⟨by have:=HK1.out;first | omega | exact Nat.le_refl _⟩,⟨rq HO_9.out⟩,⟨bq⟩⟩
       case rest =>
        clear HC11
        try clear c1
        try clear p2
        try clear q2
        try clear hx2
        try clear c4
        try clear c7
        try clear c7b0
        try clear c8
        try clear c8b0
        try clear c9
        try clear c9b0
        try clear c10
        try clear c10b0
        try clear c13
        try clear c13b0
        try clear c13b1
        try clear hx260_0
        try clear hx261_0
        try clear hx261_1
        try clear hx261_2
        try clear hx261_3
        try clear p2
        try clear p260
        try clear p261
        try clear q260
        try clear q261
        obtain ⟨kq,x36_10,rfl,HA,HJ10,HO_9,HB⟩:=hcut
        cases kq with
        | zero=>exact absurd HA.out (by simp [jk.j1])
        | succ kj10 =>
         have H:=HA.out
         clear HA
         simp only [jk.j1] at H
         by_cases c14:x36_10=true
         ·subst c14
          have H1:(if a3=true then (jk.l0 kj10 l0 a3 t257 (wrap64 (x10_1+1))) else (some false))=some r:=by rw [if_pos rfl] at H;exact H
          clear H
          have H:=H1
          clear H1
          by_cases c15:a3=true
          ·subst c15
           have H1:(jk.l0 kj10 l0 true t257 (wrap64 (x10_1+1)))=some r:=by rw [if_pos rfl] at H;exact H
           clear H
           have H:=H1
           clear H1
           have H':=am H
           clear H
           go_wp2
           go_roundg kj10
           case measure=>have:=HK1.out;have:=HJ10.out;omega
           case rel=>exact ⟨(wrap64 (x10_1+1)),(sq),H',⟨by have:=HK1.out;have:=HJ10.out;omega⟩,⟨rq HO_9.out⟩,⟨bq⟩⟩
          ·replace c15:=Bool.eq_false_iff.mpr c15
           subst c15
           have H1:(some false)=some r:=by rw [if_neg (show ¬ (false=true) by decide)] at H;exact H
           clear H
           have H:=H1
           clear H1
           obtain rfl:=Option.some.inj H
           go_wp2
           go_ret
           exact ⟨Y0,bq⟩
         ·replace c14:=Bool.eq_false_iff.mpr c14
          subst c14
          have H1:(if ((jd l0 (rd t257 x10_1)).f1)=8 then (jk.j2 kj10 l0 a3 t257 x10_1 (rd t257 x10_1) ((jd l0 (rd t257 x10_1)).f1) ((jd l0 (rd t257 x10_1)).f1) (((jd l0 (rd t257 x10_1)).f1) == 8)) else (if ((jd l0 (rd t257 x10_1)).f1)=9 then (jk.j2 kj10 l0 a3 t257 x10_1 (rd t257 x10_1) ((jd l0 (rd t257 x10_1)).f1) ((jd l0 (rd t257 x10_1)).f1) (((jd l0 (rd t257 x10_1)).f1) == 9)) else (jk.j2 kj10 l0 a3 t257 x10_1 (rd t257 x10_1) ((jd l0 (rd t257 x10_1)).f1) ((jd l0 (rd t257 x10_1)).f1) (((jd l0 (rd t257 x10_1)).f1) == 10))))=some r:=by rw [if_neg (show ¬ (false=true) by decide)] at H;exact H
          clear H
          have H:=H1
          clear H1
          have HC16:=am H
          clear H
          go_upto_if 41 with (fail)
          go_cut [41] (fun v41 wc=>∃ (kq:Nat) (x41_15:Bool),v41=.bool x41_15∧jl (jk.j2 kq l0 a3 t257 x10_1 (rd t257 x10_1) ((jd l0 (rd t257 x10_1)).f1) ((jd l0 (rd t257 x10_1)).f1) x41_15=some r)∧jl (kq≤kj10)∧jl (Kd.R (Kd.int .i64) 3 wc w.heap.size (fun _=>True) (.slice (some ad260) t257.length co12) t257)∧jl (Below w.heap.size w wc))
          case first =>
           have H:=HC16.out
           clear HC16
           by_cases c17:((jd l0 (rd t257 x10_1)).f1)=8
           ·rw [if_pos c17] at H
            have c17b0:(((jd l0 (rd t257 x10_1)).f1) == 8)=true:=beq_iff_eq.mpr c17
            have c17b1:(((jd l0 (rd t257 x10_1)).f1) != 8)=false:=bne_eq_false_iff_eq.mpr c17
            clear c17
            (first | rw [c17b0] |(simp only [jlb,jmb];rw [c17b0]) | skip)
            have H':=am H
            clear H
            go_wp2
            go_meet
            case rel=>exact ⟨_,((((jd l0 (rd t257 x10_1)).f1) == 8)),(sq),H',⟨by have:=HK1.out;have:=HJ10.out;first | omega | exact Nat.le_refl _⟩,⟨rq HO_9.out⟩,⟨bq⟩⟩
           ·rw [if_neg c17] at H
            have c17b0:(((jd l0 (rd t257 x10_1)).f1) == 8)=false:=beq_eq_false_iff_ne.mpr c17
            have c17b1:(((jd l0 (rd t257 x10_1)).f1) != 8)=true:=bne_iff_ne.mpr c17
            (first | rw [c17b0] |(simp only [jlb,jmb];rw [c17b0]) | skip)
            by_cases c18:((jd l0 (rd t257 x10_1)).f1)=9
            ·rw [if_pos c18] at H
             have c18b0:(((jd l0 (rd t257 x10_1)).f1) == 9)=true:=beq_iff_eq.mpr c18
             have c18b1:(((jd l0 (rd t257 x10_1)).f1) != 9)=false:=bne_eq_false_iff_eq.mpr c18
             clear c18
             have H':=am H
             clear H
             go_wp2
             go_meet
             case rel=>exact ⟨_,((((jd l0 (rd t257 x10_1)).f1) == 9)),(sq),H',⟨by have:=HK1.out;have:=HJ10.out;first | omega | exact Nat.le_refl _⟩,⟨rq HO_9.out⟩,⟨bq⟩⟩
            ·rw [if_neg c18] at H
             have c18b0:(((jd l0 (rd t257 x10_1)).f1) == 9)=false:=beq_eq_false_iff_ne.mpr c18
             have c18b1:(((jd l0 (rd t257 x10_1)).f1) != 9)=true:=bne_iff_ne.mpr c18
             have H':=am H
             clear H
             go_wp2
             go_meet
             case rel=>exact ⟨_,((((jd l0 (rd t257 x10_1)).f1) == 10)),(sq),H',⟨by have:=HK1.out;have:=HJ10.out;first | omega | exact Nat.le_refl _⟩,⟨rq HO_9.out⟩,⟨bq⟩⟩
          case rest =>
           clear HC16
           try clear c1
           try clear p2
           try clear q2
           try clear hx2
           try clear c4
           try clear p6
           try clear c7
           try clear c7b0
           try clear c8
           try clear c8b0
           try clear c9
           try clear c9b0
           try clear c10
           try clear c10b0
           try clear c13
           try clear c13b0
           try clear c13b1
           try clear c14
           try clear c15
           try clear c17
           try clear c17b0
           try clear c17b1
           try clear c18
           try clear c18b0
           try clear c18b1
           try clear hx260_0
           try clear hx261_0
           try clear hx261_1
           try clear hx261_2
           try clear hx261_3
           try clear p2
           try clear p260
           try clear p261
           try clear q2
           try clear q260
           try clear q261
           obtain ⟨kq,x41_15,rfl,HA,HJ15,HO_9,HB⟩:=hcut
           cases kq with
           | zero=>exact absurd HA.out (by simp [jk.j2])
           | succ kj15 =>
            have H:=HA.out
            clear HA
            simp only [jk.j2] at H
            by_cases c19:x41_15=true
            ·subst c19
             have H1:(some false)=some r:=by rw [if_pos rfl] at H;exact H
             clear H
             have H:=H1
             clear H1
             obtain rfl:=Option.some.inj H
             go_wp2
             go_ret
             exact ⟨Y0,bq⟩
            ·replace c19:=Bool.eq_false_iff.mpr c19
             subst c19
             have H1:(if ((jd l0 (rd t257 x10_1)).f1)=7 then ((jca.f kj15 l0 (rd t257 x10_1)).bind fun t262=>((jOa.f l0 t262).bind fun t265=>(if t265=true then (jk.l1 kj15 l0 a3 t257 x10_1 t262 t262 (t262.length:Int) 0) else (some false)))) else (if ((jd l0 (rd t257 x10_1)).f1)=11 then (jk.j4 kj15 l0 a3 t257 x10_1 (rd t257 x10_1) ((jd l0 (rd t257 x10_1)).f1) (((jd l0 (rd t257 x10_1)).f1) == 11)) else (jk.j4 kj15 l0 a3 t257 x10_1 (rd t257 x10_1) ((jd l0 (rd t257 x10_1)).f1) (((jd l0 (rd t257 x10_1)).f1) == 12))))=some r:=by rw [if_neg (show ¬ (false=true) by decide)] at H;exact H
             clear H
             have H:=H1
             clear H1
             by_cases c20:((jd l0 (rd t257 x10_1)).f1)=7
             ·rw [if_pos c20] at H
              have c20b0:(((jd l0 (rd t257 x10_1)).f1) == 7)=true:=beq_iff_eq.mpr c20
              have c20b1:(((jd l0 (rd t257 x10_1)).f1) != 7)=false:=bne_eq_false_iff_eq.mpr c20
              clear c20
              replace H:=bzS H
              obtain ⟨t262,A210,H⟩:=H
              replace H:((jOa.f l0 t262).bind fun t265=>(if t265=true then (jk.l1 kj15 l0 a3 t257 x10_1 t262 t262 (t262.length:Int) 0) else (some false)))=some r:=H
              have A21:=am A210
              clear A210
              replace H:=bzS H
              obtain ⟨t265,A220,H⟩:=H
              replace H:(if t265=true then (jk.l1 kj15 l0 a3 t257 x10_1 t262 t262 (t262.length:Int) 0) else (some false))=some r:=H
              have A22:=am A220
              clear A220
              by_cases c23:t265=true
              ·subst c23
               have H1:(jk.l1 kj15 l0 a3 t257 x10_1 t262 t262 (t262.length:Int) 0)=some r:=by rw [if_pos rfl] at H;exact H
               clear H
               have H:=H1
               clear H1
               have H':=am H
               clear H
               go_wp2_with (first |((with_reducible refine je (f:=35) rfl ?_);refine gL (some 49) Try.func35 #[.slice (some ad261) l0.length c0, .int .i64 (rd t257 x10_1)] ?_;(with_reducible refine (jca.calls kj15 _ _ l0 (rd t257 x10_1) t262 _ ?side1 ?side2 A21.out).mono ?_);(case side1=>exact cq (Kd.jV HR0.out HB.out));(case side2=>exact HC0.out);rintro e w24 ⟨v263,rfl,ho0,hb⟩;refine ⟨_,rfl,?_⟩;have HO264:=am (Kd.jea (Kd.jac ho0 (Kd.R_lt (rq HO_9.out))) (jta (bq)));replace HO_9:=am (Kd.jEc (rq HO_9.out) (Kd.jbc ho0) hb);replace HB:=am (jg (bq) hb);(try clear hb);(try clear hb2);(try clear hk);(try clear hi);(try clear ho0);obtain ⟨Ao25,co25,eo25⟩:=Kd.jsa HO264.out;subst eo25) |((with_reducible refine je (f:=77) rfl ?_);refine gL (some 52) Try.func77 #[.slice (some ad261) l0.length c0, .slice Ao25 t262.length co25] ?_;(with_reducible refine (jOa.calls _ _ l0 _ _ t262 true _ ?side1 ?side2 ?side3 ?side4 A22.out).mono ?_);(case side1=>exact cq (Kd.jV HR0.out HB.out));(case side2=>exact HC0.out);(case side3=>exact cq (Kd.jE HO264.out).2.2);(case side4=>exact (Kd.jE HO264.out).2.1);rintro e w' ⟨rfl,⟨nd,rfl⟩⟩;refine ⟨_,rfl,?_⟩))
               go_loopg [56] kj15 (fun kq v56 w'=>∃ (x56_4:Int),v56=.int .i64 x56_4∧jl (jk.l1 kq l0 a3 t257 x10_1 t262 t262 (t262.length:Int) x56_4=some r)∧jl (kq≤kj15)∧jl (Kd.R (Kd.int .i64) 3 w' w.heap.size (fun k_=>some k_≠((.slice Ao25 t262.length co25):Value).ownBlock∧some k_≠((.slice Ao25 t262.length co25):Value).ownBlock) (.slice (some ad260) t257.length co12) t257)∧jl (Kd.R (Kd.int .i64) 3 w' w.heap.size (fun k_=>some k_≠((.slice (some ad260) t257.length co12):Value).ownBlock) (.slice Ao25 t262.length co25) t262)∧jl (Kd.R (Kd.int .i64) 3 w' w.heap.size (fun k_=>some k_≠((.slice (some ad260) t257.length co12):Value).ownBlock) (.slice Ao25 t262.length co25) t262)∧jl (Below w.heap.size w w'))
               case atStart=>exact ⟨(0),(sq),H',⟨Nat.le_refl _⟩,⟨by (with_reducible repeat (first | apply Kd.jga | apply Kd.jha | apply Kd.jra));exact Kd.jK HO_9.out (fun _ hk=>⟨hk.2,hk.2⟩)⟩,⟨by (with_reducible repeat (first | apply Kd.jga | apply Kd.jha | apply Kd.jra));exact Kd.jK HO264.out (fun _ hk=>hk.2)⟩,⟨by (with_reducible repeat (first | apply Kd.jga | apply Kd.jha | apply Kd.jra));exact Kd.jK HO264.out (fun _ hk=>hk.2)⟩,⟨bq⟩⟩
               case round =>
                clear H'
                try clear c1
                try clear c2
                try clear p2
                try clear q2
                try clear hx2
                try clear c3
                try clear c4
                try clear p6
                try clear c7
                try clear c7b0
                try clear c8
                try clear c8b0
                try clear c9
                try clear c9b0
                try clear c10
                try clear c10b0
                try clear c13
                try clear c13b0
                try clear c13b1
                try clear c14
                try clear c15
                try clear c17
                try clear c17b0
                try clear c17b1
                try clear c18
                try clear c18b0
                try clear c18b1
                try clear c19
                try clear c20
                try clear c20b0
                try clear c20b1
                try clear c23
                try clear hx260_0
                try clear hx261_0
                try clear hx261_1
                try clear hx261_2
                try clear hx261_3
                try clear p2
                try clear p260
                try clear p261
                try clear p6
                try clear q2
                try clear q260
                try clear q261
                obtain ⟨x56_4,rfl,HA,HK4,HO_9,HO_13,HO_54,HB⟩:=hrel
                cases gk with
                | zero=>exact absurd HA.out (by simp [jk.l1])
                | succ k4 =>
                 have H:=HA.out
                 clear HA
                 simp only [jk.l1] at H
                 by_cases c26:x56_4<(t262.length:Int)
                 ·rw [if_pos c26] at H
                  have c26b0:decide (x56_4<(t262.length:Int))=true:=dzT c26
                  clear c26
                  by_cases c27:0≤x56_4
                  ·rw [if_pos c27] at H
                   have c27b0:decide (0≤x56_4)=true:=dzT c27
                   clear c27
                   by_cases c28:x56_4<(t262.length:Int)
                   ·rw [if_pos c28] at H
                    have c28b0:decide (x56_4<(t262.length:Int))=true:=dzT c28
                    clear c28
                    replace H:=bzS H
                    obtain ⟨t267,A290,H⟩:=H
                    replace H:((jk.f k4 l0 (wrap64 ((rd t262 x56_4)+1)) t267 a3).bind fun t268=>(if t268=true then (jk.l1 k4 l0 a3 t257 x10_1 t262 t262 (t262.length:Int) (wrap64 (x56_4+1))) else (some false)))=some r:=H
                    have A29:=am A290
                    clear A290
                    replace H:=bzS H
                    obtain ⟨t268,A300,H⟩:=H
                    replace H:(if t268=true then (jk.l1 k4 l0 a3 t257 x10_1 t262 t262 (t262.length:Int) (wrap64 (x56_4+1))) else (some false))=some r:=H
                    have A30:=am A300
                    clear A300
                    by_cases c31:t268=true
                    ·subst c31
                     have H1:(jk.l1 k4 l0 a3 t257 x10_1 t262 t262 (t262.length:Int) (wrap64 (x56_4+1)))=some r:=by rw [if_pos rfl] at H;exact H
                     clear H
                     have H:=H1
                     clear H1
                     have H':=am H
                     clear H
                     have p266:0≤(x56_4:Int):=ozD (uq)
                     have q266:x56_4<(t262.length:Int):=ozD (uq)
                     obtain ⟨ad266,e266,hx266_0⟩:=Kd.jsb (Kd.jE HO_54.out).2.2 x56_4 p266 q266
                     cases e266
                     replace p266:=ezT p266
                     replace q266:=ezT q266
                     go_wp2_with (first |((with_reducible refine je (f:=34) rfl ?_);refine gL (some 65) Try.func34 #[.slice (some ad261) l0.length c0, .int .i64 (rd t262 x56_4)] ?_;(with_reducible refine (joa.calls k4 _ _ l0 (rd t262 x56_4) t267 _ ?side1 ?side2 A29.out).mono ?_);(case side1=>exact cq (Kd.jV HR0.out HB.out));(case side2=>exact HC0.out);rintro e w' ⟨rfl,⟨nd,rfl⟩⟩;refine ⟨_,rfl,?_⟩) |((with_reducible refine je (f:=47) rfl ?_);refine gL (some 67) Try.func47 #[.slice (some ad261) l0.length c0, .int .i64 (wrap64 ((rd t262 x56_4)+1)), .int .i64 t267, .bool a3] ?_;(with_reducible refine (ih k4 (by have:=HK1.out;have:=HJ10.out;have:=HJ15.out;have:=HK4.out;omega) _ _ l0 (wrap64 ((rd t262 x56_4)+1)) t267 a3 true _ ?side1 ?side2 A30.out).mono ?_);(case side1=>exact cq (Kd.jV HR0.out (bq)));(case side2=>exact HC0.out);rintro e w32 ⟨rfl,hb⟩;refine ⟨_,rfl,?_⟩;replace HO_9:=am (Kd.jva (rq HO_9.out) hb);replace HO_13:=am (Kd.jva (rq HO_13.out) hb);replace HO_54:=am (Kd.jva (rq HO_54.out) hb);replace HB:=am (jg (bq) hb);(try clear hb);(try clear hb2);(try clear hk);(try clear hi)))
                     go_roundg k4
                     case measure=>have:=HK1.out;have:=HJ10.out;have:=HJ15.out;have:=HK4.out;omega
                     case rel=>exact ⟨(wrap64 (x56_4+1)),(sq),H',⟨by have:=HK1.out;have:=HJ10.out;have:=HJ15.out;have:=HK4.out;omega⟩,⟨rq HO_9.out⟩,⟨rq HO_13.out⟩,⟨rq HO_54.out⟩,⟨bq⟩⟩
                    ·replace c31:=Bool.eq_false_iff.mpr c31
                     subst c31
                     have H1:(some false)=some r:=by rw [if_neg (show ¬ (false=true) by decide)] at H;exact H
                     clear H
                     have H:=H1
                     clear H1
                     obtain rfl:=Option.some.inj H
                     have p266:0≤(x56_4:Int):=ozD (uq)
                     have q266:x56_4<(t262.length:Int):=ozD (uq)
                     obtain ⟨ad266,e266,hx266_0⟩:=Kd.jsb (Kd.jE HO_54.out).2.2 x56_4 p266 q266
                     cases e266
                     replace p266:=ezT p266
                     replace q266:=ezT q266
                     go_wp2_with (first |((with_reducible refine je (f:=34) rfl ?_);refine gL (some 65) Try.func34 #[.slice (some ad261) l0.length c0, .int .i64 (rd t262 x56_4)] ?_;(with_reducible refine (joa.calls k4 _ _ l0 (rd t262 x56_4) t267 _ ?side1 ?side2 A29.out).mono ?_);(case side1=>exact cq (Kd.jV HR0.out HB.out));(case side2=>exact HC0.out);rintro e w' ⟨rfl,⟨nd,rfl⟩⟩;refine ⟨_,rfl,?_⟩) |((with_reducible refine je (f:=47) rfl ?_);refine gL (some 67) Try.func47 #[.slice (some ad261) l0.length c0, .int .i64 (wrap64 ((rd t262 x56_4)+1)), .int .i64 t267, .bool a3] ?_;(with_reducible refine (ih k4 (by have:=HK1.out;have:=HJ10.out;have:=HJ15.out;have:=HK4.out;omega) _ _ l0 (wrap64 ((rd t262 x56_4)+1)) t267 a3 false _ ?side1 ?side2 A30.out).mono ?_);(case side1=>exact cq (Kd.jV HR0.out (bq)));(case side2=>exact HC0.out);rintro e w33 ⟨rfl,hb⟩;refine ⟨_,rfl,?_⟩;replace HO_9:=am (Kd.jva (rq HO_9.out) hb);replace HO_13:=am (Kd.jva (rq HO_13.out) hb);replace HO_54:=am (Kd.jva (rq HO_54.out) hb);replace HB:=am (jg (bq) hb);(try clear hb);(try clear hb2);(try clear hk);(try clear hi)))
                     go_ret
                     exact ⟨Y0,bq⟩
                   ·rw [if_neg c28] at H
                    exact absurd H (by simp)
                  ·rw [if_neg c27] at H
                   exact absurd H (by simp)
                 ·rw [if_neg c26] at H
                  have c26b0:decide (x56_4<(t262.length:Int))=false:=dzF c26
                  clear c26
                  have H':=am H
                  clear H
                  go_wp2
                  go_roundg k4
                  case measure=>have:=HK1.out;have:=HJ10.out;have:=HJ15.out;have:=HK4.out;omega
                  case rel=>exact ⟨(wrap64 ((wrap64 (x10_1+(wrap64 ((t262.length:Int) - 1))))+1)),(sq),H',⟨by have:=HK1.out;have:=HJ10.out;have:=HJ15.out;have:=HK4.out;omega⟩,⟨by (with_reducible repeat (first | apply Kd.jga | apply Kd.jha | apply Kd.jra));exact Kd.jK HO_9.out (fun _ hk=>trivial)⟩,⟨bq⟩⟩
              ·replace c23:=Bool.eq_false_iff.mpr c23
               subst c23
               have H1:(some false)=some r:=by rw [if_neg (show ¬ (false=true) by decide)] at H;exact H
               clear H
               have H:=H1
               clear H1
               obtain rfl:=Option.some.inj H
               go_wp2_with (first |((with_reducible refine je (f:=35) rfl ?_);refine gL (some 49) Try.func35 #[.slice (some ad261) l0.length c0, .int .i64 (rd t257 x10_1)] ?_;(with_reducible refine (jca.calls kj15 _ _ l0 (rd t257 x10_1) t262 _ ?side1 ?side2 A21.out).mono ?_);(case side1=>exact cq (Kd.jV HR0.out HB.out));(case side2=>exact HC0.out);rintro e w34 ⟨v263,rfl,ho0,hb⟩;refine ⟨_,rfl,?_⟩;have HO264:=am (Kd.jea (Kd.jac ho0 (Kd.R_lt (rq HO_9.out))) (jta (bq)));replace HO_9:=am (Kd.jEc (rq HO_9.out) (Kd.jbc ho0) hb);replace HB:=am (jg (bq) hb);(try clear hb);(try clear hb2);(try clear hk);(try clear hi);(try clear ho0);obtain ⟨Ao35,co35,eo35⟩:=Kd.jsa HO264.out;subst eo35) |((with_reducible refine je (f:=77) rfl ?_);refine gL (some 52) Try.func77 #[.slice (some ad261) l0.length c0, .slice Ao35 t262.length co35] ?_;(with_reducible refine (jOa.calls _ _ l0 _ _ t262 false _ ?side1 ?side2 ?side3 ?side4 A22.out).mono ?_);(case side1=>exact cq (Kd.jV HR0.out HB.out));(case side2=>exact HC0.out);(case side3=>exact cq (Kd.jE HO264.out).2.2);(case side4=>exact (Kd.jE HO264.out).2.1);rintro e w' ⟨rfl,⟨nd,rfl⟩⟩;refine ⟨_,rfl,?_⟩))
               go_ret
               exact ⟨Y0,bq⟩
             ·rw [if_neg c20] at H
              have c20b0:(((jd l0 (rd t257 x10_1)).f1) == 7)=false:=beq_eq_false_iff_ne.mpr c20
              have c20b1:(((jd l0 (rd t257 x10_1)).f1) != 7)=true:=bne_iff_ne.mpr c20
              have HC36:=am H
              clear H
              go_upto_if 75 with (fail)
              go_cut [75] (fun v75 wc=>∃ (kq:Nat) (x75_35:Bool),v75=.bool x75_35∧jl (jk.j4 kq l0 a3 t257 x10_1 (rd t257 x10_1) ((jd l0 (rd t257 x10_1)).f1) x75_35=some r)∧jl (kq≤kj15)∧jl (Kd.R (Kd.int .i64) 3 wc w.heap.size (fun _=>True) (.slice (some ad260) t257.length co12) t257)∧jl (Below w.heap.size w wc))
              case first =>
               have H:=HC36.out
               clear HC36
               by_cases c37:((jd l0 (rd t257 x10_1)).f1)=11
               ·rw [if_pos c37] at H
                have c37b0:(((jd l0 (rd t257 x10_1)).f1) == 11)=true:=beq_iff_eq.mpr c37
                have c37b1:(((jd l0 (rd t257 x10_1)).f1) != 11)=false:=bne_eq_false_iff_eq.mpr c37
                clear c37
                (first | rw [c37b0] |(simp only [jlb,jmb];rw [c37b0]) | skip)
                have H':=am H
                clear H
                go_wp2
                go_meet
                case rel=>exact ⟨_,((((jd l0 (rd t257 x10_1)).f1) == 11)),(sq),H',⟨by have:=HK1.out;have:=HJ10.out;have:=HJ15.out;first | omega | exact Nat.le_refl _⟩,⟨rq HO_9.out⟩,⟨bq⟩⟩
               ·rw [if_neg c37] at H
                have c37b0:(((jd l0 (rd t257 x10_1)).f1) == 11)=false:=beq_eq_false_iff_ne.mpr c37
                have c37b1:(((jd l0 (rd t257 x10_1)).f1) != 11)=true:=bne_iff_ne.mpr c37
                (first | rw [c37b0] |(simp only [jlb,jmb];rw [c37b0]) | skip)
                have H':=am H
                clear H
                go_wp2
                go_meet
                case rel=>exact ⟨_,((((jd l0 (rd t257 x10_1)).f1) == 12)),(sq),H',⟨by have:=HK1.out;have:=HJ10.out;have:=HJ15.out;first | omega | exact Nat.le_refl _⟩,⟨rq HO_9.out⟩,⟨bq⟩⟩
              case rest =>
               clear HC36
               try clear c1
               try clear c2
               try clear p2
               try clear q2
               try clear hx2
               try clear c3
               try clear c4
               try clear p6
               try clear c7
               try clear c7b0
               try clear c8
               try clear c8b0
               try clear c9
               try clear c9b0
               try clear c10
               try clear c10b0
               try clear c13
               try clear c13b0
               try clear c13b1
               try clear c14
               try clear c15
               try clear c17
               try clear c17b0
               try clear c17b1
               try clear c18
               try clear c18b0
               try clear c18b1
               try clear c19
               try clear c20
               try clear c20b0
               try clear c20b1
               try clear c23
               try clear c26
               try clear c26b0
               try clear p26
               try clear q26
               try clear hx26
               try clear c27
               try clear c27b0
               try clear c28
               try clear c28b0
               try clear c31
               try clear c34
               try clear c35
               try clear c37
               try clear c37b0
               try clear c37b1
               try clear hx260_0
               try clear hx261_0
               try clear hx261_1
               try clear hx261_2
               try clear hx261_3
               try clear hx266_0
               try clear p2
               try clear p260
               try clear p261
               try clear p266
               try clear p6
               try clear q2
               try clear q260
               try clear q261
               try clear q266
               obtain ⟨kq,x75_35,rfl,HA,HJ35,HO_9,HB⟩:=hcut
               cases kq with
               | zero=>exact absurd HA.out (by simp [jk.j4])
               | succ kj35 =>
                have H:=HA.out
                clear HA
                simp only [jk.j4] at H
                by_cases c38:x75_35=true
                ·subst c38
                 have H1:((joa.f kj35 l0 (rd t257 x10_1)).bind fun t269=>(if a3=true then ((jk.f kj35 l0 (wrap64 ((rd t257 x10_1)+1)) t269 true).bind fun t270=>(if t270=true then (jk.l0 kj35 l0 a3 t257 (wrap64 (x10_1+1))) else (some false))) else ((jk.f kj35 l0 (wrap64 ((rd t257 x10_1)+1)) t269 (((jd l0 (rd t257 x10_1)).f1) == 12)).bind fun t271=>(if t271=true then (jk.l0 kj35 l0 a3 t257 (wrap64 (x10_1+1))) else (some false)))))=some r:=by rw [if_pos rfl] at H;exact H
                 clear H
                 have H:=H1
                 clear H1
                 replace H:=bzS H
                 obtain ⟨t269,A390,H⟩:=H
                 replace H:(if a3=true then ((jk.f kj35 l0 (wrap64 ((rd t257 x10_1)+1)) t269 true).bind fun t270=>(if t270=true then (jk.l0 kj35 l0 a3 t257 (wrap64 (x10_1+1))) else (some false))) else ((jk.f kj35 l0 (wrap64 ((rd t257 x10_1)+1)) t269 (((jd l0 (rd t257 x10_1)).f1) == 12)).bind fun t271=>(if t271=true then (jk.l0 kj35 l0 a3 t257 (wrap64 (x10_1+1))) else (some false))))=some r:=H
                 have A39:=am A390
                 clear A390
                 by_cases c40:a3=true
                 ·subst c40
                  have H1:((jk.f kj35 l0 (wrap64 ((rd t257 x10_1)+1)) t269 true).bind fun t270=>(if t270=true then (jk.l0 kj35 l0 true t257 (wrap64 (x10_1+1))) else (some false)))=some r:=by rw [if_pos rfl] at H;exact H
                  clear H
                  have H:=H1
                  clear H1
                  replace H:=bzS H
                  obtain ⟨t270,A410,H⟩:=H
                  replace H:(if t270=true then (jk.l0 kj35 l0 true t257 (wrap64 (x10_1+1))) else (some false))=some r:=H
                  have A41:=am A410
                  clear A410
                  by_cases c42:t270=true
                  ·subst c42
                   have H1:(jk.l0 kj35 l0 true t257 (wrap64 (x10_1+1)))=some r:=by rw [if_pos rfl] at H;exact H
                   clear H
                   have H:=H1
                   clear H1
                   have H':=am H
                   clear H
                   go_wp2_with (first |((with_reducible refine je (f:=34) rfl ?_);refine gL (some 83) Try.func34 #[.slice (some ad261) l0.length c0, .int .i64 (rd t257 x10_1)] ?_;(with_reducible refine (joa.calls kj35 _ _ l0 (rd t257 x10_1) t269 _ ?side1 ?side2 A39.out).mono ?_);(case side1=>exact cq (Kd.jV HR0.out HB.out));(case side2=>exact HC0.out);rintro e w' ⟨rfl,⟨nd,rfl⟩⟩;refine ⟨_,rfl,?_⟩) |((with_reducible refine je (f:=47) rfl ?_);refine gL (some 89) Try.func47 #[.slice (some ad261) l0.length c0, .int .i64 (wrap64 ((rd t257 x10_1)+1)), .int .i64 t269, .bool true] ?_;(with_reducible refine (ih kj35 (by have:=HK1.out;have:=HJ10.out;have:=HJ15.out;have:=HJ35.out;omega) _ _ l0 (wrap64 ((rd t257 x10_1)+1)) t269 true true _ ?side1 ?side2 A41.out).mono ?_);(case side1=>exact cq (Kd.jV HR0.out (bq)));(case side2=>exact HC0.out);rintro e w43 ⟨rfl,hb⟩;refine ⟨_,rfl,?_⟩;replace HO_9:=am (Kd.jva (rq HO_9.out) hb);replace HB:=am (jg (bq) hb);(try clear hb);(try clear hb2);(try clear hk);(try clear hi)))
                   go_roundg kj35
                   case measure=>have:=HK1.out;have:=HJ10.out;have:=HJ15.out;have:=HJ35.out;omega
                   case rel=>exact ⟨(wrap64 (x10_1+1)),(sq),H',⟨by have:=HK1.out;have:=HJ10.out;have:=HJ15.out;have:=HJ35.out;omega⟩,⟨rq HO_9.out⟩,⟨bq⟩⟩
                  ·replace c42:=Bool.eq_false_iff.mpr c42
                   subst c42
                   have H1:(some false)=some r:=by rw [if_neg (show ¬ (false=true) by decide)] at H;exact H
                   clear H
                   have H:=H1
                   clear H1
                   obtain rfl:=Option.some.inj H
                   go_wp2_with (first |((with_reducible refine je (f:=34) rfl ?_);refine gL (some 83) Try.func34 #[.slice (some ad261) l0.length c0, .int .i64 (rd t257 x10_1)] ?_;(with_reducible refine (joa.calls kj35 _ _ l0 (rd t257 x10_1) t269 _ ?side1 ?side2 A39.out).mono ?_);(case side1=>exact cq (Kd.jV HR0.out HB.out));(case side2=>exact HC0.out);rintro e w' ⟨rfl,⟨nd,rfl⟩⟩;refine ⟨_,rfl,?_⟩) |((with_reducible refine je (f:=47) rfl ?_);refine gL (some 89) Try.func47 #[.slice (some ad261) l0.length c0, .int .i64 (wrap64 ((rd t257 x10_1)+1)), .int .i64 t269, .bool true] ?_;(with_reducible refine (ih kj35 (by have:=HK1.out;have:=HJ10.out;have:=HJ15.out;have:=HJ35.out;omega) _ _ l0 (wrap64 ((rd t257 x10_1)+1)) t269 true false _ ?side1 ?side2 A41.out).mono ?_);(case side1=>exact cq (Kd.jV HR0.out (bq)));(case side2=>exact HC0.out);rintro e w44 ⟨rfl,hb⟩;refine ⟨_,rfl,?_⟩;replace HO_9:=am (Kd.jva (rq HO_9.out) hb);replace HB:=am (jg (bq) hb);(try clear hb);(try clear hb2);(try clear hk);(try clear hi)))
                   go_ret
                   exact ⟨Y0,bq⟩
                 ·replace c40:=Bool.eq_false_iff.mpr c40
                  subst c40
                  have H1:((jk.f kj35 l0 (wrap64 ((rd t257 x10_1)+1)) t269 (((jd l0 (rd t257 x10_1)).f1) == 12)).bind fun t271=>(if t271=true then (jk.l0 kj35 l0 false t257 (wrap64 (x10_1+1))) else (some false)))=some r:=by rw [if_neg (show ¬ (false=true) by decide)] at H;exact H
                  clear H
                  have H:=H1
                  clear H1
                  replace H:=bzS H
                  obtain ⟨t271,A450,H⟩:=H
                  replace H:(if t271=true then (jk.l0 kj35 l0 false t257 (wrap64 (x10_1+1))) else (some false))=some r:=H
                  have A45:=am A450
                  clear A450
                  by_cases c46:t271=true
                  ·subst c46
                   have H1:(jk.l0 kj35 l0 false t257 (wrap64 (x10_1+1)))=some r:=by rw [if_pos rfl] at H;exact H
                   clear H
                   have H:=H1
                   clear H1
                   have H':=am H
                   clear H
                   go_wp2_with (first |((with_reducible refine je (f:=34) rfl ?_);refine gL (some 83) Try.func34 #[.slice (some ad261) l0.length c0, .int .i64 (rd t257 x10_1)] ?_;(with_reducible refine (joa.calls kj35 _ _ l0 (rd t257 x10_1) t269 _ ?side1 ?side2 A39.out).mono ?_);(case side1=>exact cq (Kd.jV HR0.out HB.out));(case side2=>exact HC0.out);rintro e w' ⟨rfl,⟨nd,rfl⟩⟩;refine ⟨_,rfl,?_⟩) |((with_reducible refine je (f:=47) rfl ?_);refine gL (some 89) Try.func47 #[.slice (some ad261) l0.length c0, .int .i64 (wrap64 ((rd t257 x10_1)+1)), .int .i64 t269, .bool (((jd l0 (rd t257 x10_1)).f1) == 12)] ?_;(with_reducible refine (ih kj35 (by have:=HK1.out;have:=HJ10.out;have:=HJ15.out;have:=HJ35.out;omega) _ _ l0 (wrap64 ((rd t257 x10_1)+1)) t269 (((jd l0 (rd t257 x10_1)).f1) == 12) true _ ?side1 ?side2 A45.out).mono ?_);(case side1=>exact cq (Kd.jV HR0.out (bq)));(case side2=>exact HC0.out);rintro e w47 ⟨rfl,hb⟩;refine ⟨_,rfl,?_⟩;replace HO_9:=am (Kd.jva (rq HO_9.out) hb);replace HB:=am (jg (bq) hb);(try clear hb);(try clear hb2);(try clear hk);(try clear hi)))
                   go_roundg kj35
                   case measure=>have:=HK1.out;have:=HJ10.out;have:=HJ15.out;have:=HJ35.out;omega
                   case rel=>exact ⟨(wrap64 (x10_1+1)),(sq),H',⟨by have:=HK1.out;have:=HJ10.out;have:=HJ15.out;have:=HJ35.out;omega⟩,⟨rq HO_9.out⟩,⟨bq⟩⟩
                  ·replace c46:=Bool.eq_false_iff.mpr c46
                   subst c46
                   have H1:(some false)=some r:=by rw [if_neg (show ¬ (false=true) by decide)] at H;exact H
                   clear H
                   have H:=H1
                   clear H1
                   obtain rfl:=Option.some.inj H
                   go_wp2_with (first |((with_reducible refine je (f:=34) rfl ?_);refine gL (some 83) Try.func34 #[.slice (some ad261) l0.length c0, .int .i64 (rd t257 x10_1)] ?_;(with_reducible refine (joa.calls kj35 _ _ l0 (rd t257 x10_1) t269 _ ?side1 ?side2 A39.out).mono ?_);(case side1=>exact cq (Kd.jV HR0.out HB.out));(case side2=>exact HC0.out);rintro e w' ⟨rfl,⟨nd,rfl⟩⟩;refine ⟨_,rfl,?_⟩) |((with_reducible refine je (f:=47) rfl ?_);refine gL (some 89) Try.func47 #[.slice (some ad261) l0.length c0, .int .i64 (wrap64 ((rd t257 x10_1)+1)), .int .i64 t269, .bool (((jd l0 (rd t257 x10_1)).f1) == 12)] ?_;(with_reducible refine (ih kj35 (by have:=HK1.out;have:=HJ10.out;have:=HJ15.out;have:=HJ35.out;omega) _ _ l0 (wrap64 ((rd t257 x10_1)+1)) t269 (((jd l0 (rd t257 x10_1)).f1) == 12) false _ ?side1 ?side2 A45.out).mono ?_);(case side1=>exact cq (Kd.jV HR0.out (bq)));(case side2=>exact HC0.out);rintro e w48 ⟨rfl,hb⟩;refine ⟨_,rfl,?_⟩;replace HO_9:=am (Kd.jva (rq HO_9.out) hb);replace HB:=am (jg (bq) hb);(try clear hb);(try clear hb2);(try clear hk);(try clear hi)))
                   go_ret
                   exact ⟨Y0,bq⟩
                ·replace c38:=Bool.eq_false_iff.mpr c38
                 subst c38
                 have H1:(jk.l0 kj35 l0 a3 t257 (wrap64 (x10_1+1)))=some r:=by rw [if_neg (show ¬ (false=true) by decide)] at H;exact H
                 clear H
                 have H:=H1
                 clear H1
                 have H':=am H
                 clear H
                 go_wp2
                 go_roundg kj35
                 case measure=>have:=HK1.out;have:=HJ10.out;have:=HJ15.out;have:=HJ35.out;omega
                 case rel=>exact ⟨(wrap64 (x10_1+1)),(sq),H',⟨by have:=HK1.out;have:=HJ10.out;have:=HJ15.out;have:=HJ35.out;omega⟩,⟨rq HO_9.out⟩,⟨bq⟩⟩
      ·rw [if_neg c10] at H
       exact absurd H (by simp)
     ·rw [if_neg c9] at H
      exact absurd H (by simp)
    ·rw [if_neg c8] at H
     exact absurd H (by simp)
   ·rw [if_neg c7] at H
    have c7b0:decide (x10_1<(t257.length:Int))=false:=dzF c7
    clear c7
    obtain rfl:=Option.some.inj H
    obtain ⟨Ao49,co49,eo49⟩:=Kd.jsa HO_9.out
    subst eo49
    go_wp2
    go_ret
    exact ⟨Y0,bq⟩
def inB (a lo hi : Int) : Bool := decide (lo ≤ a) && decide (a ≤ hi)
theorem jMb (a lo hi : Int) : jI.f a lo hi = some (inB a lo hi) := by
 unfold jI.f inB
 by_cases h:a≥lo
 ·rw [if_pos h];simp [show lo≤a from h]
 ·rw [if_neg h];simp [show ¬ lo≤a from h]
theorem jCc (a b c d : Int) : jUa.f a b c d = some (inB b 7 12) := by
 unfold jUa.f
 rw [jMb];rfl
def VF (W : World) (B1 BL BT : Nat) (a x : S59) (tv : Value) : Prop :=
 W.heap[B1]?=some (.cells #[.int .i64 a.f0, .int .i64 a.f1, .int .i64 a.f2, .int .i64 a.f3] 59 (0,0))∧W.heap[BL]?=some (.cells #[.int .i64 x.f0, .int .i64 x.f1, .int .i64 x.f2, .int .i64 x.f3] 59 (0,0))∧W.cell? ⟨BT,0,none⟩=some tv
theorem VF.below {W W' : World} {B1 BL BT : Nat} {a x : S59} {tv : Value} (h : VF W B1 BL BT a x tv) (hb : Below W.heap.size W W') : VF W' B1 BL BT a x tv :=
 ⟨(hb.block _ (jrb h.1)).trans h.1,(hb.block _ (jrb h.2.1)).trans h.2.1,jua hb h.2.2⟩
theorem VF.cells {W : World} {B1 BL BT : Nat} {a x : S59} {tv : Value} (h : VF W B1 BL BT a x tv) :
  W.cell? ⟨B1,0,none⟩=some (.int .i64 a.f0)∧W.cell? ⟨B1,1,none⟩=some (.int .i64 a.f1)∧W.cell? ⟨B1,2,none⟩=some (.int .i64 a.f2)∧W.cell? ⟨B1,3,none⟩=some (.int .i64 a.f3) ∧
  W.cell? ⟨BL,0,none⟩=some (.int .i64 x.f0)∧W.cell? ⟨BL,1,none⟩=some (.int .i64 x.f1)∧W.cell? ⟨BL,2,none⟩=some (.int .i64 x.f2)∧W.cell? ⟨BL,3,none⟩=some (.int .i64 x.f3)∧W.cell? ⟨BT,0,none⟩=some tv :=
 ⟨(jA h.1 0).trans rfl,(jA h.1 1).trans rfl,(jA h.1 2).trans rfl,(jA h.1 3).trans rfl,(jA h.2.1 0).trans rfl,(jA h.2.1 1).trans rfl,(jA h.2.1 2).trans rfl,(jA h.2.1 3).trans rfl,h.2.2⟩
theorem VF.frozen {W : World} {B1 BL BT : Nat} {a x : S59} {tv : Value} (h : VF W B1 BL BT a x tv) : W.frozen? ⟨B1, 0, none⟩ = false ∧ W.frozen? ⟨B1, 1, none⟩ = false ∧ W.frozen? ⟨B1, 2, none⟩ = false ∧ W.frozen? ⟨B1, 3, none⟩ = false :=
 ⟨ja h.1 0,ja h.1 1,ja h.1 2,ja h.1 3⟩
theorem four_stored {W : World} {B T : Nat} {a b c d a' b' c' d' : Value} (h : W.heap[B]? = some (.cells #[a, b, c, d] T (0, 0))) :
  ((((W.setCell ⟨B,0,none⟩ a').setCell ⟨B,1,none⟩ b').setCell ⟨B,2,none⟩ c').setCell ⟨B,3,none⟩ d').heap[B]?=some (.cells #[a',b',c',d'] T (0,0)):=by
 have h0:=blk_set h 0 a'
 have h1:=blk_set h0 1 b'
 have h2:=blk_set h1 2 c'
 have h3:=blk_set h2 3 d'
 simpa using h3
theorem four_below {W w : World} {base B : Nat} {a' b' c' d' : Value} (h : Below base w W) (hB : base ≤ B) :
  Below base w ((((W.setCell ⟨B,0,none⟩ a').setCell ⟨B,1,none⟩ b').setCell ⟨B,2,none⟩ c').setCell ⟨B,3,none⟩ d') :=
 (((h.setCell (p:=⟨B,0,none⟩) hB _).setCell (p:=⟨B,1,none⟩) hB _).setCell (p:=⟨B,2,none⟩) hB _).setCell (p:=⟨B,3,none⟩) hB _
theorem four_far {W : World} {B C : Nat} {a' b' c' d' v : Value} (h : W.cell? ⟨C, 0, none⟩ = some v) (hne : B ≠ C) :
  ((((W.setCell ⟨B,0,none⟩ a').setCell ⟨B,1,none⟩ b').setCell ⟨B,2,none⟩ c').setCell ⟨B,3,none⟩ d').cell? ⟨C,0,none⟩=some v:=by
 have e:∀ j,(⟨B,j,none⟩:Addr)≠⟨C,0,none⟩:=fun j hj=>hne (by injection hj)
 rw [World.cell?_setCell_other (h:=e 3),World.cell?_setCell_other (h:=e 2),World.cell?_setCell_other (h:=e 1),World.cell?_setCell_other (h:=e 0)]
 exact h
def jw.bad (x last : S59) : Bool := !inB x.f0 0 5 || (inB last.f1 7 12 && decide (x.f0 ≠ last.f0 + 1)) || (!inB last.f1 7 12 && decide (last.f0 < x.f0))
def jw.go (k : Nat) (t : List S98) : List S59 → S59 → Option (Option S59)
 | [],last=>some (some last)
 | x :: xs,last=>(jEa.f k x.f0 x.f1 x.f2 x.f3 t).bind fun v=>if v=false then some none else if jw.bad x last then some none else jw.go k t xs x
def jw.f (k : Nat) (l0_0 : List S98) (l1 : List S59) : Option Bool := (jD.f k l0_0).bind fun v =>
 if v=false then some false else if 24<l1.length then some false else
 (jw.go k l0_0 l1 ⟨-1,7,0,0⟩).bind fun q=>match q with
 | none=>some false
 | some last=>if l1.length=0 then jk.f k l1 0 (l1.length:Int) false else if inB last.f1 7 12 then some false else jk.f k l1 0 (l1.length:Int) false
theorem jw.step {k : Nat} {t : List S98} {p : List S59} {n : Nat} {last : S59} {q : Option S59} (hn : n < p.length) (h : jw.go k t (p.drop n) last = some q) :
  ∃ v,jEa.f k p[n].f0 p[n].f1 p[n].f2 p[n].f3 t=some v∧(if v=false then some none else if jw.bad p[n] last then some none else jw.go k t (p.drop (n+1)) p[n])=some q:=by
 rw [List.drop_eq_getElem_cons hn] at h
 exact bzS h
set_option maxHeartbeats 8000000 in
set_option maxRecDepth 100000 in
theorem jw.calls (k : Nat) (A0_0 : Option Addr) (c0_0 : Nat) (l0_0 : List S98) (A1 : Option Addr) (c1 : Nat) (l1 : List S59) (r : Bool) (w : World) (hr0_0 : Kd.C k98 w A0_0 l0_0.length l0_0) (hc0_0 : l0_0.length ≤ c0_0) (hr1 : Kd.C k59 w A1 l1.length l1) (hc1 : l1.length ≤ c1) (h : jw.f k l0_0 l1 = some r) :
  Calls Try.prog 22 #[.agg #[.slice A0_0 l0_0.length c0_0], .slice A1 l1.length c1] w fun e w'=>e=.returned (.bool r)∧Below w.heap.size w w':=by
 have hu32:=Try.underlying32
 have hu59:=Try.underlying59
 have hm:l1.length≤9223372036854775807:=Kd.C_max hr1
 obtain ⟨v,hv,h⟩:=bzS h
 have HV:=am (fun W (hb:Below w.heap.size w W)=>jD.calls k A0_0 c0_0 l0_0 v W (Kd.jV hr0_0 hb) hc0_0 hv)
 have HR0:=am hr0_0
 have HR1:=am hr1
 clear hv hr0_0 hr1
 cases v with
 | false =>
  obtain rfl:false=r:=by simpa using h
  clear h
  go_enter Try.func22,Try.ntmps22
  go_wp2_with (go_at_call 43;refine (HV.out _ ((Below.refl _ _).alloc (Nat.le_refl _) _)).mono ?_;rintro e w' ⟨rfl,hb2⟩)
  go_ret
  exact ⟨rfl,((Below.refl _ _).alloc (Nat.le_refl _) _).trans (hb2.mono (by simp))⟩
 | true =>
  simp only [Bool.true_eq_false,if_false] at h
  by_cases h24:24<l1.length
  ·rw [if_pos h24] at h
   obtain rfl:false=r:=by simpa using h
   have h24b:decide (24<l1.length)=true:=dzT h24
   clear h
   go_enter Try.func22,Try.ntmps22
   go_wp2_with (go_at_call 43;refine (HV.out _ ((Below.refl _ _).alloc (Nat.le_refl _) _)).mono ?_;rintro e w' ⟨rfl,hb2⟩)
   go_ret
   exact ⟨rfl,((Below.refl _ _).alloc (Nat.le_refl _) _).trans (hb2.mono (by simp))⟩
  ·rw [if_neg h24] at h
   have h24b:decide (24<l1.length)=false:=dzF h24
   obtain ⟨q,hq,h⟩:=bzS h
   have H0:=am hq
   have HZ:=am h
   clear h hq
   go_enter Try.func22,Try.ntmps22
   go_wp2_with (go_at_call 43;refine (HV.out _ ((Below.refl _ _).alloc (Nat.le_refl _) _)).mono ?_;rintro e w2 ⟨rfl,hb2⟩;have HB2:=am (((Below.refl w.heap.size w).alloc (Nat.le_refl _) (.cells #[.slice A0_0 l0_0.length c0_0] 32)).trans (hb2.mono (by simp)));have hs2:w.heap.size<w2.heap.size:=Nat.lt_of_lt_of_le (by simp) hb2.size;have ht2:=jua hb2 (show (w.alloc (.cells #[.slice A0_0 l0_0.length c0_0] 32)).cell? ⟨w.heap.size,0,none⟩=some (.slice A0_0 l0_0.length c0_0) by simp);clear hb2)
   obtain ⟨B1,hB1⟩:∃ B1,B1=w2.heap.size:=⟨_,rfl⟩
   have HBK:=am (show (w2.alloc (.cells #[.int .i64 (-1), .int .i64 7, .int .i64 0, .int .i64 0] 59)).heap[B1]?=some (.cells #[.int .i64 (-1), .int .i64 7, .int .i64 0, .int .i64 0] 59 (0,0)) by rw [hB1];exact heap_alloc_new w2 _)
   have hBl:=am (HB2.out.alloc (Nat.le_of_lt hs2) (.cells #[.int .i64 (-1), .int .i64 7, .int .i64 0, .int .i64 0] 59))
   have hT:=am (show (w2.alloc (.cells #[.int .i64 (-1), .int .i64 7, .int .i64 0, .int .i64 0] 59)).cell? ⟨w.heap.size,0,none⟩=some (.slice A0_0 l0_0.length c0_0) by simp [World.cell?_alloc_old,Nat.ne_of_lt hs2,ht2])
   rw [← hB1]
   have hlt1:w.heap.size<B1:=by omega
   clear hB1
   generalize w2.alloc (.cells #[.int .i64 (-1), .int .i64 7, .int .i64 0, .int .i64 0] 59)=w3 at HBK hBl hT ⊢
   clear ht2 hs2 HB2 HV
   go_loopw [19] (fun i19 wr=>∃ (n:Nat) (last:S59),i19=.int .i64 n∧n≤l1.length∧-1≤last.f0∧last.f0≤5∧jl (jw.go k l0_0 (l1.drop n) last=some q)∧jl (wr.heap[B1]?=some (.cells #[.int .i64 last.f0, .int .i64 last.f1, .int .i64 last.f2, .int .i64 last.f3] 59 (0,0)))∧jl (wr.cell? ⟨w.heap.size,0,none⟩=some (.slice A0_0 l0_0.length c0_0))∧jl (Below w.heap.size w wr)) (fun i19 _=>l1.length - (intOf i19).toNat)
   case atStart=>exact ⟨0,⟨-1,7,0,0⟩,rfl,Nat.zero_le _,by simp,by simp,H0,HBK,hT,hBl⟩
   case round =>
    clear H0 HBK hT hBl
    obtain ⟨n,last,rfl,hn,hlo,hhi,HA,HBK,HT,HB⟩:=hrel
    have ht2:=HT.out
    have g0:wr.cell? ⟨B1,0,none⟩=some (.int .i64 last.f0):=(jA HBK.out 0).trans rfl
    have g1:wr.cell? ⟨B1,1,none⟩=some (.int .i64 last.f1):=(jA HBK.out 1).trans rfl
    have g2:wr.cell? ⟨B1,2,none⟩=some (.int .i64 last.f2):=(jA HBK.out 2).trans rfl
    have g3:wr.cell? ⟨B1,3,none⟩=some (.int .i64 last.f3):=(jA HBK.out 3).trans rfl
    have hBw:B1<wr.heap.size:=jrb HBK.out
    have hne:B1≠wr.heap.size:=by omega
    have hne2:w.heap.size≠wr.heap.size:=by omega
    have hTw:w.heap.size<wr.heap.size:=by omega
    by_cases hlt:n<l1.length
    ·obtain ⟨v,hv,hs⟩:=jw.step hlt HA.out
     clear HA
     obtain ⟨ad,rfl,hx0,hx1,hx2,hx3⟩:=jza HR1.out (n:Int) (by omega) (by omega)
     have hrd:jd l1 (n:Int)=l1[n]:=by simp [jd,List.getD_eq_getElem?_getD,hlt]
     rw [hrd,Int.toNat_natCast] at hx0 hx1 hx2 hx3
     clear hrd
     generalize l1[n]=x at hv hs hx0 hx1 hx2 hx3
     have hb:=HB.out
     replace hx0:=jua hb hx0
     replace hx1:=jua hb hx1
     replace hx2:=jua hb hx2
     replace hx3:=jua hb hx3
     clear hb
     have HG:=am (fun W (hb:Below w.heap.size w W)=>jEa.calls k x.f0 x.f1 x.f2 x.f3 A0_0 c0_0 l0_0 v W (Kd.jV HR0.out hb) hc0_0 hv)
     clear hv
     cases v with
     | false =>
      obtain rfl:none=q:=by simpa using hs
      obtain rfl:false=r:=by simpa using HZ.out
      clear hs HZ
      go_wp2_with (go_at_call 44;refine (HG.out _ (HB.out.alloc HB.out.size _)).mono ?_;rintro e w4 ⟨rfl,hb4⟩)
      go_ret
      exact ⟨rfl,jda (HB.out.alloc HB.out.size _) (by simp;have:=HB.out.size;omega) hb4⟩
     | true =>
      simp only [Bool.true_eq_false,if_false] at hs
      have V0:=am (show VF (wr.alloc (.cells #[.int .i64 x.f0, .int .i64 x.f1, .int .i64 x.f2, .int .i64 x.f3] 59)) B1 wr.heap.size w.heap.size last x (.slice A0_0 l0_0.length c0_0) from ⟨(heap_alloc_old wr _ hBw).trans HBK.out,heap_alloc_new wr _,by rw [World.cell?_alloc_old _ _ _ hne2];exact HT.out⟩)
      have HO:=am (fun W=>jUa.calls last.f0 last.f1 last.f2 last.f3 _ W (jCc _ _ _ _))
      clear g0 g1 g2 g3
      have tok1:True:=trivial
      have HS:=am hs
      clear hs
      cases h5:inB x.f0 0 5 with
      | false =>
       have H5:=am h5
       obtain rfl:none=q:=by simpa [jw.bad,h5] using HS.out
       obtain rfl:false=r:=by simpa using HZ.out
       clear HS HZ h5
       go_wp2_with (first |(go_at_call 44;refine (HG.out _ (HB.out.alloc HB.out.size _)).mono ?_;rintro e w4 ⟨rfl,hb4⟩;have V4:=am (VF.below V0.out hb4);have HB4:=am (jda (HB.out.alloc HB.out.size _) (by simp;have:=HB.out.size;omega) hb4);clear hb4;obtain ⟨g0,g1,g2,g3,e0,e1,e2,e3,ht4⟩:=VF.cells V4.out) |(go_at_call 45;refine (jI.calls _ _ _ _ _ (jMb _ _ _)).mono ?_;rintro e w5 ⟨rfl,⟨nd,rfl⟩⟩;rw [H5.out]))
       go_ret
       exact ⟨rfl,jm HB4.out _⟩
      | true =>
       have H5:=am h5
       have hx5:0≤x.f0∧x.f0≤5:=by simpa [inB] using h5
       cases ho:inB last.f1 7 12 with
       | true =>
        rw [ho] at HO
        by_cases hd:x.f0=last.f0+1
        ·have hb1:(x.f0 != last.f0+1)=false:=by simpa using hd
         have hbad:jw.bad x last=false:=by unfold jw.bad;rw [h5,ho];simp [hd]
         have HN:=am (by have:=HS.out;rw [hbad] at this;simpa using this:jw.go k l0_0 (l1.drop (n+1)) x=some q)
         clear hbad
         clear HS hd h5 ho
         go_wp2_with (first |(go_at_call 44;refine (HG.out _ (HB.out.alloc HB.out.size _)).mono ?_;rintro e w4 ⟨rfl,hb4⟩;have V4:=am (VF.below V0.out hb4);have HB4:=am (jda (HB.out.alloc HB.out.size _) (by simp;have:=HB.out.size;omega) hb4);clear hb4;obtain ⟨g0,g1,g2,g3,e0,e1,e2,e3,ht4⟩:=VF.cells V4.out) |(go_at_call 45;refine (jI.calls _ _ _ _ _ (jMb _ _ _)).mono ?_;rintro e w5 ⟨rfl,⟨nd,rfl⟩⟩;rw [H5.out]) |(go_at_call 46;have tk1:=tok1;clear tok1;refine (HO.out _).mono ?_;rintro e w6 ⟨rfl,hb6⟩;have V6:=am (VF.below (W:=World.drewN _ _) V4.out hb6);have HB6:=am (jda (w1:=World.drewN _ _) (show Below w.heap.size w (World.drewN _ _) from ⟨HB4.out.os,HB4.out.tape,HB4.out.output,HB4.out.size,HB4.out.block⟩) HB4.out.size hb6);clear hb6 g0 g1 g2 g3 e0 e1 e2 e3 ht4;obtain ⟨g0,g1,g2,g3,e0,e1,e2,e3,ht4⟩:=VF.cells V6.out) |(go_at_call 46;refine (HO.out _).mono ?_;rintro e w7 ⟨rfl,hb7⟩;have V7:=am (VF.below V6.out hb7);have HB7:=am (jda HB6.out HB6.out.size hb7);clear hb7 g0 g1 g2 g3 e0 e1 e2 e3 ht4;obtain ⟨g0,g1,g2,g3,e0,e1,e2,e3,ht4⟩:=VF.cells V7.out;obtain ⟨f0,f1,f2,f3⟩:=VF.frozen V7.out))
         go_roundw
         case rel=>exact ⟨n+1,x,by go_num,hlt,by omega,by omega,HN,⟨four_stored V7.out.1⟩,⟨four_far V7.out.2.2 (by omega)⟩,⟨four_below HB7.out (by omega)⟩⟩
         case measure=>simp [intOf];omega
        ·have hb1:(x.f0 != last.f0+1)=true:=by simpa using hd
         obtain rfl:none=q:=by simpa [jw.bad,h5,ho,hd] using HS.out
         obtain rfl:false=r:=by simpa using HZ.out
         clear HS HZ hd h5 ho
         go_wp2_with (first |(go_at_call 44;refine (HG.out _ (HB.out.alloc HB.out.size _)).mono ?_;rintro e w4 ⟨rfl,hb4⟩;have V4:=am (VF.below V0.out hb4);have HB4:=am (jda (HB.out.alloc HB.out.size _) (by simp;have:=HB.out.size;omega) hb4);clear hb4;obtain ⟨g0,g1,g2,g3,e0,e1,e2,e3,ht4⟩:=VF.cells V4.out) |(go_at_call 45;refine (jI.calls _ _ _ _ _ (jMb _ _ _)).mono ?_;rintro e w5 ⟨rfl,⟨nd,rfl⟩⟩;rw [H5.out]) |(go_at_call 46;have tk1:=tok1;clear tok1;refine (HO.out _).mono ?_;rintro e w6 ⟨rfl,hb6⟩;have V6:=am (VF.below (W:=World.drewN _ _) V4.out hb6);have HB6:=am (jda (w1:=World.drewN _ _) (show Below w.heap.size w (World.drewN _ _) from ⟨HB4.out.os,HB4.out.tape,HB4.out.output,HB4.out.size,HB4.out.block⟩) HB4.out.size hb6);clear hb6 g0 g1 g2 g3 e0 e1 e2 e3 ht4;obtain ⟨g0,g1,g2,g3,e0,e1,e2,e3,ht4⟩:=VF.cells V6.out))
         go_ret
         exact ⟨rfl,HB6.out⟩
       | false =>
        rw [ho] at HO
        by_cases hd:last.f0<x.f0
        ·have hb1:decide (last.f0<x.f0)=true:=dzT hd
         have hbad:jw.bad x last=true:=by unfold jw.bad;rw [h5,ho];simp [hd]
         obtain rfl:none=q:=by have:=HS.out;rw [hbad] at this;simpa using this
         obtain rfl:false=r:=by simpa using HZ.out
         clear HS HZ hd h5 ho hbad
         go_wp2_with (first |(go_at_call 44;refine (HG.out _ (HB.out.alloc HB.out.size _)).mono ?_;rintro e w4 ⟨rfl,hb4⟩;have V4:=am (VF.below V0.out hb4);have HB4:=am (jda (HB.out.alloc HB.out.size _) (by simp;have:=HB.out.size;omega) hb4);clear hb4;obtain ⟨g0,g1,g2,g3,e0,e1,e2,e3,ht4⟩:=VF.cells V4.out) |(go_at_call 45;refine (jI.calls _ _ _ _ _ (jMb _ _ _)).mono ?_;rintro e w5 ⟨rfl,⟨nd,rfl⟩⟩;rw [H5.out]) |(go_at_call 46;have tk1:=tok1;clear tok1;refine (HO.out _).mono ?_;rintro e w6 ⟨rfl,hb6⟩;have V6:=am (VF.below (W:=World.drewN _ _) V4.out hb6);have HB6:=am (jda (w1:=World.drewN _ _) (show Below w.heap.size w (World.drewN _ _) from ⟨HB4.out.os,HB4.out.tape,HB4.out.output,HB4.out.size,HB4.out.block⟩) HB4.out.size hb6);clear hb6 g0 g1 g2 g3 e0 e1 e2 e3 ht4;obtain ⟨g0,g1,g2,g3,e0,e1,e2,e3,ht4⟩:=VF.cells V6.out) |(go_at_call 46;refine (HO.out _).mono ?_;rintro e w7 ⟨rfl,hb7⟩;have V7:=am (VF.below V6.out hb7);have HB7:=am (jda HB6.out HB6.out.size hb7);clear hb7 g0 g1 g2 g3 e0 e1 e2 e3 ht4;obtain ⟨g0,g1,g2,g3,e0,e1,e2,e3,ht4⟩:=VF.cells V7.out;obtain ⟨f0,f1,f2,f3⟩:=VF.frozen V7.out))
         go_ret
         exact ⟨rfl,HB7.out⟩
        ·have hb1:decide (last.f0<x.f0)=false:=dzF hd
         have hbad:jw.bad x last=false:=by unfold jw.bad;rw [h5,ho];simp [hd]
         have HN:=am (by have:=HS.out;rw [hbad] at this;simpa using this:jw.go k l0_0 (l1.drop (n+1)) x=some q)
         clear hbad HS hd h5 ho
         go_wp2_with (first |(go_at_call 44;refine (HG.out _ (HB.out.alloc HB.out.size _)).mono ?_;rintro e w4 ⟨rfl,hb4⟩;have V4:=am (VF.below V0.out hb4);have HB4:=am (jda (HB.out.alloc HB.out.size _) (by simp;have:=HB.out.size;omega) hb4);clear hb4;obtain ⟨g0,g1,g2,g3,e0,e1,e2,e3,ht4⟩:=VF.cells V4.out) |(go_at_call 45;refine (jI.calls _ _ _ _ _ (jMb _ _ _)).mono ?_;rintro e w5 ⟨rfl,⟨nd,rfl⟩⟩;rw [H5.out]) |(go_at_call 46;have tk1:=tok1;clear tok1;refine (HO.out _).mono ?_;rintro e w6 ⟨rfl,hb6⟩;have V6:=am (VF.below (W:=World.drewN _ _) V4.out hb6);have HB6:=am (jda (w1:=World.drewN _ _) (show Below w.heap.size w (World.drewN _ _) from ⟨HB4.out.os,HB4.out.tape,HB4.out.output,HB4.out.size,HB4.out.block⟩) HB4.out.size hb6);clear hb6 g0 g1 g2 g3 e0 e1 e2 e3 ht4;obtain ⟨g0,g1,g2,g3,e0,e1,e2,e3,ht4⟩:=VF.cells V6.out) |(go_at_call 46;refine (HO.out _).mono ?_;rintro e w7 ⟨rfl,hb7⟩;have V7:=am (VF.below V6.out hb7);have HB7:=am (jda HB6.out HB6.out.size hb7);clear hb7 g0 g1 g2 g3 e0 e1 e2 e3 ht4;obtain ⟨g0,g1,g2,g3,e0,e1,e2,e3,ht4⟩:=VF.cells V7.out;obtain ⟨f0,f1,f2,f3⟩:=VF.frozen V7.out))
         go_roundw
         case rel=>exact ⟨n+1,x,by go_num,hlt,by omega,by omega,HN,⟨four_stored V7.out.1⟩,⟨four_far V7.out.2.2 (by omega)⟩,⟨four_below HB7.out (by omega)⟩⟩
         case measure=>simp [intOf];omega
    ·have hgo:=HA.out
     rw [List.drop_eq_nil_of_le (by omega)] at hgo
     obtain rfl:some last=q:=by simpa [jw.go] using hgo
     clear hgo HA
     have HY:=am HZ.out
     clear HZ
     by_cases h0:l1.length=0
     ·have hy:=HY.out
      simp only [if_pos h0] at hy
      have HQ:=am (fun W (hb:Below w.heap.size w W)=>jk.calls k A1 c1 l1 0 (l1.length:Int) false r W (Kd.jV HR1.out hb) hc1 hy)
      have HBX:=HB.out
      clear hy HY
      have hz1:((l1.length:Int) == 0)=true:=by simp [h0]
      have hz2:(l1.length == 0)=true:=by simp [h0]
      clear h0
      go_wp2_with (first |(go_at_call 47;refine (HQ.out _ HBX).mono ?_;rintro e w9 ⟨rfl,hb9⟩;have HB9:=am (jda HBX HBX.size hb9)))
      go_ret
      exact ⟨rfl,HB9.out⟩
     ·have hz1:((l1.length:Int) == 0)=false:=by simpa using h0
      have hz2:(l1.length == 0)=false:=by simpa using h0
      have HO:=am (fun W=>jUa.calls last.f0 last.f1 last.f2 last.f3 _ W (jCc _ _ _ _))
      have hy:=HY.out
      simp only [if_neg h0] at hy
      clear HY
      cases ho:inB last.f1 7 12 with
      | true =>
       rw [ho] at HO hy
       obtain rfl:false=r:=by simpa using hy
       clear hy ho h0
       go_wp2_with (first |(go_at_call 46;refine (HO.out _).mono ?_;rintro e w6 ⟨rfl,hb6⟩;have HBX:=jda HB.out HB.out.size hb6;clear hb6))
       go_ret
       exact ⟨rfl,HBX⟩
      | false =>
       rw [ho] at HO hy
       simp only [Bool.false_eq_true,if_false] at hy
       have HQ:=am (fun W (hb:Below w.heap.size w W)=>jk.calls k A1 c1 l1 0 (l1.length:Int) false r W (Kd.jV HR1.out hb) hc1 hy)
       clear hy ho h0
       go_wp2_with (first |(go_at_call 46;refine (HO.out _).mono ?_;rintro e w6 ⟨rfl,hb6⟩;have HBX:=jda HB.out HB.out.size hb6;clear hb6) |(go_at_call 47;refine (HQ.out _ HBX).mono ?_;rintro e w9 ⟨rfl,hb9⟩;have HB9:=am (jda HBX HBX.size hb9)))
       go_ret
       exact ⟨rfl,HB9.out⟩
def jnc.f (l0 : List (S48)) : Option ((List (S48))) := some (l0)
set_option maxHeartbeats 8000000 in
set_option maxRecDepth 100000 in
theorem jnc.calls (P0_ : Nat → Prop) (u9000_ : Value) (l0 : List (S48)) (r : List (S48)) (w0 w : World) (hB : Below w0.heap.size w0 w) (ho0 : Kd.R k48 48 w w0.heap.size P0_ u9000_ l0) (h : jnc.f l0 = some r) :
  Calls Try.prog 36 #[u9000_] w fun e w'=>∃ v0_:Value,e=.returned (v0_)∧Kd.R k48 48 w' w0.heap.size (fun k_=>(P0_ k_∨w.heap.size≤k_)) v0_ r∧Below w0.heap.size w0 w'∧Kept w w' (fun k_=>P0_ k_):=by
 have HO0:=am (show Kd.R k48 48 w w0.heap.size (fun k_=>(P0_ k_∨w.heap.size≤k_)) u9000_ l0 from Kd.jK ho0 (fun k_ hk=>(.inl hk)))
 have HK:=am (Kept.refl w (fun k_=>P0_ k_))
 have HW0:=am hB.size
 have HB:=am hB
 clear hB
 have H:(some (l0))=some r:=h
 clear h
 obtain ⟨y272,hy272⟩:∃ y_:List (S48),y_=(l0):=⟨_,rfl⟩
 replace H:(some y272)=some r:=by first |(rw [hy272];with_reducible exact H) |(have H2_:=(Option.bind_some _ _).symm.trans H;rw [hy272];with_reducible exact H2_) |(have H2_:=(Option.bind_some _ _).symm.trans H;with_reducible exact H2_) | with_reducible exact H |(rw [hy272];exact H) | exact H
 have Ny272:=am hy272
 clear hy272
 obtain rfl:=Option.some.inj H
 obtain ⟨Ao2,co2,eo2⟩:=Kd.jsa HO0.out
 subst eo2
 obtain ⟨i03,hi03,_,hsz3,_⟩:=info_parts info48
 have hy3:y272.length=l0.length:=(by rw [Ny272.out])
 have hcut3:=cut_clip (P:=Try.prog) 28 48 Try.underlying28 hi03 Ao2 _ co2 _ (Kd.jE HO0.out).2.1 hy3
 have hr3:=Kd.R_clip HO0.out Ny272.out
 clear hy3 hi03 hsz3 HO0
 have HO274:=am hr3
 clear hr3
 go_enter Try.func36,Try.ntmps36
 go_wp2
 go_ret
 exact ⟨_,Y0,rq HO274.out,bq,Y96⟩
section
open Go.Shelf
attribute [local go_sem] Oper.semAt_some
theorem xwrL {x : Int} (h : -9223372036854775808 ≤ x ∧ x ≤ 9223372036854775807) : wrap64 x = x := by unfold wrap64; omega
def uptoL {α : Type} (f : Nat → α) (k : Nat) : List α := (List.range k).map f
theorem uptoL_succ {α : Type} (f : Nat → α) (k : Nat) : uptoL f (k + 1) = uptoL f k ++ [f k] := by simp [uptoL, List.range_succ]
theorem uptoL_length {α : Type} (f : Nat → α) (k : Nat) : (uptoL f k).length = k := by simp [uptoL]
def jec (n₀ Bs : Nat) (sv : Value) (W W' : World) : Prop := Below n₀ W W' ∧ (Boxed W Bs 34 sv → Boxed W' Bs 34 sv)
theorem backKeepsL_t {n₀ Bs : Nat} {sv : Value} {A B C : World} (h : jec n₀ Bs sv A B) (k : jec n₀ Bs sv B C) : jec n₀ Bs sv A C := ⟨h.1.trans k.1, fun x => k.2 (h.2 x)⟩
theorem backKeepsL_b {n₀ Bs : Nat} {sv : Value} {w : World} (hn : n₀ ≤ w.heap.size) (W : World) (l : Nat) (o o' : Obj) (hl : w.heap.size ≤ l) (h : W.heap[l]? = some o) (hc : o.isCells = false) (hw : o.isWalk = false) : jec n₀ Bs sv W (W.putObj l o') :=
 ⟨belowK_b hn W l o o' hl h hc hw,fun hb=>by
  refine hb.kept (grownBy_putObj' W l o') ?_
  intro e
  obtain rfl:Bs=l:=by simpa using e
  rw [show W.heap[Bs]?=_ from hb] at h
  cases h
  cases hc⟩
set_option maxRecDepth 100000 in
set_option maxHeartbeats 4000000 in
theorem backL1_in {α : Type} (F : Fence) (n : Nat) (h8 : F.fn 68) (hro : F.round = none) (hn : 1 ≤ n) (l Bs : Nat) (A : Option Addr) (cap : Nat) (xs : List S59) (w₀ : World) (hr : Kd.C k59 w₀ A xs.length xs)
  (encs:α→Array Value) (g:Nat→α) (hg:∀ j:Nat,j<xs.length→encs (g j)=#[.int .i64 ((xs.length:Int) - 1 - j), .agg #[.int .i64 (jd xs ((xs.length:Int) - 1 - j)).f0, .int .i64 (jd xs ((xs.length:Int) - 1 - j)).f1, .int .i64 (jd xs ((xs.length:Int) - 1 - j)).f2, .int .i64 (jd xs ((xs.length:Int) - 1 - j)).f3]])
  (J Jx:List α→World→Prop)
  (hY:∀ pre x W,J pre W→pre.length<xs.length→YieldAt F (n - 1) Try.prog l (encs x) W fun e W' =>
   (e=.returned (.bool true)∧J (pre ++ [x]) W'∧jec w₀.heap.size Bs (.slice A xs.length cap) W W')∨(e=.returned (.bool false)∧Jx (pre ++ [x]) W'))
  (W:World) (hW:Below w₀.heap.size w₀ W) (hBs:Boxed W Bs 34 (.slice A xs.length cap)) (h0:J [] W) :
  CallsIn F n Try.prog 68 #[.func (.yield l) #[] #[], .pointer (some ⟨Bs,0,none⟩)] W fun e W'=>(∃ v,e=.returned v) ∧
   ((∃ ys,ys=uptoL g xs.length∧J ys W')∨(∃ pre,(∃ k,k≤xs.length∧pre=uptoL g k)∧Jx pre W')):=by
 have hm:xs.length≤9223372036854775807:=Kd.C_max hr
 have hu:=Try.underlying59
 have cBs:=hBs.cell
 refine callsIn_of_wp Try.func68 rfl h8 ?_ hro
 simp only [Try.ntmps68,List.size_toArray,List.length_cons,List.length_nil,Nat.reduceAdd,Nat.reduceSub,Array.replicate_succ,Array.replicate_zero,List.push_toArray,List.append_toArray,List.nil_append,List.cons_append]
 gi_wp2
 have hwr:wrap64 ((xs.length:Int) - 1)=(xs.length:Int) - 1:=xwrL (by omega)
 gi_loopw [3] (fun i wr=>∃ k:Nat,k≤xs.length∧i=.int .i64 ((xs.length:Int) - 1 - k)∧J (uptoL g k) wr∧Below w₀.heap.size w₀ wr∧Boxed wr Bs 34 (.slice A xs.length cap))
  (fun i _=>(intOf i+1).toNat)
 case atStart=>exact ⟨0,Nat.zero_le _,by simp,h0,hW,hBs⟩
 case round =>
  obtain ⟨k,hk,rfl,hJs,hnx,hbx⟩:=hrel
  have cB:=hbx.cell
  by_cases hlt:k<xs.length
  ·obtain ⟨fn,tmps,assign,body,hy,hR⟩:=hY _ (g k) wr hJs (by rw [uptoL_length];exact hlt)
   rw [hg k hlt] at hy
   obtain ⟨j,hj⟩:∃ j:Nat,(xs.length:Int) - 1 - k=(j:Int):=⟨xs.length - 1 - k,by omega⟩
   have p0:0≤(j:Int):=by omega
   have p1:(j:Int)<(xs.length:Int):=by omega
   have p2:j<xs.length:=by omega
   rw [hj] at hy ⊢
   obtain ⟨ad,rfl,x0,x1,x2,x3⟩:=jza (Kd.jV hr hnx) (j:Int) p0 p1
   rw [Int.toNat_natCast] at x0 x1 x2 x3
   gi_wp2
   refine hR.mono ?_
   rintro e W3 (⟨rfl,hJ3,hk3⟩ | ⟨rfl,hJx3⟩)
   ·have hb3:=hk3.2 hbx
    have c3:=hb3.cell
    gi_wp2
    go_roundw
    case rel=>exact ⟨k+1,by omega,by congr 1;omega,by rw [uptoL_succ];exact hJ3,hnx.trans hk3.1,hb3⟩
    case measure=>simp [intOf]
   ·gi_wp2
    refine bodyPost_ret (results_none rfl _ _ _) rfl ?_
    exact ⟨⟨_,rfl⟩, .inr ⟨_,⟨k+1,by omega,(uptoL_succ _ _).symm⟩,hJx3⟩⟩
  ·obtain rfl:k=xs.length:=by omega
   have q2:decide ((xs.length:Int) - 1 - xs.length≥0)=false:=dzF (by omega)
   gi_wp2
   go_end0
   exact ⟨⟨_,rfl⟩, .inl ⟨_,rfl,hJs⟩⟩
theorem KeepsFrom.of_belowL {W W' : World} (h : Below W.heap.size W W') (B : Nat) : KeepsFrom B W W' := ⟨h.size, fun k o _ hk _ => (h.block k (Array.getElem?_eq_some_iff.1 hk).1).trans hk⟩
theorem Boxed.liesL {W W' : World} {B : Nat} {t : TypeId} {v : Value} (h : Boxed W B t v) (hb : Below W.heap.size W W') : Boxed W' B t v := (hb.block B h.lt).trans h
set_option maxHeartbeats 1000000 in
theorem backL_in (F : Fence) (n : Nat) (h6 : F.fn 33) (hro : F.round = none) (a : Option Addr) (len cap : Nat) (w : World) :
  CallsIn F n Try.prog 33 #[.slice a len cap] w fun e w'=>e=.returned (.func (.func 68) #[] #[.pointer (some ⟨w.heap.size,0,none⟩)])∧w'=w.alloc (.cells #[.slice a len cap] 34):=by
 refine callsIn_of_wp Try.func33 rfl h6 ?_ hro
 simp only [Try.ntmps33,List.size_toArray,List.length_cons,List.length_nil,Nat.reduceAdd,Nat.reduceSub,Array.replicate_succ,Array.replicate_zero,List.push_toArray,List.append_toArray,List.nil_append,List.cons_append]
 gi_wp2
 go_ret
 exact ⟨rfl,rfl⟩
set_option linter.unusedVariables false
set_option linter.unusedSimpArgs false
def jJ.rows (p : List S59) (i e : Int) : List Int → Option (List S48)
 | []=>some []
 | q :: L=>if 0≤q then (if q<(p.length:Int) then (jJ.rows p i e L).bind fun r=>some (if (jd p q).f1=8 then (⟨wrap64 (i+1),e,q,(jd p q).f2⟩:S48) :: r else r) else none) else none
def jJ.row (k : Nat) (p : List S59) (i : Int) (x : S59) : Option (List S48) :=
 (joa.f k p i).bind fun e=>if x.f1=11∧x.f3=1 then some [(⟨wrap64 (i+1),e,i,0⟩:S48)] else if x.f1=7 then (jca.f k p i).bind fun L=>if L.length≤1000000 then jJ.rows p i e L else none else some []
def jJ.tb (k : Nat) (p : List S59) : Nat → Option (List S48)
 | 0=>some []
 | i+1=>(jJ.row k p i (jd p (i:Int))).bind fun a=>(jJ.tb k p i).bind fun b=>some (a ++ b)
def jJ.f (k : Nat) (l0_0 : List S98) (l1 : List S59) : Option (List S48) :=
 (jw.f k l0_0 l1).bind fun v=>if v=true then (if l1.length≤1000000 then jJ.tb k l1 l1.length else none) else some []
theorem jJ.rows_len (p : List S59) (i e : Int) : ∀ (L : List Int) (r : List S48), jJ.rows p i e L = some r → r.length ≤ L.length
 | [],r,h=>by simp [jJ.rows] at h;simp [← h]
 | q :: L,r,h=>by
  simp only [jJ.rows] at h
  split at h
  ·split at h
   ·obtain ⟨r2,h1,h2⟩:=bzS h
    have:=jJ.rows_len p i e L r2 h1
    obtain rfl:=Option.some.inj h2
    split <;> simp <;> omega
   ·cases h
  ·cases h
theorem jJ.row_len {k : Nat} {p : List S59} {i : Int} {x : S59} {r : List S48} (h : jJ.row k p i x = some r) : r.length ≤ 1000000 := by
 unfold jJ.row at h
 obtain ⟨e,_,h⟩:=bzS h
 split at h
 ·obtain rfl:=Option.some.inj h;simp
 ·split at h
  ·obtain ⟨L,_,h⟩:=bzS h
   split at h
   ·have:=jJ.rows_len p i e L r h;omega
   ·cases h
  ·obtain rfl:=Option.some.inj h;simp
abbrev TbEl (k : Nat) (p : List S59) := { x : Int × S59 // (jJ.row k p x.1 x.2).isSome = true ∨ p.length = 0 }
def TbEl.zero (k : Nat) (p : List S59) (h : (jJ.row k p 0 (jd p 0)).isSome = true ∨ p.length = 0) : TbEl k p := ⟨(0, jd p 0), h⟩
def TbEl.rows {k : Nat} {p : List S59} (x : TbEl k p) : List S48 := (jJ.row k p x.1.1 x.1.2).getD []
def TbEl.acc {k : Nat} {p : List S59} (pre : List (TbEl k p)) : List S48 := (pre.map TbEl.rows).flatten
theorem TbEl.acc_snoc {k : Nat} {p : List S59} (pre : List (TbEl k p)) (x : TbEl k p) : TbEl.acc (pre ++ [x]) = TbEl.acc pre ++ x.rows := by simp [TbEl.acc]
theorem TbEl.acc_len {k : Nat} {p : List S59} : ∀ pre : List (TbEl k p), (TbEl.acc pre).length ≤ pre.length * 1000000
 | []=>by simp [TbEl.acc]
 | x :: pre=>by
  have:=TbEl.acc_len pre
  have e:x.rows.length≤1000000:=by
   unfold TbEl.rows
   cases hr:jJ.row k p x.1.1 x.1.2 with
   | none=>simp
   | some r=>exact jJ.row_len hr
  simp only [TbEl.acc,List.map_cons,List.flatten_cons,List.length_append,List.length_cons] at this ⊢
  omega
def TbEl.of (k : Nat) (p : List S59) (h0 : (jJ.row k p 0 (jd p 0)).isSome = true ∨ p.length = 0) (j : Nat) : TbEl k p :=
 if h:(jJ.row k p ((p.length:Int) - 1 - j) (jd p ((p.length:Int) - 1 - j))).isSome=true then ⟨((p.length:Int) - 1 - j,jd p ((p.length:Int) - 1 - j)), .inl h⟩ else TbEl.zero k p h0
theorem jJ.tb_all {k : Nat} {p : List S59} : ∀ (n : Nat) (r : List S48), jJ.tb k p n = some r → ∀ j : Nat, j < n → (jJ.row k p (j : Int) (jd p (j : Int))).isSome = true
 | 0,_,_,j,hj=>by omega
 | n+1,r,h,j,hj=>by
  simp only [jJ.tb] at h
  obtain ⟨a,h1,h⟩:=bzS h
  obtain ⟨b,h2,h⟩:=bzS h
  by_cases e:j=n
  ·subst e;rw [h1];rfl
  ·exact jJ.tb_all n b h2 j (by omega)
def encR (l : List S48) : List Value := (l.map fun x => [Value.int .i64 x.f0, .int .i64 x.f1, .int .i64 x.f2, .int .i64 x.f3]).flatten
theorem encR_snoc (l : List S48) (x : S48) : encR (l ++ [x]) = encR l ++ [Value.int .i64 x.f0, .int .i64 x.f1, .int .i64 x.f2, .int .i64 x.f3] := by simp [encR]
theorem TbEl.acc_all {k : Nat} {p : List S59} (h0 : (jJ.row k p 0 (jd p 0)).isSome = true ∨ p.length = 0) : ∀ (n : Nat) (r : List S48), n ≤ p.length → jJ.tb k p n = some r → ((List.range n).map fun j => (TbEl.of k p h0 (p.length - n + j)).rows).flatten = r
 | 0,r,_,h=>by simp [jJ.tb] at h;simp [← h]
 | n+1,r,hn,h=>by
  have h2:=jJ.tb_all (n+1) r h n (by omega)
  simp only [jJ.tb] at h
  obtain ⟨a,ha,h⟩:=bzS h
  obtain ⟨b,hb,h⟩:=bzS h
  obtain rfl:=Option.some.inj h
  have ih:=TbEl.acc_all h0 n b (by omega) hb
  rw [List.range_succ_eq_map,List.map_cons,List.flatten_cons,List.map_map]
  have e1:(TbEl.of k p h0 (p.length - (n+1)+0)).rows=a:=by
   have ei:(p.length:Int) - 1 - ((p.length - (n+1)+0:Nat):Int)=(n:Int):=by omega
   have hh:(jJ.row k p ((p.length:Int) - 1 - ((p.length - (n+1)+0:Nat):Int)) (jd p ((p.length:Int) - 1 - ((p.length - (n+1)+0:Nat):Int)))).isSome=true:=by rw [ei];exact h2
   simp only [TbEl.of,dif_pos hh,TbEl.rows]
   rw [ei,ha];rfl
  have e2:(List.map ((fun j=>(TbEl.of k p h0 (p.length - (n+1)+j)).rows) ∘ Nat.succ) (List.range n))=(List.range n).map fun j=>(TbEl.of k p h0 (p.length - n+j)).rows:=by
   apply List.map_congr_left
   intro j _
   simp only [Function.comp]
   rw [show p.length - (n+1)+j.succ=p.length - n+j by omega]
  rw [e1,e2,ih]
theorem ite_goal {c : Prop} [Decidable c] {A B : Prop} (hc : c) (h : A) : (if c then A else B) := by rw [if_pos hc]; exact h
theorem jTc {F : Fence} {n : Nat} {P : Program} (w : World) {o : Oper} {a : Act} {K : Act → World → Prop} {Q : Exit → Act → World → Prop}
  (s x:Operand) (t:TypeId) (hop:o.op=Op.call { callee:=Callee.builtin Builtin.append,args:=#[s,x],argTypes:=#[t,t] })
  (base:Nat) (e:TypeId) (i:TypeInfo) (z:Value) (size bytes:Nat) (h1:P.underlying t=some (.slice e)) (h2:P.info? e=some i) (h3:i.zero=some z) (h4:i.size=size) (h5:i.bytes=bytes) (h6:z.cells.size=size) (h7:0<size)
  (v:Value) (k:Nat) (xs:List Value) (hs:a.eval s=v) (hown:w.ownsRow base e size v k xs) (ad:Addr) (m c:Nat) (news:List Value) (hx:a.eval x=.slice (some ad) m c) (hn:news.length=m * size)
  (hc:∀ j u,news[j]?=some u→w.cell? (ad.add j)=some u) (h1c:∀ u ∈ news,u.oneCell'=true) (b1:k+m≤maxLen) (b2:(k+m) * bytes≤140737488355328) (b3:base≤w.heap.size)
  (hK:∀ v' w',w'.ownsRow base e size v' (k+m) (xs ++ news)→w.grownBy w' v.ownBlock→K (a.put o.dst v') w'):o.wpIn F n P a w K Q:=by
 obtain ⟨v',w',hrun,r1,r2,r3⟩:=run_append_own (P:=P) w base t o.type e i z size bytes h1 h2 h3 h4 h5 h6 h7 v k xs hown ad m c news hn hc h1c b1 b2 b3
 unfold Oper.wpIn
 refine ⟨?_,?_⟩
 ·simp [Oper.about,hop,resolve,Target.leads,Sem.run_pure]
 ·rw [Oper.semAt_plain F _ _ (by rw [hop];intro c hc';cases hc')]
  simp [execOp,hop,resolve,invoke,builtin,hs,hx,hrun,Result.andThen]
  exact hK _ _ r1 r2
def noDefer (o : Oper) : Bool := match o.op with | .defer _ => false | _ => true
theorem noDefer_spec {o : Oper} (h : noDefer o = true) : ∀ c, o.op ≠ .defer c := fun c hc => by simp [noDefer, hc] at h
theorem opIn_round {F : Fence} {l n : Nat} {P : Program} {o : Oper} {a : Act} {w : World} {K : Act → World → Prop} {Q : Exit → Act → World → Prop} (hro : F.round = none) (hd : noDefer o = true) (h : o.wpIn F n P a w K Q) : o.wpIn (F.inRound l) n P a w K Q := by
 unfold Oper.wpIn at *
 refine ⟨h.1,?_⟩
 have h2:=h.2
 rw [hro,Oper.semAt_none] at h2
 rw [Fence.inRound_round,Oper.semAt_some l _ _ (noDefer_spec hd)]
 exact h2
theorem opsIn_round {F : Fence} {l n : Nat} {P : Program} {ops : Array Oper} {K K' : Act → World → Prop} {Q : Exit → Act → World → Prop} (hro : F.round = none) (hd : ops.all noDefer = true) {i : Nat} {a : Act} {w : World} (hK : ∀ a w, K a w → K' a w) (h : wpOpIn F n P ops Q i K a w) : wpOpIn (F.inRound l) n P ops Q i K' a w := by
 have h:=wpOpIn_mono hK h
 unfold wpOpIn at h ⊢
 cases ho:ops[i]? with
 | none=>simp only [ho] at h ⊢;exact h
 | some o =>
  simp only [ho] at h ⊢
  have hn:noDefer o=true:=by
   obtain ⟨hi,e⟩:=Array.getElem?_eq_some_iff.1 ho
   have:=Array.all_eq_true.1 hd i hi
   rw [e] at this;exact this
  split
  ·rename_i hw;rw [if_pos hw] at h;exact opIn_round hro hn h
  ·rename_i hw;rw [if_neg hw] at h;exact h
theorem wpAnyIn_round {F : Fence} {l n : Nat} {P : Program} {md : Region.Mode} {ops : Array Oper} {Q : Exit → Act → World → Prop} (hro : F.round = none) (hd : ops.all noDefer = true) : ∀ (fuel : Nat) (listed : Array Bool) (a : Act) (w : World), wpAnyIn F n P md ops Q fuel listed a w → wpAnyIn (F.inRound l) n P md ops Q fuel listed a w
 | 0,_,_,_,h=>h
 | fuel+1,listed,a,w,h=>⟨h.1,fun i hi=>opsIn_round hro hd (fun a w hh=>wpAnyIn_round hro hd fuel _ a w hh) (h.2 i hi)⟩
theorem addr_add0 (g j : Nat) : (⟨g, 0, none⟩ : Addr).add j = ⟨g, j, none⟩ := by unfold Addr.add; split <;> simp_all
theorem jZb (w : World) (a b c d : Value) (t : TypeId) : ∀ j u, [a, b, c, d][j]? = some u → (w.alloc (.cells #[a, b, c, d] t)).cell? ((⟨w.heap.size, 0, none⟩ : Addr).add j) = some u := by
 intro j u hj
 match j,hj with
 | 0,hj=>simp at hj;subst hj;rw [addr_add0];exact (jA (World.alloc_heap_new w _) 0).trans rfl
 | 1,hj=>simp at hj;subst hj;rw [addr_add0];exact (jA (World.alloc_heap_new w _) 1).trans rfl
 | 2,hj=>simp at hj;subst hj;rw [addr_add0];exact (jA (World.alloc_heap_new w _) 2).trans rfl
 | 3,hj=>simp at hj;subst hj;rw [addr_add0];exact (jA (World.alloc_heap_new w _) 3).trans rfl
 | j+4,hj=>simp at hj
theorem reps_encR (w : World) (base : Nat) (ok : Nat → Prop) : ∀ l : List S48, Reps (k48.M w base ok) 4 l (encR l)
 | []=>Reps.none _ _
 | x :: l=>Reps.c4 (k48_mkM _ _ _ x) (reps_encR w base ok l)
theorem ownsRow_R {W : World} {n₀ D : Nat} {v : Value} {r : List S48} (h : W.ownsRow n₀ 48 4 v r.length (encR r)) (hD : W.heap[D]? = some (.deferred (some []))) : Kd.R k48 48 W n₀ (fun k => k ≠ D) v r := by
 refine ⟨fun k hk e=>?_,encR r,h.weak,reps_encR _ _ _ _⟩
 subst e
 obtain ⟨cells,hc⟩:=jJc h.weak k hk
 rw [hD] at hc;cases hc
structure TbInv (n₀ B1 Bs Bo : Nat) (sv : Value) (A : List S48) (v : Value) (W : World) : Prop where
 b1:Boxed W B1 34 sv
 bS:Boxed W Bs 34 sv
 bO:Boxed W Bo 28 v
 row:W.ownsRow n₀ 48 4 v A.length (encR A)
theorem ownsRow_below {W W' : World} {base : Nat} {e : TypeId} {size : Nat} {v : Value} {k : Nat} {xs : List Value} (h : W.ownsRow base e size v k xs) (hb : Below W.heap.size W W') : W'.ownsRow base e size v k xs := by
 refine ⟨h.1,?_⟩
 rcases h.2 with h0 | ⟨g,cap,cur,hv,hg,hgb,rest⟩
 ·exact .inl h0
 ·exact .inr ⟨g,cap,cur,hv,hg,(hb.block g (Array.getElem?_eq_some_iff.1 hgb).1).trans hgb,rest⟩
theorem TbInv.below {n₀ B1 Bs Bo : Nat} {sv : Value} {A : List S48} {v : Value} {W W' : World} (h : TbInv n₀ B1 Bs Bo sv A v W) (hb : Below W.heap.size W W') : TbInv n₀ B1 Bs Bo sv A v W' :=
 ⟨Boxed.liesL h.b1 hb,Boxed.liesL h.bS hb,Boxed.liesL h.bO hb,ownsRow_below h.row hb⟩
theorem TbInv.app {n₀ B1 Bs Bo : Nat} {sv : Value} {A : List S48} {v v' : Value} {W w1 : World} {tmp : Obj} (h : TbInv n₀ B1 Bs Bo sv A v W) (x : S48) (hn : n₀ ≤ W.heap.size) (hBo : n₀ ≤ Bo) (h1 : B1 ≠ Bo) (hS : Bs ≠ Bo)
  (hown:w1.ownsRow n₀ 48 4 v' (A.length+1) (encR A ++ [.int .i64 x.f0, .int .i64 x.f1, .int .i64 x.f2, .int .i64 x.f3])) (hgrow:(W.alloc tmp).grownBy w1 v.ownBlock) :
  TbInv n₀ B1 Bs Bo sv (A ++ [x]) v' (w1.setCell ⟨Bo,0,none⟩ v')∧Boxed w1 Bo 28 v∧KeepsOthers W (w1.setCell ⟨Bo,0,none⟩ v')∧Below n₀ W (w1.setCell ⟨Bo,0,none⟩ v'):=by
 obtain ⟨k1,k2,k3,k4,k5⟩:=h.bO.appended (by decide) h.row hn hBo hown hgrow
 refine ⟨⟨((h.b1.alloc tmp).kept hgrow (h.b1.not_row (by decide) h.row)).other h1 _,((h.bS.alloc tmp).kept hgrow (h.bS.not_row (by decide) h.row)).other hS _,k2,?_⟩,k1,k4,k5⟩
 rw [encR_snoc,List.length_append,List.length_singleton]
 exact k3
theorem TbInv.keepL {n₀ B1 Bs Bo : Nat} {sv : Value} {A : List S48} {v v' : Value} {W w1 : World} {tmp : Obj} {b : Nat} {vL : Value} {L : List Int} (h : TbInv n₀ B1 Bs Bo sv A v W) (hL : Kd.R (Kd.int .i64) 3 W b (fun _ => True) vL L) (hb1 : Boxed w1 Bo 28 v) (hgrow : (W.alloc tmp).grownBy w1 v.ownBlock) :
  Kd.R (Kd.int .i64) 3 (w1.setCell ⟨Bo,0,none⟩ v') b (fun _=>True) vL L:=by
 have h1:=Kd.jga hL tmp
 have h2:Kd.R (Kd.int .i64) 3 w1 b (fun _=>True) vL L:=by
  refine Kd.jK (Kd.R_move (Kd.jHc h1) (fun k hk=>?_)) (fun _ _=>trivial)
  obtain ⟨_,_,hk,q,hq,cells,hc⟩:=hk
  refine hgrow.block k hk (fun e=>?_)
  obtain ⟨c2,hc2⟩:=jJc (h.row.alloc tmp).weak k e.symm
  rw [hc2] at hc
  injection hc with hc
  injection hc with _ hc
  rcases List.mem_cons.mp hq with rfl | hq
  ·cases hc
  ·cases hq
 exact Kd.R_set h2 hb1 (by decide) 0 v'
theorem jJ.rows_step {p : List S59} {i e : Int} {L : List Int} {m : Nat} {rest : List S48} (hm : m < L.length) (h : jJ.rows p i e (L.drop m) = some rest) :
  0≤rd L (m:Int)∧rd L (m:Int)<(p.length:Int)∧∃ rest2,jJ.rows p i e (L.drop (m+1))=some rest2∧rest=if (jd p (rd L (m:Int))).f1=8 then (⟨wrap64 (i+1),e,rd L (m:Int),(jd p (rd L (m:Int))).f2⟩:S48) :: rest2 else rest2:=by
 have hr:rd L (m:Int)=L[m]:=by simp [rd,List.getD_eq_getElem?_getD,hm]
 rw [List.drop_eq_getElem_cons hm,← hr] at h
 simp only [jJ.rows] at h
 by_cases h0:0≤rd L (m:Int)
 ·rw [if_pos h0] at h
  by_cases h1:rd L (m:Int)<(p.length:Int)
  ·rw [if_pos h1] at h
   obtain ⟨r2,h2,h3⟩:=bzS h
   exact ⟨h0,h1,r2,h2,(Option.some.inj h3).symm⟩
  ·rw [if_neg h1] at h;cases h
 ·rw [if_neg h0] at h;cases h
set_option maxHeartbeats 8000000 in
set_option maxRecDepth 100000 in
theorem jJ.calls (k : Nat) (A0_0 : Option Addr) (c0_0 : Nat) (l0_0 : List (S98)) (A1 : Option Addr) (c1 : Nat) (l1 : List (S59)) (r : List S48) (w : World) (hr0_0 : Kd.C k98 w A0_0 l0_0.length l0_0) (hc0_0 : l0_0.length ≤ c0_0) (hr1 : Kd.C k59 w A1 l1.length l1) (hc1 : l1.length ≤ c1) (h : jJ.f k l0_0 l1 = some r) :
  Calls Try.prog 12 #[.agg #[.slice A0_0 l0_0.length c0_0], .slice A1 l1.length c1] w fun e w'=>∃ v0_:Value,e=.returned v0_∧Kd.R k48 48 w' w.heap.size (fun _=>True) v0_ r∧Below w.heap.size w w':=by
 obtain ⟨v,hv,h⟩:=bzS h
 have hu32:=Try.underlying32
 have hu59:=Try.underlying59
 have hu48:=Try.underlying48
 have B2:Below w.heap.size w ((w.alloc (.cells #[.slice A0_0 l0_0.length c0_0] 32)).alloc (.cells #[.slice A1 l1.length c1] 34)):=((Below.refl _ w).alloc (Nat.le_refl _) _).alloc (by simp) _
 have HV:=am (fun (W:World) (hb:Below w.heap.size w W)=>jw.calls k A0_0 c0_0 l0_0 A1 c1 l1 v W (Kd.jV hr0_0 hb) hc0_0 (Kd.jV hr1 hb) hc1 hv)
 refine (callsIn_wide (n:=8)).1 ?_
 have hro:Fence.wide.round=none:=rfl
 refine callsIn_of_wp_marks Try.func12 rfl trivial ?_ hro
 simp only [Try.ntmps12,List.size_toArray,List.length_cons,List.length_nil,Nat.reduceAdd,Nat.reduceSub,Array.replicate_succ,Array.replicate_zero,List.push_toArray,List.append_toArray,List.nil_append,List.cons_append]
 have b0:=(Boxed.new w 32 (.slice A0_0 l0_0.length c0_0)).alloc (.cells #[.slice A1 l1.length c1] 34)
 have b1:=Boxed.new (w.alloc (.cells #[.slice A0_0 l0_0.length c0_0] 32)) 34 (.slice A1 l1.length c1)
 simp only [World.size_alloc] at b1
 obtain ⟨W2,hW2⟩:∃ W2,(w.alloc (.cells #[.slice A0_0 l0_0.length c0_0] 32)).alloc (.cells #[.slice A1 l1.length c1] 34)=W2:=⟨_,rfl⟩
 have hs2:W2.heap.size=w.heap.size+2:=by rw [← hW2];simp
 rw [hW2] at b0 b1 B2
 have cb0:=b0.cell
 have cb1:=b1.cell
 have hcall:=HV.out W2 B2
 cases v with
 | false =>
  rw [if_neg (by simp)] at h
  obtain rfl:=Option.some.inj h
  gi_wp2_with (refine ⟨trivial,?_⟩;gi_at_call 22;refine (callsIn_wide.2 hcall).mono ?_;rintro e w1 ⟨rfl,hb1⟩)
  refine ⟨.slice none 0 0,?_,_,rfl,Kd.R_nil _ _ _ _ _,B2.trans (hb1.mono (by omega))⟩
  simp [results,Try.f12,go_sem]
 | true =>
  rw [if_pos rfl] at h
  by_cases hlen:l1.length≤1000000
  case neg=>rw [if_neg hlen] at h;cases h
  rw [if_pos hlen] at h
  gi_wp2_with (first |(refine ⟨trivial,?_⟩;gi_at_call 22;refine (callsIn_wide.2 hcall).mono ?_;rintro e w1 ⟨rfl,hb1⟩;have k1:=((Boxed.liesL b1 hb1).alloc (.cells #[] 48)).alloc (.cells #[.slice (some ⟨w1.heap.size,0,none⟩) 0 0] 28);have c1':=Boxed.cell k1) |(refine ⟨trivial,?_⟩;gi_at_call 33;refine (backL_in Fence.wide _ trivial hro _ _ _ _).mono ?_;rintro e w' ⟨rfl,rfl⟩))
  have hs1:w.heap.size+2≤w1.heap.size:=by have:=hb1.size;omega
  have B0:Below w.heap.size w (((w1.alloc (.cells #[] 48)).alloc (.cells #[.slice (some ⟨w1.heap.size,0,none⟩) 0 0] 28)).alloc (.cells #[.slice A1 l1.length c1] 34)) :=
   (((B2.trans (hb1.mono (by omega))).alloc (by omega) _).alloc (by simp;omega) _).alloc (by simp;omega) _
  have d1:=k1.alloc (.cells #[.slice A1 l1.length c1] 34)
  have dO:=(Boxed.new (w1.alloc (.cells #[] 48)) 28 (.slice (some ⟨w1.heap.size,0,none⟩) 0 0)).alloc (.cells #[.slice A1 l1.length c1] 34)
  have dS:=Boxed.new ((w1.alloc (.cells #[] 48)).alloc (.cells #[.slice (some ⟨w1.heap.size,0,none⟩) 0 0] 28)) 34 (.slice A1 l1.length c1)
  have dR:((((w1.alloc (.cells #[] 48)).alloc (.cells #[.slice (some ⟨w1.heap.size,0,none⟩) 0 0] 28)).alloc (.cells #[.slice A1 l1.length c1] 34))).ownsRow w.heap.size 48 4 (.slice (some ⟨w1.heap.size,0,none⟩) 0 0) 0 [] :=
   ((World.ownsRow_lit (base:=w.heap.size) (e:=48) (size:=4) w1 #[] 0 (by omega) (by simp) (by simp)).alloc _).alloc _
  rw [World.size_alloc] at dO
  simp only [World.size_alloc] at dS
  obtain ⟨W0,hW0⟩:∃ W0,((w1.alloc (.cells #[] 48)).alloc (.cells #[.slice (some ⟨w1.heap.size,0,none⟩) 0 0] 28)).alloc (.cells #[.slice A1 l1.length c1] 34)=W0:=⟨_,rfl⟩
  have hs0:W0.heap.size=w1.heap.size+3:=by rw [← hW0];simp
  rw [hW0] at B0 d1 dO dS dR ⊢
  have hWA:=am hW0
  clear hW0
  obtain ⟨ir,hir,hz0,hz1,hz2⟩:=info_parts info48
  have h0:(jJ.row k l1 0 (jd l1 0)).isSome=true∨l1.length=0:=by
   rcases Nat.eq_zero_or_pos l1.length with e | e
   ·exact .inr e
   ·exact .inl (jJ.tb_all _ _ h 0 e)
  have HR:=am (show TbEl.acc (uptoL (TbEl.of k l1 h0) l1.length)=r by
   have:=TbEl.acc_all h0 l1.length r (Nat.le_refl _) h
   simpa [TbEl.acc,uptoL,Function.comp_def] using this)
  have henc:∀ j:Nat,j<l1.length→(fun x:TbEl k l1=>#[Value.int .i64 x.1.1, .agg #[.int .i64 x.1.2.f0, .int .i64 x.1.2.f1, .int .i64 x.1.2.f2, .int .i64 x.1.2.f3]]) (TbEl.of k l1 h0 j)=#[.int .i64 ((l1.length:Int) - 1 - j), .agg #[.int .i64 (jd l1 ((l1.length:Int) - 1 - j)).f0, .int .i64 (jd l1 ((l1.length:Int) - 1 - j)).f1, .int .i64 (jd l1 ((l1.length:Int) - 1 - j)).f2, .int .i64 (jd l1 ((l1.length:Int) - 1 - j)).f3]]:=by
   intro j hj
   have hh:=jJ.tb_all _ _ h (l1.length - 1 - j) (by omega)
   have ei:(l1.length:Int) - 1 - (j:Int)=((l1.length - 1 - j:Nat):Int):=by omega
   rw [← ei] at hh
   simp only [TbEl.of,dif_pos hh]
  clear h hv
  refine wpIn_rangeFunc_ownH hro (by omega) (gf:=68) (lb:=#[.pointer (some ⟨w1.heap.size+2,0,none⟩)]) rfl trivial (enters_of Try.func68 (by kernel_rfl) rfl)
   (encs:=fun x:TbEl k l1=>#[.int .i64 x.1.1, .agg #[.int .i64 x.1.2.f0, .int .i64 x.1.2.f1, .int .i64 x.1.2.f2, .int .i64 x.1.2.f3]]) (Kp:=jec w.heap.size (w1.heap.size+2) (.slice A1 l1.length c1))
   (S:=fun ys=>ys=uptoL (TbEl.of k l1 h0) l1.length) (Sp:=fun pre=>∃ q,q≤l1.length∧pre=uptoL (TbEl.of k l1 h0) q) (N:=l1.length) (w0:=W0)
   (fun l J Jx W hW _ _ hY h0'=>backL1_in Fence.wide _ trivial hro (by omega) l _ A1 c1 l1 w hr1 _ (TbEl.of k l1 h0) henc J Jx hY W (B0.trans (hW.mono B0.size)) (Boxed.liesL dS hW) h0')
   backKeepsL_t (backKeepsL_b (by omega)) (Below.refl _ _) (fun _=>rfl)
   (fun pre W=>((Boxed W (w.heap.size+1) 34 (.slice A1 l1.length c1)∧Boxed W (w1.heap.size+2) 34 (.slice A1 l1.length c1))∧(∃ v,Boxed W (w1.heap.size+1) 28 v∧W.ownsRow w.heap.size 48 4 v (TbEl.acc pre).length (encR (TbEl.acc pre))∧True))∧Below w.heap.size w W)
   (fun _ _ _=>False)
   (OwnFrom.and (OwnFrom.and (OwnFrom.and (Own.from (boxed_own _ _ fun _=>_) _) (Own.from (boxed_own _ _ fun _=>_) _)) (Own.from (holdsRow_own w.heap.size (w1.heap.size+1) 28 48 4 (fun pre=>(TbEl.acc pre).length) (fun pre=>encR (TbEl.acc pre)) (fun _ _=>True)) _)) (ownFrom_below (Nat.le_refl _) (by omega)))
   (fun c=>ownFrom_pure _ _)
   ⟨⟨⟨d1,dS⟩,_,dO,dR,trivial⟩,B0⟩
   (fun x a' W=>∃ Bx,w1.heap.size+2<Bx∧W.heap[Bx]?=some (.cells #[.int .i64 x.1.2.f0, .int .i64 x.1.2.f1, .int .i64 x.1.2.f2, .int .i64 x.1.2.f3] 59 (0,0))∧a'={ tmps:=#[.agg #[.slice A0_0 l0_0.length c0_0], .slice A1 l1.length c1, .pointer (some ⟨w.heap.size,0,none⟩), .pointer (some ⟨w.heap.size+1,0,none⟩), .slice none 0 0, .pointer (some ⟨w1.heap.size+1,0,none⟩), .int .i64 x.1.1, .pointer (some ⟨Bx,0,none⟩),undef,undef,undef,undef, .agg #[.slice A0_0 l0_0.length c0_0], .slice A1 l1.length c1, .bool true, .bool false, .slice (some ⟨w1.heap.size,0,none⟩) 0 0, .slice A1 l1.length c1, .func (.func 68) #[] #[.pointer (some ⟨w1.heap.size+2,0,none⟩)], .int .i64 x.1.1, .agg #[.int .i64 x.1.2.f0, .int .i64 x.1.2.f1, .int .i64 x.1.2.f2, .int .i64 x.1.2.f3],undef,undef,undef,undef,undef,undef,undef,undef,undef,undef,undef,undef,undef,undef,undef,undef,undef,undef,undef,undef,undef,undef,undef,undef,undef,undef,undef,undef,undef,undef,undef,undef,undef,undef,undef,undef,undef,undef,undef,undef,undef,undef,undef,undef,undef,undef,undef,undef,undef,undef,undef,undef,undef,undef],defers:=[] })
   (fun x a' _ X Y row hs hg hr=>by
    obtain ⟨Bx,h1,h2,h3⟩:=hs
    refine ⟨Bx,h1,(hg.block Bx (Array.getElem?_eq_some_iff.1 h2).1 (fun e=>?_)).trans h2,h3⟩
    obtain ⟨o,ho,hc⟩:=(hr Bx e.symm).2
    rw [h2] at ho;cases ho;cases hc)
   ?assign ?body ?done ?stop
  case assign =>
   rintro l pre x W K ⟨⟨⟨i1,iS⟩,vO,iO,iR,_⟩,hB⟩ hK
   gi_wp2
   exact hK _ _ ((KeepsOthers.alloc _ _).from _) ⟨(Below.refl _ W).alloc hB.size _,fun h=>h.alloc _⟩ ⟨⟨⟨i1.alloc _,iS.alloc _⟩,vO,iO.alloc _,iR.alloc _,trivial⟩,hB.alloc hB.size _⟩ ⟨W.heap.size,by have:=iS.lt;omega,World.alloc_heap_new W _,rfl⟩
  case body =>
   rintro l pre ⟨⟨ix,x⟩,hx⟩ a' W hl ⟨rr,hrr⟩ ⟨⟨⟨i1,iS⟩,vO,iO,iR,_⟩,hB⟩ ⟨Bx,hBx,bX,rfl⟩ hlt
   have hx2:(jJ.row k l1 ix x).isSome=true:=hx.resolve_right (by omega)
   obtain ⟨rw_,hrow⟩:=Option.isSome_iff_exists.1 hx2
   have HA1:=am (show TbEl.acc (pre ++ [⟨(ix,x),hx⟩])=TbEl.acc pre ++ rw_ by rw [TbEl.acc_snoc];simp [TbEl.rows,hrow])
   have hA:=am (show (TbEl.acc pre).length≤1000000000000 by have:=TbEl.acc_len pre;omega)
   have J0:=am (show TbInv w.heap.size (w.heap.size+1) (w1.heap.size+2) (w1.heap.size+1) (.slice A1 l1.length c1) (TbEl.acc pre) vO W from ⟨i1,iS,iO,iR⟩)
   have HB:=am hB
   have fin:∀ (v2:Value) (W2:World),TbInv w.heap.size (w.heap.size+1) (w1.heap.size+2) (w1.heap.size+1) (.slice A1 l1.length c1) (TbEl.acc pre ++ rw_) v2 W2→KeepsFrom W0.heap.size W W2→Below w.heap.size W W2→(Boxed W (w1.heap.size+2) 34 (.slice A1 l1.length c1)→Boxed W2 (w1.heap.size+2) 34 (.slice A1 l1.length c1)) →
     KeepsFrom W0.heap.size W W2∧jec w.heap.size (w1.heap.size+2) (.slice A1 l1.length c1) W W2∧(((Boxed W2 (w.heap.size+1) 34 (.slice A1 l1.length c1)∧Boxed W2 (w1.heap.size+2) 34 (.slice A1 l1.length c1))∧(∃ v,Boxed W2 (w1.heap.size+1) 28 v∧W2.ownsRow w.heap.size 48 4 v (TbEl.acc (pre ++ [⟨(ix,x),hx⟩])).length (encR (TbEl.acc (pre ++ [⟨(ix,x),hx⟩])))∧True))∧Below w.heap.size w W2):=by
    intro v2 W2 T hk hb hs
    rw [HA1.out]
    exact ⟨hk,⟨hb,hs⟩,⟨⟨T.b1,T.bS⟩,v2,T.bO,T.row,trivial⟩,HB.out.trans hb⟩
   have FIN:=am fin
   clear fin
   have x0:W.cell? ⟨Bx,0,none⟩=some (.int .i64 x.f0):=(jA bX 0).trans rfl
   have x1:W.cell? ⟨Bx,1,none⟩=some (.int .i64 x.f1):=(jA bX 1).trans rfl
   have x2:W.cell? ⟨Bx,2,none⟩=some (.int .i64 x.f2):=(jA bX 2).trans rfl
   have x3:W.cell? ⟨Bx,3,none⟩=some (.int .i64 x.f3):=(jA bX 3).trans rfl
   have ci1:=i1.cell
   have ciO:=iO.cell
   have fiO:=iO.frozen
   unfold jJ.row at hrow
   obtain ⟨e,he,hrow⟩:=bzS hrow
   have KE:=am (fun (W':World) (hb:Below w.heap.size w W')=>joa.calls k A1 c1 l1 ix e W' (Kd.jV hr1 hb) hc1 he)
   clear he hx2 hl iR i1 iS iO hB
   by_cases k11:x.f1=11
   ·have k11b:(x.f1 == 11)=true:=by simp [k11]
    have k7b:(x.f1 == 7)=false:=by simp [k11]
    by_cases k3:x.f3=1
    ·have k3b:(x.f3 == 1)=true:=by simp [k3]
     rw [if_pos ⟨k11,k3⟩] at hrow
     obtain rfl:=Option.some.inj hrow
     clear hrow
     gi_wp2_with (first |(refine ⟨trivial,?_⟩;gi_at_call 34;refine (CallsIn.inRound l (callsIn_wide.2 (KE.out _ HB.out))).mono ?_;clear KE;rintro e w' ⟨rfl,⟨n0,rfl⟩⟩;have hbd:=am (show Below W.heap.size W (W.drewN n0) from jm (Below.refl _ _) _)) |(gi_at_builtin;refine wpListIn_append_own _ rfl _ _ 28 rfl w.heap.size 48 ir (.agg #[(.int .i64 0),(.int .i64 0),(.int .i64 0),(.int .i64 0)]) 4 32 Try.underlying28 hir hz0 hz1 hz2 rfl (by decide) _ _ _ rfl ((J0.out.below hbd.out).row.alloc _) ⟨W.heap.size,0,none⟩ 1 1 [.int .i64 (wrap64 (ix+1)), .int .i64 e, .int .i64 ix, .int .i64 0] rfl rfl (jZb (W.drewN n0) _ _ _ _ _) (by simp [Value.oneCell']) (by have:=hA.out;simp only [maxLen];omega) (by have:=hA.out;omega) (by have:=HB.out.size;have:=hbd.out.size;simp;omega) ?_;intro v' w3 hown' hgrow _;obtain ⟨g',cap',rfl⟩:=ownsRow_succ hown';have T:=am ((J0.out.below hbd.out).app (⟨wrap64 (ix+1),e,ix,0⟩:S48) (by have:=HB.out.size;have:=hbd.out.size;omega) (by omega) (by omega) (by omega) hown' hgrow);have q1:=T.out.2.1.cell;have q2:=T.out.2.1.frozen;clear hown' hgrow) |(refine ⟨trivial,?_⟩))
     exact FIN.out _ _ T.out.1 ((KeepsFrom.of_belowL hbd.out _).trans (T.out.2.2.1.from _)) ((hbd.out.mono HB.out.size).trans T.out.2.2.2) (fun _=>T.out.1.bS)
    ·have k3b:(x.f3 == 1)=false:=by simpa using k3
     rw [if_neg (fun h=>k3 h.2),if_neg (by omega)] at hrow
     obtain rfl:=Option.some.inj hrow
     clear hrow
     gi_wp2_with (first |(refine ⟨trivial,?_⟩;gi_at_call 34;refine (CallsIn.inRound l (callsIn_wide.2 (KE.out _ HB.out))).mono ?_;clear KE;rintro e w' ⟨rfl,⟨n0,rfl⟩⟩;have hbd:=am (show Below W.heap.size W (W.drewN n0) from jm (Below.refl _ _) _)) |(refine ⟨trivial,?_⟩))
     exact FIN.out _ _ (by rw [List.append_nil];exact J0.out.below hbd.out) (KeepsFrom.of_belowL hbd.out _) (hbd.out.mono HB.out.size) (fun h=>Boxed.liesL h hbd.out)
   ·have k11b:(x.f1 == 11)=false:=by simpa using k11
    by_cases k7:x.f1=7
    ·have k7b:(x.f1 == 7)=true:=by simp [k7]
     rw [if_neg (fun h=>k11 h.1),if_pos k7] at hrow
     obtain ⟨L,hL,hrow⟩:=bzS hrow
     by_cases hLl:L.length≤1000000
     case neg=>rw [if_neg hLl] at hrow;cases hrow
     rw [if_pos hLl] at hrow
     have HRW:=am hrow
     have KT:=am (fun (W':World) (hb:Below w.heap.size w W')=>jca.calls k A1 c1 l1 ix L W' (Kd.jV hr1 hb) hc1 hL)
     clear hrow hL
     gi_wp2_with (first |(refine ⟨trivial,?_⟩;gi_at_call 34;refine (CallsIn.inRound l (callsIn_wide.2 (KE.out _ HB.out))).mono ?_;clear KE;rintro e w' ⟨rfl,⟨n0,rfl⟩⟩;have hbd:=am (show Below W.heap.size W (W.drewN n0) from jm (Below.refl _ _) _)) |(refine ⟨trivial,?_⟩;gi_at_call 35;refine (CallsIn.inRound l (callsIn_wide.2 (KT.out _ (HB.out.trans (hbd.out.mono HB.out.size))))).mono ?_;clear KT;rintro e w4 ⟨vL,rfl,hRL,hb4⟩;obtain ⟨AL,cL,rfl⟩:=Kd.jsa hRL;have hbd4:=am (hbd.out.trans (hb4.mono hbd.out.size));have RL:=am hRL;have ci4:=(Boxed.liesL J0.out.b1 hbd4.out).cell;clear hRL hb4) |(refine ⟨trivial,?_⟩))
     gi_loopw [50] (fun v50 wr=>∃ (m:Nat) (part:List S48) (v:Value),m≤L.length∧v50=.int .i64 m∧jl (∃ rest,jJ.rows l1 ix e (L.drop m)=some rest∧part ++ rest=rw_)∧jl (part.length≤m)∧jl (TbInv w.heap.size (w.heap.size+1) (w1.heap.size+2) (w1.heap.size+1) (.slice A1 l1.length c1) (TbEl.acc pre ++ part) v wr)∧jl (KeepsFrom W0.heap.size W wr)∧jl (Below w.heap.size W wr)∧jl (Kd.R (Kd.int .i64) 3 wr (W.drewN n0).heap.size (fun _=>True) (.slice AL L.length cL) L)) (fun v50 _=>L.length - (intOf v50).toNat)
     case atStart=>exact ⟨0,[],vO,Nat.zero_le _,rfl,⟨rw_,by simpa using HRW.out,rfl⟩,⟨Nat.le_refl _⟩,⟨by rw [List.append_nil];exact J0.out.below hbd4.out⟩,⟨KeepsFrom.of_belowL hbd4.out _⟩,⟨hbd4.out.mono HB.out.size⟩,RL⟩
     case round =>
      obtain ⟨m,part,v,hm,rfl,HRS,HPL,HT,HKF,HBW,HRL⟩:=hrel
      by_cases hlt2:m<L.length
      ·obtain ⟨rest,hr1',hr2'⟩:=HRS.out
       obtain ⟨q0,q1,rest2,hr3,hr4⟩:=jJ.rows_step hlt2 hr1'
       clear HRS hr1'
       have hC:=(Kd.jE HRL.out).2.2
       obtain ⟨adL,rfl,hcL⟩:=Kd.jsb hC (m:Int) (by omega) (by omega)
       rw [Int.toNat_natCast] at hcL
       obtain ⟨qv,hqv⟩:∃ qv,rd L (m:Int)=qv:=⟨_,rfl⟩
       rw [hqv] at q0 q1 hcL hr4
       obtain ⟨adp,rfl,y0,y1,y2,y3⟩:=jza (Kd.jV hr1 (HB.out.trans HBW.out)) qv q0 q1
       replace q0:=ezT q0
       replace q1:=ezT q1
       have cj1:=HT.out.b1.cell
       have cjO:=HT.out.bO.cell
       have fjO:=HT.out.bO.frozen
       clear hC hqv
       by_cases k8:(jd l1 qv).f1=8
       ·rw [if_pos k8] at hr4
        have k8b:((jd l1 qv).f1 == 8)=true:=by simp [k8]
        have HR3:=am (show ∃ rest,jJ.rows l1 ix e (L.drop (m+1))=some rest∧(part ++ [(⟨wrap64 (ix+1),e,qv,(jd l1 qv).f2⟩:S48)]) ++ rest=rw_ from ⟨rest2,hr3,by rw [← hr2',hr4];simp⟩)
        clear hr2' hr3 hr4 k8
        obtain ⟨AP,hAP⟩:∃ AP,TbEl.acc pre ++ part=AP:=⟨_,rfl⟩
        have HLN:=am (show AP.length≤1000001000000 by have:=hA.out;have:=HPL.out;rw [← hAP,List.length_append];omega)
        rw [hAP] at HT
        have HAP:=am hAP
        clear hAP
        have hmx:Try.prog.follows .mixedOrders=true:=by kernel_rfl
        have HTd:=am (HT.out.below (jMc (Below.refl _ wr)))
        have HRLd:=am (Kd.jra HRL.out)
        have HBd:=am (HBW.out.trans (jMc (Below.refl _ wr)))
        gi_wp2
        refine wpIn_region_any (by assumption) ?_
        refine wpAnyIn_round (F:=Fence.wide) (l:=l) rfl (by kernel_rfl) _ _ _ _ ?_
        change wpAnyIn _ _ _ _ _ _ _ _ _ (World.drew _)
        refine wpAnyIn_take (i:=1) (v:=?_) rfl rfl (by kernel_rfl) (by kernel_rfl) (by kernel_rfl) (fun _ _ _ h=>h) ⟨Or.inl ⟨by rfl,?_⟩,fun _=>rfl⟩ ?_
        rotate_left
        ·exact sb
        refine wpAnyIn_take (i:=2) (v:=?_) rfl rfl (by kernel_rfl) (by kernel_rfl) (by kernel_rfl) (fun _ _ _ h=>h) ⟨Or.inl ⟨by rfl,?_⟩,fun _=>rfl⟩ ?_
        rotate_left
        ·exact sb
        refine wpAnyIn_take (i:=3) (v:=?_) rfl rfl (by kernel_rfl) (by kernel_rfl) (by kernel_rfl) (fun _ _ _ h=>h) ⟨Or.inl ⟨by rfl,?_⟩,fun _=>rfl⟩ ?_
        rotate_left
        ·exact sb
        refine wpAnyIn_take (i:=5) (v:=?_) rfl rfl (by kernel_rfl) (by kernel_rfl) (by kernel_rfl) (fun _ _ _ h=>h) ⟨Or.inl ⟨by rfl,?_⟩,fun _=>rfl⟩ ?_
        rotate_left
        ·exact sb
        refine wpAnyIn_ready (rs:=[0,4]) (by kernel_rfl) (by simp) ?_
        refine AllReadyIn.cons rfl (fun K hK=>?_) (AllReadyIn.cons rfl (fun K hK=>?_) AllReadyIn.nil)
        ·go_simp
         refine hK _ _ ?_
         clear hK K
         refine wpAnyIn_ready (rs:=[4]) (by kernel_rfl) (by simp) ?_
         refine AllReadyIn.cons rfl (fun K hK=>?_) AllReadyIn.nil
         go_simp
         refine hK _ _ ?_
         clear hK K
         refine wpAnyIn_take (i:=6) (v:=?_) rfl rfl (by kernel_rfl) (by kernel_rfl) (by kernel_rfl) (fun _ _ _ h=>h) ⟨Or.inl ⟨by rfl,?_⟩,fun _=>rfl⟩ ?_
         rotate_left
         ·exact sb
         refine wpAnyIn_take (i:=7) (v:=?_) rfl rfl (by kernel_rfl) (by kernel_rfl) (by kernel_rfl) (fun _ _ _ h=>h) ⟨Or.inl ⟨by rfl,?_⟩,fun _=>rfl⟩ ?_
         rotate_left
         ·exact sb
         refine wpAnyIn_ready (rs:=[8]) (by kernel_rfl) (by simp) ?_
         refine AllReadyIn.cons rfl (fun K hK=>?_) AllReadyIn.nil
         go_simp
         refine hK _ _ ?_
         clear hK K
         refine wpAnyIn_take (i:=9) (v:=?_) rfl rfl (by kernel_rfl) (by kernel_rfl) (by kernel_rfl) (fun _ _ _ h=>h) ⟨Or.inl ⟨by rfl,?_⟩,fun _=>rfl⟩ ?_
         rotate_left
         ·exact sb
         refine wpAnyIn_ready (rs:=[10]) (by kernel_rfl) (by simp) ?_
         refine AllReadyIn.cons rfl (fun K hK=>?_) AllReadyIn.nil
         go_simp
         refine hK _ _ ?_
         clear hK K
         refine wpAnyIn_ready (rs:=[11]) (by kernel_rfl) (by simp) ?_
         refine AllReadyIn.cons rfl (fun K hK=>?_) AllReadyIn.nil
         refine ite_goal (by rfl) ?_
         refine jTc (wr.drew.alloc (.cells #[.int .i64 (wrap64 (ix+1)), .int .i64 e, .int .i64 qv, .int .i64 (jd l1 qv).f2] 48)) _ _ 28 rfl w.heap.size 48 ir (.agg #[(.int .i64 0),(.int .i64 0),(.int .i64 0),(.int .i64 0)]) 4 32 Try.underlying28 hir hz0 hz1 hz2 rfl (by decide) v _ _ rfl (HTd.out.row.alloc _) ⟨wr.drew.heap.size,0,none⟩ 1 1 [.int .i64 (wrap64 (ix+1)), .int .i64 e, .int .i64 qv, .int .i64 (jd l1 qv).f2] rfl rfl (jZb wr.drew _ _ _ _ _) (by simp [Value.oneCell']) (by have:=HLN.out;simp only [maxLen];omega) (by have:=HLN.out;omega) (by have:=HB.out.size;have:=HBd.out.size;have:=HBW.out.size;simp;omega) ?_
         intro v' w5 hown' hgrow
         refine hK _ _ ?_
         clear hK K
         obtain ⟨g',cap',rfl⟩:=ownsRow_succ hown'
         have T:=am (HTd.out.app (⟨wrap64 (ix+1),e,qv,(jd l1 qv).f2⟩:S48) (by have:=HB.out.size;have:=HBd.out.size;omega) (by omega) (by omega) (by omega) hown' hgrow)
         have TL:=am (HTd.out.keepL (v':=.slice (some ⟨g',0,none⟩) (AP.length+1) cap') HRLd.out T.out.2.1 hgrow)
         have q3:=T.out.2.1.cell
         have q4:=T.out.2.1.frozen
         clear hown' hgrow
         refine wpAnyIn_ready (rs:=[12]) (by kernel_rfl) (by simp) ?_
         refine AllReadyIn.cons rfl (fun K hK=>?_) AllReadyIn.nil
         go_simp
         refine hK _ _ ?_
         clear hK K
         refine wpAnyIn_done (by kernel_rfl) ?_ _
         gi_wp2
         go_roundw
         case rel=>exact ⟨m+1,part ++ [(⟨wrap64 (ix+1),e,qv,(jd l1 qv).f2⟩:S48)],_,hlt2,by go_num,HR3,⟨by have:=HPL.out;rw [List.length_append,List.length_singleton];omega⟩,⟨by rw [← List.append_assoc,HAP.out];exact T.out.1⟩,⟨HKF.out.trans (((KeepsOthers.drew wr).trans T.out.2.2.1).from _)⟩,⟨HBd.out.trans T.out.2.2.2⟩,TL⟩
         case measure=>simp [intOf];omega
        ·go_simp
         refine hK _ _ ?_
         clear hK K
         refine wpAnyIn_take (i:=6) (v:=?_) rfl rfl (by kernel_rfl) (by kernel_rfl) (by kernel_rfl) (fun _ _ _ h=>h) ⟨Or.inl ⟨by rfl,?_⟩,fun _=>rfl⟩ ?_
         rotate_left
         ·exact sb
         refine wpAnyIn_take (i:=7) (v:=?_) rfl rfl (by kernel_rfl) (by kernel_rfl) (by kernel_rfl) (fun _ _ _ h=>h) ⟨Or.inl ⟨by rfl,?_⟩,fun _=>rfl⟩ ?_
         rotate_left
         ·exact sb
         refine wpAnyIn_ready (rs:=[0,8]) (by kernel_rfl) (by simp) ?_
         refine AllReadyIn.cons rfl (fun K hK=>?_) (AllReadyIn.cons rfl (fun K hK=>?_) AllReadyIn.nil)
         ·go_simp
          refine hK _ _ ?_
          clear hK K
          refine wpAnyIn_ready (rs:=[8]) (by kernel_rfl) (by simp) ?_
          refine AllReadyIn.cons rfl (fun K hK=>?_) AllReadyIn.nil
          go_simp
          refine hK _ _ ?_
          clear hK K
          refine wpAnyIn_take (i:=9) (v:=?_) rfl rfl (by kernel_rfl) (by kernel_rfl) (by kernel_rfl) (fun _ _ _ h=>h) ⟨Or.inl ⟨by rfl,?_⟩,fun _=>rfl⟩ ?_
          rotate_left
          ·exact sb
          refine wpAnyIn_ready (rs:=[10]) (by kernel_rfl) (by simp) ?_
          refine AllReadyIn.cons rfl (fun K hK=>?_) AllReadyIn.nil
          go_simp
          refine hK _ _ ?_
          clear hK K
          refine wpAnyIn_ready (rs:=[11]) (by kernel_rfl) (by simp) ?_
          refine AllReadyIn.cons rfl (fun K hK=>?_) AllReadyIn.nil
          refine ite_goal (by rfl) ?_
          refine jTc (wr.drew.alloc (.cells #[.int .i64 (wrap64 (ix+1)), .int .i64 e, .int .i64 qv, .int .i64 (jd l1 qv).f2] 48)) _ _ 28 rfl w.heap.size 48 ir (.agg #[(.int .i64 0),(.int .i64 0),(.int .i64 0),(.int .i64 0)]) 4 32 Try.underlying28 hir hz0 hz1 hz2 rfl (by decide) v _ _ rfl (HTd.out.row.alloc _) ⟨wr.drew.heap.size,0,none⟩ 1 1 [.int .i64 (wrap64 (ix+1)), .int .i64 e, .int .i64 qv, .int .i64 (jd l1 qv).f2] rfl rfl (jZb wr.drew _ _ _ _ _) (by simp [Value.oneCell']) (by have:=HLN.out;simp only [maxLen];omega) (by have:=HLN.out;omega) (by have:=HB.out.size;have:=HBd.out.size;have:=HBW.out.size;simp;omega) ?_
          intro v' w5 hown' hgrow
          refine hK _ _ ?_
          clear hK K
          obtain ⟨g',cap',rfl⟩:=ownsRow_succ hown'
          have T:=am (HTd.out.app (⟨wrap64 (ix+1),e,qv,(jd l1 qv).f2⟩:S48) (by have:=HB.out.size;have:=HBd.out.size;omega) (by omega) (by omega) (by omega) hown' hgrow)
          have TL:=am (HTd.out.keepL (v':=.slice (some ⟨g',0,none⟩) (AP.length+1) cap') HRLd.out T.out.2.1 hgrow)
          have q3:=T.out.2.1.cell
          have q4:=T.out.2.1.frozen
          clear hown' hgrow
          refine wpAnyIn_ready (rs:=[12]) (by kernel_rfl) (by simp) ?_
          refine AllReadyIn.cons rfl (fun K hK=>?_) AllReadyIn.nil
          go_simp
          refine hK _ _ ?_
          clear hK K
          refine wpAnyIn_done (by kernel_rfl) ?_ _
          gi_wp2
          go_roundw
          case rel=>exact ⟨m+1,part ++ [(⟨wrap64 (ix+1),e,qv,(jd l1 qv).f2⟩:S48)],_,hlt2,by go_num,HR3,⟨by have:=HPL.out;rw [List.length_append,List.length_singleton];omega⟩,⟨by rw [← List.append_assoc,HAP.out];exact T.out.1⟩,⟨HKF.out.trans (((KeepsOthers.drew wr).trans T.out.2.2.1).from _)⟩,⟨HBd.out.trans T.out.2.2.2⟩,TL⟩
          case measure=>simp [intOf];omega
         ·go_simp
          refine hK _ _ ?_
          clear hK K
          refine wpAnyIn_take (i:=9) (v:=?_) rfl rfl (by kernel_rfl) (by kernel_rfl) (by kernel_rfl) (fun _ _ _ h=>h) ⟨Or.inl ⟨by rfl,?_⟩,fun _=>rfl⟩ ?_
          rotate_left
          ·exact sb
          refine wpAnyIn_ready (rs:=[0,10]) (by kernel_rfl) (by simp) ?_
          refine AllReadyIn.cons rfl (fun K hK=>?_) (AllReadyIn.cons rfl (fun K hK=>?_) AllReadyIn.nil)
          ·go_simp
           refine hK _ _ ?_
           clear hK K
           refine wpAnyIn_ready (rs:=[10]) (by kernel_rfl) (by simp) ?_
           refine AllReadyIn.cons rfl (fun K hK=>?_) AllReadyIn.nil
           go_simp
           refine hK _ _ ?_
           clear hK K
           refine wpAnyIn_ready (rs:=[11]) (by kernel_rfl) (by simp) ?_
           refine AllReadyIn.cons rfl (fun K hK=>?_) AllReadyIn.nil
           refine ite_goal (by rfl) ?_
           refine jTc (wr.drew.alloc (.cells #[.int .i64 (wrap64 (ix+1)), .int .i64 e, .int .i64 qv, .int .i64 (jd l1 qv).f2] 48)) _ _ 28 rfl w.heap.size 48 ir (.agg #[(.int .i64 0),(.int .i64 0),(.int .i64 0),(.int .i64 0)]) 4 32 Try.underlying28 hir hz0 hz1 hz2 rfl (by decide) v _ _ rfl (HTd.out.row.alloc _) ⟨wr.drew.heap.size,0,none⟩ 1 1 [.int .i64 (wrap64 (ix+1)), .int .i64 e, .int .i64 qv, .int .i64 (jd l1 qv).f2] rfl rfl (jZb wr.drew _ _ _ _ _) (by simp [Value.oneCell']) (by have:=HLN.out;simp only [maxLen];omega) (by have:=HLN.out;omega) (by have:=HB.out.size;have:=HBd.out.size;have:=HBW.out.size;simp;omega) ?_
           intro v' w5 hown' hgrow
           refine hK _ _ ?_
           clear hK K
           obtain ⟨g',cap',rfl⟩:=ownsRow_succ hown'
           have T:=am (HTd.out.app (⟨wrap64 (ix+1),e,qv,(jd l1 qv).f2⟩:S48) (by have:=HB.out.size;have:=HBd.out.size;omega) (by omega) (by omega) (by omega) hown' hgrow)
           have TL:=am (HTd.out.keepL (v':=.slice (some ⟨g',0,none⟩) (AP.length+1) cap') HRLd.out T.out.2.1 hgrow)
           have q3:=T.out.2.1.cell
           have q4:=T.out.2.1.frozen
           clear hown' hgrow
           refine wpAnyIn_ready (rs:=[12]) (by kernel_rfl) (by simp) ?_
           refine AllReadyIn.cons rfl (fun K hK=>?_) AllReadyIn.nil
           go_simp
           refine hK _ _ ?_
           clear hK K
           refine wpAnyIn_done (by kernel_rfl) ?_ _
           gi_wp2
           go_roundw
           case rel=>exact ⟨m+1,part ++ [(⟨wrap64 (ix+1),e,qv,(jd l1 qv).f2⟩:S48)],_,hlt2,by go_num,HR3,⟨by have:=HPL.out;rw [List.length_append,List.length_singleton];omega⟩,⟨by rw [← List.append_assoc,HAP.out];exact T.out.1⟩,⟨HKF.out.trans (((KeepsOthers.drew wr).trans T.out.2.2.1).from _)⟩,⟨HBd.out.trans T.out.2.2.2⟩,TL⟩
           case measure=>simp [intOf];omega
          ·go_simp
           refine hK _ _ ?_
           clear hK K
           have cjA:((wr.alloc (.cells #[.int .i64 (wrap64 (ix+1)), .int .i64 e, .int .i64 qv, .int .i64 (jd l1 qv).f2] 48)).drew).cell? ⟨w1.heap.size+1,0,none⟩=some v:=(HT.out.bO.alloc _).cell
           refine wpAnyIn_ready (rs:=[0]) (by kernel_rfl) (by simp) ?_
           refine AllReadyIn.cons rfl (fun K hK=>?_) AllReadyIn.nil
           go_simp
           refine hK _ _ ?_
           clear hK K
           refine wpAnyIn_ready (rs:=[11]) (by kernel_rfl) (by simp) ?_
           refine AllReadyIn.cons rfl (fun K hK=>?_) AllReadyIn.nil
           refine ite_goal (by rfl) ?_
           refine jTc (wr.drew.alloc (.cells #[.int .i64 (wrap64 (ix+1)), .int .i64 e, .int .i64 qv, .int .i64 (jd l1 qv).f2] 48)) _ _ 28 rfl w.heap.size 48 ir (.agg #[(.int .i64 0),(.int .i64 0),(.int .i64 0),(.int .i64 0)]) 4 32 Try.underlying28 hir hz0 hz1 hz2 rfl (by decide) v _ _ rfl (HTd.out.row.alloc _) ⟨wr.drew.heap.size,0,none⟩ 1 1 [.int .i64 (wrap64 (ix+1)), .int .i64 e, .int .i64 qv, .int .i64 (jd l1 qv).f2] rfl rfl (jZb wr.drew _ _ _ _ _) (by simp [Value.oneCell']) (by have:=HLN.out;simp only [maxLen];omega) (by have:=HLN.out;omega) (by have:=HB.out.size;have:=HBd.out.size;have:=HBW.out.size;simp;omega) ?_
           intro v' w5 hown' hgrow
           refine hK _ _ ?_
           clear hK K
           obtain ⟨g',cap',rfl⟩:=ownsRow_succ hown'
           have T:=am (HTd.out.app (⟨wrap64 (ix+1),e,qv,(jd l1 qv).f2⟩:S48) (by have:=HB.out.size;have:=HBd.out.size;omega) (by omega) (by omega) (by omega) hown' hgrow)
           have TL:=am (HTd.out.keepL (v':=.slice (some ⟨g',0,none⟩) (AP.length+1) cap') HRLd.out T.out.2.1 hgrow)
           have q3:=T.out.2.1.cell
           have q4:=T.out.2.1.frozen
           clear hown' hgrow
           refine wpAnyIn_ready (rs:=[12]) (by kernel_rfl) (by simp) ?_
           refine AllReadyIn.cons rfl (fun K hK=>?_) AllReadyIn.nil
           go_simp
           refine hK _ _ ?_
           clear hK K
           refine wpAnyIn_done (by kernel_rfl) ?_ _
           gi_wp2
           go_roundw
           case rel=>exact ⟨m+1,part ++ [(⟨wrap64 (ix+1),e,qv,(jd l1 qv).f2⟩:S48)],_,hlt2,by go_num,HR3,⟨by have:=HPL.out;rw [List.length_append,List.length_singleton];omega⟩,⟨by rw [← List.append_assoc,HAP.out];exact T.out.1⟩,⟨HKF.out.trans (((KeepsOthers.drew wr).trans T.out.2.2.1).from _)⟩,⟨HBd.out.trans T.out.2.2.2⟩,TL⟩
           case measure=>simp [intOf];omega
       ·rw [if_neg k8] at hr4
        have k8b:((jd l1 qv).f1 == 8)=false:=by simpa using k8
        have HR3:=am (show ∃ rest,jJ.rows l1 ix e (L.drop (m+1))=some rest∧part ++ rest=rw_ from ⟨rest2,hr3,by rw [← hr2',hr4]⟩)
        clear hr2' hr3 hr4 k8
        gi_wp2
        go_roundw
        case rel=>exact ⟨m+1,part,v,hlt2,by go_num,HR3,⟨by have:=HPL.out;omega⟩,HT,HKF,HBW,HRL⟩
        case measure=>simp [intOf];omega
      ·obtain rfl:m=L.length:=by omega
       obtain ⟨rest,hr1',hr2'⟩:=HRS.out
       rw [List.drop_of_length_le (Nat.le_refl _)] at hr1'
       obtain rfl:=Option.some.inj hr1'
       rw [List.append_nil] at hr2'
       subst hr2'
       gi_wp2
       exact FIN.out _ _ HT.out HKF.out HBW.out (fun _=>HT.out.bS)
    ·have k7b:(x.f1 == 7)=false:=by simpa using k7
     rw [if_neg (fun h=>k11 h.1),if_neg k7] at hrow
     obtain rfl:=Option.some.inj hrow
     clear hrow
     gi_wp2_with (first |(refine ⟨trivial,?_⟩;gi_at_call 34;refine (CallsIn.inRound l (callsIn_wide.2 (KE.out _ HB.out))).mono ?_;clear KE;rintro e w' ⟨rfl,⟨n0,rfl⟩⟩;have hbd:=am (show Below W.heap.size W (W.drewN n0) from jm (Below.refl _ _) _)) |(refine ⟨trivial,?_⟩))
     exact FIN.out _ _ (by rw [List.append_nil];exact J0.out.below hbd.out) (KeepsFrom.of_belowL hbd.out _) (hbd.out.mono HB.out.size) (fun h=>Boxed.liesL h hbd.out)
  case done =>
   rintro D ys W hD rfl ⟨⟨⟨i1,iS⟩,vO,iO,iR,_⟩,hB⟩ hK
   rw [HR.out] at iR
   have HV:=am (ownsRow_R iR hK)
   have HB:=am hB
   have HK:=am hK
   have cO:=iO.cell
   clear iR hB hK i1 iS
   gi_wp2_with (refine ⟨trivial,?_⟩;gi_at_call 36;refine (callsIn_wide.2 (jnc.calls (fun k=>k≠D) vO r r w W HB.out HV.out (show jnc.f r=some r from rfl))).mono ?_;rintro e W2 ⟨v0,rfl,hR,hB2,hKp⟩)
   have hKD:W2.heap[D]?=some (.deferred (some [])):=(hKp.2 D (Array.getElem?_eq_some_iff.1 HK.out).1 (fun h=>h rfl)).trans HK.out
   refine ⟨by simp, .inl ⟨_,_,rfl,run_takeDeferred hKD,?_⟩⟩
   refine ⟨_,results_tmp rfl _ _ _,v0,rfl,Kd.jK (Kd.R_step hR (fun k hk hlt=>(grownBy_putObj' W2 D (.deferred none)).block k hlt (fun e=>?_))) (fun _ _=>trivial),hB2.trans (belowK_b (w:=w) (Nat.le_refl _) W2 D _ _ (by omega) hKD rfl rfl)⟩
   have hDlt:=(Array.getElem?_eq_some_iff.1 HK.out).1
   rcases hk with hk | hk
   ·exact hk (by simpa using e)
   ·have:k=D:=by simpa using e
    omega
  case stop =>
   rintro D c pre W _ _ h _
   exact h.elim
end
def jc (w0 W : World) (g : Nat) (f0 : List Int) (f1 : Int) : Prop := ∃ A0 c0, W.heap[g]? = some (.cells #[.slice A0 f0.length c0, .int .i64 f1] 106 (0, 0)) ∧ w0.heap.size ≤ g ∧ Kd.C (Kd.int .u8) w0 A0 f0.length f0
theorem jc.grown {w0 W : World} {g : Nat} {f0 : List Int} {f1 : Int} {W1 : World} {row : Option Nat} (h : jc w0 W g f0 f1) (hw : W.grownBy W1 row) (hne : some g ≠ row) : jc w0 W1 g f0 f1 := by
 obtain ⟨A0,c0,hb,hg,hr0⟩:=h
 exact ⟨A0,c0,jVa hb hw hne,hg,hr0⟩
theorem jc.kept {w0 W : World} {g : Nat} {f0 : List Int} {f1 : Int} {W1 : World} {S : Nat → Prop} (h : jc w0 W g f0 f1) (hk : Kept W W1 S) (hne : ¬ S g) : jc w0 W1 g f0 f1 := by
 obtain ⟨A0,c0,hb,hg,hr0⟩:=h
 exact ⟨A0,c0,blk_kept hb hk hne,hg,hr0⟩
theorem jc.below {w0 W : World} {g : Nat} {f0 : List Int} {f1 : Int} {W1 : World} (h : jc w0 W g f0 f1) (hw : Below W.heap.size W W1) : jc w0 W1 g f0 f1 := h.grown (grown_of_below hw none) (by simp)
theorem jc.alloc {w0 W : World} {g : Nat} {f0 : List Int} {f1 : Int} (h : jc w0 W g f0 f1) (o : Obj) : jc w0 (W.alloc o) g f0 f1 := h.below (jU (Below.refl _ _) o)
theorem jc.drewN {w0 W : World} {g : Nat} {f0 : List Int} {f1 : Int} (h : jc w0 W g f0 f1) (m : Nat) : jc w0 (W.drewN m) g f0 f1 := h
theorem jc.drew {w0 W : World} {g : Nat} {f0 : List Int} {f1 : Int} (h : jc w0 W g f0 f1) : jc w0 W.drew g f0 f1 := h
theorem jc.at_ {w0 W : World} {g : Nat} {f0 : List Int} {f1 : Int} {w' : World} {m : Nat} (hq : W.drewN m = w') (h : jc w0 W g f0 f1) : jc w0 w' g f0 f1 := by subst hq; exact jc.drewN h m
theorem jc.apart {w0 W : World} {g : Nat} {f0 : List Int} {f1 : Int} {α : Type} {d : Kd α} {e : Nat} {base : Nat} {ok : Nat → Prop} {v : Value} {xs : List α} (h : jc w0 W g f0 f1) (ho : d.R e W base ok v xs) (ht : ∀ q, q ∈ e :: d.E → q ≠ 106) : d.R e W base (fun k => ok k ∧ k ≠ g) v xs := by
 obtain ⟨A0,c0,hb,hg,hr0⟩:=h
 exact Kd.jPa ho hb ht
theorem jc.own_ne {w0 W : World} {g : Nat} {f0 : List Int} {f1 : Int} {α : Type} {d : Kd α} {e : Nat} {base : Nat} {ok : Nat → Prop} {v : Value} {xs : List α} (h : jc w0 W g f0 f1) (ho : d.R e W base ok v xs) (ht : e ≠ 106) : some g ≠ v.ownBlock := by
 obtain ⟨A0,c0,hb,hg,hr0⟩:=h
 exact Kd.R_ne ho hb ht
theorem jc.lt {w0 W : World} {g : Nat} {f0 : List Int} {f1 : Int} (h : jc w0 W g f0 f1) : g < W.heap.size := by
 obtain ⟨A0,c0,hb,hg,hr0⟩:=h
 exact jrb hb
theorem jc.ge {w0 W : World} {g : Nat} {f0 : List Int} {f1 : Int} (h : jc w0 W g f0 f1) : w0.heap.size ≤ g := by
 obtain ⟨A0,c0,hb,hg,hr0⟩:=h
 exact hg
theorem jc.ne_blk {w0 W : World} {g : Nat} {f0 : List Int} {f1 : Int} {a : Nat} {cs : Array Value} {t : TypeId} {fr : Nat × Nat} (h : jc w0 W g f0 f1) (hb2 : W.heap[a]? = some (.cells cs t fr)) (ht : t ≠ 106) : g ≠ a := by
 obtain ⟨A0,c0,hb,hg,hr0⟩:=h
 rintro rfl
 rw [hb] at hb2
 injection hb2 with hb2
 injection hb2 with _ ht2
 exact ht ht2.symm
theorem jc.far {w0 W : World} {g : Nat} {f0 : List Int} {f1 : Int} {p : Addr} (h : jc w0 W g f0 f1) (hne : g ≠ p.block) (u : Value) : jc w0 (W.setCell p u) g f0 f1 := by
 obtain ⟨A0,c0,hb,hg,hr0⟩:=h
 exact ⟨A0,c0,jjb hb hne u,hg,hr0⟩
theorem cellS106_0 {W : World} {g : Nat} {A0 : Option Addr} {c0 : Nat} {f0 : List Int} {f1 : Int} (h : W.heap[g]? = some (.cells #[.slice A0 f0.length c0, .int .i64 f1] 106 (0, 0))) : W.cell? ⟨g, 0, none⟩ = some (.slice A0 f0.length c0) := (jA h 0).trans rfl
theorem cellS106_1 {W : World} {g : Nat} {A0 : Option Addr} {c0 : Nat} {f0 : List Int} {f1 : Int} (h : W.heap[g]? = some (.cells #[.slice A0 f0.length c0, .int .i64 f1] 106 (0, 0))) : W.cell? ⟨g, 1, none⟩ = some (.int .i64 f1) := (jA h 1).trans rfl
theorem jc.jjc {w0 W : World} {g : Nat} {f0 : List Int} {f1 : Int} (h : jc w0 W g f0 f1) (x : Int) : jc w0 (W.setCell ⟨g, 1, none⟩ (.int .i64 x)) g f0 x := by
 obtain ⟨A0,c0,hb,hg,hr0⟩:=h
 exact ⟨A0,c0,by simpa using blk_set hb 1 (.int .i64 x),hg,hr0⟩
theorem jc.new (w0 W : World) (A0 : Option Addr) (c0 : Nat) (f0 : List Int) (f1 : Int) (hB : Below w0.heap.size w0 W) (hr0 : Kd.C (Kd.int .u8) w0 A0 f0.length f0) : jc w0 (W.alloc (.cells #[.slice A0 f0.length c0, .int .i64 f1] 106)) W.heap.size f0 f1 := ⟨A0, c0, by simpa using heap_alloc_new W _, hB.size, hr0⟩
def jf.j0 : Nat → Int → Bool → List Int → Int → Option (Int × Int)
 | 0,_,_,_,_=>none
 | k+1,x1,x24,x1000,x1001=>if x24=true then (some (0,x1001)) else (if (wrap64 (x1001 - 1))<(x1000.length:Int) then (if 0≤(wrap64 (x1001 - 1)) then (if x1=0 then (none) else (some (Int.tmod (wrap64 (rd x1000 (wrap64 (x1001 - 1)))) x1,x1001))) else (none)) else (if (x1000.length:Int)=0 then (none) else (if 0≤(Int.tmod (wrap64 (x1001 - 1)) (x1000.length:Int)) then (if (Int.tmod (wrap64 (x1001 - 1)) (x1000.length:Int))<(x1000.length:Int) then (if 0≤(Int.tmod (wrap64 ((wrap64 ((wrap64 (x1001 - 1)) * 7))+3)) (x1000.length:Int)) then (if (Int.tmod (wrap64 ((wrap64 ((wrap64 (x1001 - 1)) * 7))+3)) (x1000.length:Int))<(x1000.length:Int) then (if x1=0 then (none) else (some (Int.tmod (Go.bits .xor .i64 (wrap64 ((wrap64 ((wrap64 ((wrap64 ((wrap64 (rd x1000 (Int.tmod (wrap64 (x1001 - 1)) (x1000.length:Int)))) * 131))+(wrap64 ((wrap64 (rd x1000 (Int.tmod (wrap64 ((wrap64 ((wrap64 (x1001 - 1)) * 7))+3)) (x1000.length:Int)))) * 1117))))+(wrap64 ((wrap64 (x1001 - 1)) * 29))))+(wrap64 ((wrap64 (Int.tdiv (wrap64 (x1001 - 1)) (x1000.length:Int))) * 53)))) (wrap64 (Int.tdiv (wrap64 ((wrap64 ((wrap64 ((wrap64 ((wrap64 (rd x1000 (Int.tmod (wrap64 (x1001 - 1)) (x1000.length:Int)))) * 131))+(wrap64 ((wrap64 (rd x1000 (Int.tmod (wrap64 ((wrap64 ((wrap64 (x1001 - 1)) * 7))+3)) (x1000.length:Int)))) * 1117))))+(wrap64 ((wrap64 (x1001 - 1)) * 29))))+(wrap64 ((wrap64 (Int.tdiv (wrap64 (x1001 - 1)) (x1000.length:Int))) * 53)))) 64))) x1,x1001))) else (none)) else (none)) else (none)) else (none))))
def jf.f (k : Nat) (s0_0 : List Int) (s0_1 : Int) (a1 : Int) : Option (Int × Int) := if a1 < 1 then (jf.j0 k a1 true s0_0 (wrap64 (s0_1 + 1))) else (jf.j0 k a1 ((s0_0.length : Int) == 0) s0_0 (wrap64 (s0_1 + 1)))
set_option maxHeartbeats 8000000 in
set_option maxRecDepth 100000 in
theorem jf.calls (k : Nat) (g : Nat) (s0_0 : List Int) (s0_1 : Int) (a1 : Int) (r1 : Int) (r2 : Int) (w0 w : World) (hI : jc w0 w g s0_0 s0_1) (hB : Below w0.heap.size w0 w) (h : jf.f k s0_0 s0_1 a1 = some (r1, r2)) :
  Calls Try.prog 55 #[.pointer (some ⟨g,0,none⟩), .int .i64 a1] w fun e w'=>e=.returned (.int .i64 r1)∧jc w0 w' g s0_0 r2∧Below w0.heap.size w0 w'∧jb w w' g none:=by
 have HI0:=am hI
 have HK:=am (jb.refl w g none)
 have HL:=am hB.size
 clear hI
 have HW0:=am hB.size
 have HB:=am hB
 clear hB
 have H:(if a1<1 then (jf.j0 k a1 true s0_0 (wrap64 (s0_1+1))) else (jf.j0 k a1 ((s0_0.length:Int) == 0) s0_0 (wrap64 (s0_1+1))))=some (r1,r2):=h
 clear h
 have HC3:=am H
 clear H
 obtain ⟨ASz4_0,cSz4_0,HGz4,hgz4,HSz4_0⟩:=HI0.out
 have hcz4_0:=cellS106_0 HGz4
 have hcz4_1:=cellS106_1 HGz4
 have hfz4_1:=ja HGz4 1
 clear HGz4 hgz4
 go_enter Try.func55,Try.ntmps55
 go_upto_region 2 with (fail)
 repeat (go_quiet (fail);go_upto_region 2 with (fail))
 go_cut [24] (fun v24 wc=>∃ (kq:Nat) (x24_2:Bool),v24=.bool x24_2∧jl (jf.j0 kq a1 x24_2 s0_0 (wrap64 (s0_1+1))=some (r1,r2))∧jl (kq≤k)∧jl (jc w0 wc g s0_0 (wrap64 (s0_1+1)))∧jl (jb w wc g none)∧jl (Below w0.heap.size w0 wc))
 case first =>
  have H:=HC3.out
  clear HC3
  by_cases c5:a1<1
  ·rw [if_pos c5] at H
   have c5b0:decide (a1<1)=true:=dzT c5
   clear c5
   (first | rw [c5b0] |(simp only [jlb,jmb];rw [c5b0]) | skip)
   have H':=am H
   clear H
   go_wp2
   repeat (go_quiet (fail);try go_wp2)
   go_meet
   case rel=>exact ⟨_,(true),(sq),H',⟨Y42⟩,⟨Y15⟩,⟨Y16⟩,⟨Y17⟩⟩
  ·rw [if_neg c5] at H
   have c5b0:decide (a1<1)=false:=dzF c5
   clear c5
   (first | rw [c5b0] |(simp only [jlb,jmb];rw [c5b0]) | skip)
   have H':=am H
   clear H
   obtain ⟨ASz6_0,cSz6_0,HGz6,hgz6,HSz6_0⟩:=HI0.out
   have hcz6_0:=cellS106_0 HGz6
   have hcz6_1:=cellS106_1 HGz6
   have hfz6_1:=ja HGz6 1
   clear HGz6 hgz6
   go_wp2
   repeat (go_quiet (fail);try go_wp2)
   go_meet
   case rel=>exact ⟨_,(((s0_0.length:Int) == 0)),(sq),H',⟨Y42⟩,⟨Y15⟩,⟨Y16⟩,⟨Y17⟩⟩
 case rest =>
  clear HC3
  try clear p2
  try clear c5
  try clear c5b0
  try clear p6
  try clear hcz4_0
  try clear hcz4_1
  try clear hcz6_0
  try clear hcz6_1
  try clear hfz4_1
  try clear hfz6_1
  obtain ⟨kq,x24_2,rfl,HA,HJ2,HI0,HK,HB⟩:=hcut
  cases kq with
  | zero=>exact absurd HA.out (by simp [jf.j0])
  | succ kj2 =>
   have H:=HA.out
   clear HA
   simp only [jf.j0] at H
   by_cases c7:x24_2=true
   ·subst c7
    have H1:(some (0,(wrap64 (s0_1+1))))=some (r1,r2):=by rw [if_pos rfl] at H;exact H
    clear H
    have H:=H1
    clear H1
    simp only [Option.some.injEq,Prod.mk.injEq] at H
    obtain ⟨rfl,rfl⟩:=H
    go_wp2
    repeat (go_quiet (fail);try go_wp2)
    go_ret
    exact ⟨Y0,Y15,Y17,Y16⟩
   ·replace c7:=Bool.eq_false_iff.mpr c7
    subst c7
    have H1:(if (wrap64 ((wrap64 (s0_1+1)) - 1))<(s0_0.length:Int) then (if 0≤(wrap64 ((wrap64 (s0_1+1)) - 1)) then (if a1=0 then (none) else (some (Int.tmod (wrap64 (rd s0_0 (wrap64 ((wrap64 (s0_1+1)) - 1)))) a1,(wrap64 (s0_1+1))))) else (none)) else (if (s0_0.length:Int)=0 then (none) else (if 0≤(Int.tmod (wrap64 ((wrap64 (s0_1+1)) - 1)) (s0_0.length:Int)) then (if (Int.tmod (wrap64 ((wrap64 (s0_1+1)) - 1)) (s0_0.length:Int))<(s0_0.length:Int) then (if 0≤(Int.tmod (wrap64 ((wrap64 ((wrap64 ((wrap64 (s0_1+1)) - 1)) * 7))+3)) (s0_0.length:Int)) then (if (Int.tmod (wrap64 ((wrap64 ((wrap64 ((wrap64 (s0_1+1)) - 1)) * 7))+3)) (s0_0.length:Int))<(s0_0.length:Int) then (if a1=0 then (none) else (some (Int.tmod (Go.bits .xor .i64 (wrap64 ((wrap64 ((wrap64 ((wrap64 ((wrap64 (rd s0_0 (Int.tmod (wrap64 ((wrap64 (s0_1+1)) - 1)) (s0_0.length:Int)))) * 131))+(wrap64 ((wrap64 (rd s0_0 (Int.tmod (wrap64 ((wrap64 ((wrap64 ((wrap64 (s0_1+1)) - 1)) * 7))+3)) (s0_0.length:Int)))) * 1117))))+(wrap64 ((wrap64 ((wrap64 (s0_1+1)) - 1)) * 29))))+(wrap64 ((wrap64 (Int.tdiv (wrap64 ((wrap64 (s0_1+1)) - 1)) (s0_0.length:Int))) * 53)))) (wrap64 (Int.tdiv (wrap64 ((wrap64 ((wrap64 ((wrap64 ((wrap64 (rd s0_0 (Int.tmod (wrap64 ((wrap64 (s0_1+1)) - 1)) (s0_0.length:Int)))) * 131))+(wrap64 ((wrap64 (rd s0_0 (Int.tmod (wrap64 ((wrap64 ((wrap64 ((wrap64 (s0_1+1)) - 1)) * 7))+3)) (s0_0.length:Int)))) * 1117))))+(wrap64 ((wrap64 ((wrap64 (s0_1+1)) - 1)) * 29))))+(wrap64 ((wrap64 (Int.tdiv (wrap64 ((wrap64 (s0_1+1)) - 1)) (s0_0.length:Int))) * 53)))) 64))) a1,(wrap64 (s0_1+1))))) else (none)) else (none)) else (none)) else (none))))=some (r1,r2):=by rw [if_neg (show ¬ (false=true) by decide)] at H;exact H
    clear H
    have H:=H1
    clear H1
    by_cases c8:(wrap64 ((wrap64 (s0_1+1)) - 1))<(s0_0.length:Int)
    ·rw [if_pos c8] at H
     have c8b0:decide ((wrap64 ((wrap64 (s0_1+1)) - 1))<(s0_0.length:Int))=true:=dzT c8
     clear c8
     obtain ⟨ji9,hji9⟩:∃ j_:Int,(wrap64 ((wrap64 (s0_1+1)) - 1))=j_:=⟨_,rfl⟩
     replace H:(if 0≤(ji9) then (if a1=0 then (none) else (some (Int.tmod (wrap64 (rd s0_0 (ji9))) a1,(wrap64 (s0_1+1))))) else (none))=some (r1,r2):=by first |(rw [hji9] at H;exact H) |(simp only [hji9] at H ⊢;exact H)
     (try rw [hji9] at c8b0)
     have hji9w:(IntKind.i64.wrap ((wrap64 (s0_1+1)) - 1))=ji9:=(jlb _).trans hji9
     by_cases c10:0≤(ji9)
     ·rw [if_pos c10] at H
      have c10b0:decide (0≤(ji9))=true:=dzT c10
      clear c10
      by_cases c11:a1=0
      ·rw [if_pos c11] at H
       exact absurd H (by simp)
      ·rw [if_neg c11] at H
       have c11b0:(a1 == 0)=false:=beq_eq_false_iff_ne.mpr c11
       have c11b1:(a1 != 0)=true:=bne_iff_ne.mpr c11
       simp only [Option.some.injEq,Prod.mk.injEq] at H
       obtain ⟨rfl,rfl⟩:=H
       obtain ⟨ASz12_0,cSz12_0,HGz12,hgz12,HSz12_0⟩:=HI0.out
       have hcz12_0:=cellS106_0 HGz12
       have hcz12_1:=cellS106_1 HGz12
       have hfz12_1:=ja HGz12 1
       clear HGz12 hgz12
       have p364:0≤((ji9):Int):=ozD (uq)
       have q364:(ji9)<(s0_0.length:Int):=ozD (uq)
       obtain ⟨ad364,e364,hx364_0⟩:=Kd.jsb HSz12_0 (ji9) p364 q364
       cases e364
       replace hx364_0:=jua HB.out hx364_0
       replace p364:=ezT p364
       replace q364:=ezT q364
       go_wp2
       repeat (go_quiet (fail);try go_wp2)
       go_ret
       exact ⟨by first | rfl |(simp [jgc,jfc] <;> rfl) |(simp only [← hji9];first | rfl |(simp [jgc,jfc] <;> rfl)) |(simp [*,jgc,jfc] <;> rfl),Y15,Y17,Y16⟩
     ·rw [if_neg c10] at H
      exact absurd H (by simp)
    ·rw [if_neg c8] at H
     have c8b0:decide ((wrap64 ((wrap64 (s0_1+1)) - 1))<(s0_0.length:Int))=false:=dzF c8
     clear c8
     by_cases c13:(s0_0.length:Int)=0
     ·rw [if_pos c13] at H
      exact absurd H (by simp)
     ·rw [if_neg c13] at H
      have c13b0:((s0_0.length:Int) == 0)=false:=beq_eq_false_iff_ne.mpr c13
      have c13b1:((s0_0.length:Int) != 0)=true:=bne_iff_ne.mpr c13
      have c13b2:¬ (s0_0=[]):=fun h_=>c13 (by rw [h_];rfl)
      obtain ⟨ji14,hji14⟩:∃ j_:Int,(Int.tmod (wrap64 ((wrap64 (s0_1+1)) - 1)) (s0_0.length:Int))=j_:=⟨_,rfl⟩
      replace H:(if 0≤(ji14) then (if (ji14)<(s0_0.length:Int) then (if 0≤(Int.tmod (wrap64 ((wrap64 ((wrap64 ((wrap64 (s0_1+1)) - 1)) * 7))+3)) (s0_0.length:Int)) then (if (Int.tmod (wrap64 ((wrap64 ((wrap64 ((wrap64 (s0_1+1)) - 1)) * 7))+3)) (s0_0.length:Int))<(s0_0.length:Int) then (if a1=0 then (none) else (some (Int.tmod (Go.bits .xor .i64 (wrap64 ((wrap64 ((wrap64 ((wrap64 ((wrap64 (rd s0_0 (ji14))) * 131))+(wrap64 ((wrap64 (rd s0_0 (Int.tmod (wrap64 ((wrap64 ((wrap64 ((wrap64 (s0_1+1)) - 1)) * 7))+3)) (s0_0.length:Int)))) * 1117))))+(wrap64 ((wrap64 ((wrap64 (s0_1+1)) - 1)) * 29))))+(wrap64 ((wrap64 (Int.tdiv (wrap64 ((wrap64 (s0_1+1)) - 1)) (s0_0.length:Int))) * 53)))) (wrap64 (Int.tdiv (wrap64 ((wrap64 ((wrap64 ((wrap64 ((wrap64 (rd s0_0 (ji14))) * 131))+(wrap64 ((wrap64 (rd s0_0 (Int.tmod (wrap64 ((wrap64 ((wrap64 ((wrap64 (s0_1+1)) - 1)) * 7))+3)) (s0_0.length:Int)))) * 1117))))+(wrap64 ((wrap64 ((wrap64 (s0_1+1)) - 1)) * 29))))+(wrap64 ((wrap64 (Int.tdiv (wrap64 ((wrap64 (s0_1+1)) - 1)) (s0_0.length:Int))) * 53)))) 64))) a1,(wrap64 (s0_1+1))))) else (none)) else (none)) else (none)) else (none))=some (r1,r2):=by first |(rw [hji14] at H;exact H) |(simp only [hji14] at H ⊢;exact H)
      by_cases c15:0≤(ji14)
      ·rw [if_pos c15] at H
       have c15b0:decide (0≤(ji14))=true:=dzT c15
       clear c15
       by_cases c16:(ji14)<(s0_0.length:Int)
       ·rw [if_pos c16] at H
        have c16b0:decide ((ji14)<(s0_0.length:Int))=true:=dzT c16
        clear c16
        obtain ⟨ji17,hji17⟩:∃ j_:Int,(Int.tmod (wrap64 ((wrap64 ((wrap64 ((wrap64 (s0_1+1)) - 1)) * 7))+3)) (s0_0.length:Int))=j_:=⟨_,rfl⟩
        replace H:(if 0≤(ji17) then (if (ji17)<(s0_0.length:Int) then (if a1=0 then (none) else (some (Int.tmod (Go.bits .xor .i64 (wrap64 ((wrap64 ((wrap64 ((wrap64 ((wrap64 (rd s0_0 (ji14))) * 131))+(wrap64 ((wrap64 (rd s0_0 (ji17))) * 1117))))+(wrap64 ((wrap64 ((wrap64 (s0_1+1)) - 1)) * 29))))+(wrap64 ((wrap64 (Int.tdiv (wrap64 ((wrap64 (s0_1+1)) - 1)) (s0_0.length:Int))) * 53)))) (wrap64 (Int.tdiv (wrap64 ((wrap64 ((wrap64 ((wrap64 ((wrap64 (rd s0_0 (ji14))) * 131))+(wrap64 ((wrap64 (rd s0_0 (ji17))) * 1117))))+(wrap64 ((wrap64 ((wrap64 (s0_1+1)) - 1)) * 29))))+(wrap64 ((wrap64 (Int.tdiv (wrap64 ((wrap64 (s0_1+1)) - 1)) (s0_0.length:Int))) * 53)))) 64))) a1,(wrap64 (s0_1+1))))) else (none)) else (none))=some (r1,r2):=by first |(rw [hji17] at H;exact H) |(simp only [hji17] at H ⊢;exact H)
        by_cases c18:0≤(ji17)
        ·rw [if_pos c18] at H
         have c18b0:decide (0≤(ji17))=true:=dzT c18
         clear c18
         by_cases c19:(ji17)<(s0_0.length:Int)
         ·rw [if_pos c19] at H
          have c19b0:decide ((ji17)<(s0_0.length:Int))=true:=dzT c19
          clear c19
          by_cases c20:a1=0
          ·rw [if_pos c20] at H
           exact absurd H (by simp)
          ·rw [if_neg c20] at H
           have c20b0:(a1 == 0)=false:=beq_eq_false_iff_ne.mpr c20
           have c20b1:(a1 != 0)=true:=bne_iff_ne.mpr c20
           simp only [Option.some.injEq,Prod.mk.injEq] at H
           obtain ⟨rfl,rfl⟩:=H
           obtain ⟨ASz21_0,cSz21_0,HGz21,hgz21,HSz21_0⟩:=HI0.out
           have hcz21_0:=cellS106_0 HGz21
           have hcz21_1:=cellS106_1 HGz21
           have hfz21_1:=ja HGz21 1
           clear HGz21 hgz21
           have p365:0≤((ji14):Int):=ozD (uq)
           have q365:(ji14)<(s0_0.length:Int):=ozD (uq)
           obtain ⟨ad365,e365,hx365_0⟩:=Kd.jsb HSz21_0 (ji14) p365 q365
           cases e365
           replace hx365_0:=jua HB.out hx365_0
           replace p365:=ezT p365
           replace q365:=ezT q365
           have p366:0≤((ji17):Int):=ozD (uq)
           have q366:(ji17)<(s0_0.length:Int):=ozD (uq)
           obtain ⟨ad366,e366,hx366_0⟩:=Kd.jsb HSz21_0 (ji17) p366 q366
           obtain rfl:ad365=ad366:=(by injection e366)
           replace hx366_0:=jua HB.out hx366_0
           replace p366:=ezT p366
           replace q366:=ezT q366
           go_wp2
           repeat (go_quiet (fail);try go_wp2)
           go_ret
           exact ⟨by first | rfl |(simp [jgc,jfc] <;> rfl) |(simp only [← hji14,← hji17];first | rfl |(simp [jgc,jfc] <;> rfl)) |(simp [*,jgc,jfc] <;> rfl),Y15,Y17,Y16⟩
         ·rw [if_neg c19] at H
          exact absurd H (by simp)
        ·rw [if_neg c18] at H
         exact absurd H (by simp)
       ·rw [if_neg c16] at H
        exact absurd H (by simp)
      ·rw [if_neg c15] at H
       exact absurd H (by simp)
def ji.f (k : Nat) (s0_0 : List Int) (s0_1 : Int) (l1 : List Int) : Option (Int × Int) := (jf.f k s0_0 s0_1 (l1.length : Int)).bind fun bt367 => (if 0 ≤ bt367.1 then (if bt367.1 < (l1.length : Int) then (some (rd l1 bt367.1, bt367.2)) else (none)) else (none))
set_option maxHeartbeats 8000000 in
set_option maxRecDepth 100000 in
theorem ji.calls (k : Nat) (g : Nat) (s0_0 : List Int) (s0_1 : Int) (A1 : Option Addr) (c1 : Nat) (l1 : List Int) (r1 : Int) (r2 : Int) (w0 w : World) (hI : jc w0 w g s0_0 s0_1) (hB : Below w0.heap.size w0 w) (hr1 : Kd.C (Kd.int .i64) w A1 l1.length l1) (hc1 : l1.length ≤ c1) (hf1 : ∀ ad, A1 = some ad → 0 < l1.length → ad.block ≠ g) (h : ji.f k s0_0 s0_1 l1 = some (r1, r2)) :
  Calls Try.prog 56 #[.pointer (some ⟨g,0,none⟩), .slice A1 l1.length c1] w fun e w'=>e=.returned (.int .i64 r1)∧jc w0 w' g s0_0 r2∧Below w0.heap.size w0 w'∧jb w w' g none:=by
 have HR1:=am hr1
 have HC1:=am hc1
 clear hr1 hc1
 have HI0:=am hI
 have HK:=am (jb.refl w g none)
 have HL:=am hB.size
 clear hI
 have HW0:=am hB.size
 have HB:=am hB
 clear hB
 have H:((jf.f k s0_0 s0_1 (l1.length:Int)).bind fun bt367=>(if 0≤bt367.1 then (if bt367.1<(l1.length:Int) then (some (rd l1 bt367.1,bt367.2)) else (none)) else (none)))=some (r1,r2):=h
 clear h
 replace H:=bzS H
 obtain ⟨⟨t367,t368⟩,A30,H⟩:=H
 replace H:(if 0≤t367 then (if t367<(l1.length:Int) then (some (rd l1 t367,t368)) else (none)) else (none))=some (r1,r2):=H
 have A3:=am A30
 clear A30
 by_cases c4:0≤t367
 ·rw [if_pos c4] at H
  have c4b0:decide (0≤t367)=true:=dzT c4
  clear c4
  by_cases c5:t367<(l1.length:Int)
  ·rw [if_pos c5] at H
   have c5b0:decide (t367<(l1.length:Int))=true:=dzT c5
   clear c5
   simp only [Option.some.injEq,Prod.mk.injEq] at H
   obtain ⟨rfl,rfl⟩:=H
   go_enter Try.func56,Try.ntmps56
   go_wp2_with (first |((with_reducible refine je (f:=55) rfl ?_);refine gL (some 9) Try.func55 #[.pointer (some ⟨g,0,none⟩), .int .i64 (l1.length:Int)] ?_;(with_reducible refine (jf.calls k g s0_0 s0_1 (l1.length:Int) t367 t368 w0 _ ?side1 ?side2 A3.out).mono ?_);(case side1=>exact Y15);(case side2=>exact Y17);rintro e w6 ⟨rfl,hi,hb,hk⟩;refine ⟨_,rfl,?_⟩;replace HK:=am (jb.trans (Y16) hk (.inl rfl));replace HB:=am (hb);replace HI0:=am (hi);(try clear hb);(try clear hb2);(try clear hk);(try clear hi);have p369:0≤(t367:Int):=ozD (uq);have q369:t367<(l1.length:Int):=ozD (uq);obtain ⟨ad369,e369,hx369_0⟩:=Kd.jsb HR1.out t367 p369 q369;cases e369;replace hx369_0:=keep_cell HK.out hx369_0 (by first |(rw [add_block];exact hf1 _ rfl (by omega)) | exact hf1 _ rfl (by omega) | exact hf1 ad369 rfl (by omega));replace p369:=ezT p369;replace q369:=ezT q369))
   go_ret
   exact ⟨Y0,Y15,Y17,Y16⟩
  ·rw [if_neg c5] at H
   exact absurd H (by simp)
 ·rw [if_neg c4] at H
  exact absurd H (by simp)
end Go.Proofs.Ytbcjbcjpoddkoaa.P
end
