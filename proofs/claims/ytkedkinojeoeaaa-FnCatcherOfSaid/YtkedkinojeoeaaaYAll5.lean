/- One part of the proofs on this program: functions of the program as plain functions, that the code comes to them, and facts on them. -/
import Derived.Test.YtkedkinojeoeaaaYAll1
import Derived.Test.YtkedkinojeoeaaaYAll4
import Derived.Test.YtkedkinojeoeaaaYWAuto
section
namespace Go.Proofs.Ytkedkinojeoeaaa.P
open Go.RowKit Go.Proofs.YtkedkinojeoeaaaW.PrintWords Go.Proofs.YtkedkinojeoeaaaW.PrintLast Go.Proofs.YtkedkinojeoeaaaW.PrintMore
attribute [local go_sem] jta jra jBa jAa jca jba jsa jqa jl
set_option linter.unusedVariables false
set_option linter.unusedSimpArgs false
mutual
def jG.l0 : Nat → List (S75) → Int → Int → List (S75) → Option (Bool)
 | 0,_,_,_,_=>none
 | k+1,x6,x7,x8,x414000=>if x8<x7 then (if 0≤x8 then (if x8<(x6.length:Int) then ((jSa.f k ((jY x6 x8).f0)).bind fun t417=>(if t417=true then ((jcb.f x414000 ((jY x6 x8).f0)).bind fun t418=>(if t418=x8 then (if x8=0 then (if ((jY x6 x8).f1)=(-1) then (if x8 > 0 then ((jP.f ((jY x6 x8).f1) 0 (wrap64 (x8 - 1))).bind fun t419=>(jG.j1 k x6 x7 x8 (!t419) x414000)) else (jG.j1 k x6 x7 x8 false x414000)) else (jG.j1 k x6 x7 x8 true x414000)) else (if x8 > 0 then ((jP.f ((jY x6 x8).f1) 0 (wrap64 (x8 - 1))).bind fun t420=>(jG.j1 k x6 x7 x8 (!t420) x414000)) else (jG.j1 k x6 x7 x8 false x414000))) else (jG.j1 k x6 x7 x8 true x414000))) else (jG.j1 k x6 x7 x8 true x414000))) else (none)) else (none)) else ((jP.f (x414000.length:Int) 1 8).bind fun t414=>(some t414))
def jG.j1 : Nat → List (S75) → Int → Int → Bool → List (S75) → Option (Bool)
 | 0,_,_,_,_,_=>none
 | k+1,x6,x7,x8,x45,x414000=>if x45=true then (some false) else (jG.l0 k x6 x7 (wrap64 (x8+1)) x414000)
end
def jG.f (k : Nat) (l0_0 : List (S75)) : Option (Bool) := jG.l0 k l0_0 (l0_0.length : Int) 0 l0_0
set_option maxHeartbeats 8000000 in
set_option maxRecDepth 100000 in
theorem jG.calls (k : Nat) (A0_0 : Option Addr) (c0_0 : Nat) (l0_0 : List (S75)) (r : Bool) (w : World) (hr0_0 : Kd.C k75 w A0_0 l0_0.length l0_0) (hc0_0 : l0_0.length ≤ c0_0) (h : jG.f k l0_0 = some r) :
  Calls Try.prog 36 #[.agg #[.slice A0_0 l0_0.length c0_0]] w fun e w'=>e=.returned (.bool r)∧Below w.heap.size w w':=by
 have hu25:=Try.underlying25
 have hu75:=Try.underlying75
 have HR0_0:=am hr0_0
 have HC0_0:=am hc0_0
 clear hr0_0 hc0_0
 have HB:=am (Below.refl w.heap.size w)
 have H:(jG.l0 k l0_0 (l0_0.length:Int) 0 l0_0)=some r:=h
 clear h
 have H':=am H
 clear H
 go_enter Try.func36,Try.ntmps36
 go_wp2_with (first |((with_reducible refine jJ (N:=1) rfl ?_);refine bE (N:=1) (cs:=#[.slice A0_0 l0_0.length c0_0]) (t:=25) ?_;intro gb413 hg w2 hbox hb;have BK413:=am (hbox);have GW413:=am ((Y3:w.heap.size≤gb413));have GE413:=am ((Y3:w.heap.size≤gb413));replace HB:=am (je (bq) hb);clear hb hbox hg;have hcz3_0:=bc0 BK413.out;have hfz3_0:=ja BK413.out 0))
 go_loopg [8] k (fun kq v8 w'=>∃ (x8_1:Int),v8=.int .i64 x8_1∧jq (jG.l0 kq l0_0 (l0_0.length:Int) x8_1 l0_0=some r)∧jq (kq≤k)∧jq (w'.heap[gb413]?=some (.cells #[(.slice A0_0 l0_0.length c0_0)] 25 (0,0)))∧jq (Below w.heap.size w w'))
 case atStart=>exact ⟨(0),(sq),H',⟨Nat.le_refl _⟩,⟨kq BK413.out⟩,⟨Y104⟩⟩
 case round =>
  clear H'
  try clear p2
  try clear c3
  try clear hcz3_0
  try clear hfz3_0
  obtain ⟨x8_1,rfl,HA,HK1,BK413,HB⟩:=hrel
  cases gk with
  | zero=>exact absurd HA.out (by simp [jG.l0])
  | succ k1 =>
   have H:=HA.out
   clear HA
   simp only [jG.l0] at H
   by_cases c4:x8_1<(l0_0.length:Int)
   ·rw [if_pos c4] at H
    have c4b0:decide (x8_1<(l0_0.length:Int))=true:=dzT c4
    clear c4
    by_cases c5:0≤x8_1
    ·rw [if_pos c5] at H
     have c5b0:decide (0≤x8_1)=true:=dzT c5
     clear c5
     by_cases c6:x8_1<(l0_0.length:Int)
     ·rw [if_pos c6] at H
      have c6b0:decide (x8_1<(l0_0.length:Int))=true:=dzT c6
      clear c6
      have HC7:=am H
      clear H
      have p415:0≤(x8_1:Int):=ozD (uq)
      have q415:x8_1<(l0_0.length:Int):=ozD (uq)
      obtain ⟨ad415,e415,hx415_0,hx415_1⟩:=at_T75 HR0_0.out x8_1 p415 q415
      cases e415
      replace hx415_0:=cb HB.out hx415_0
      replace hx415_1:=cb HB.out hx415_1
      replace p415:=ezT p415
      replace q415:=ezT q415
      go_upto_region 4 with (first |((with_reducible refine jJ (N:=4) rfl ?_);refine bE (N:=4) (cs:=#[.string (⟨#[]⟩:ByteArray), .int .i64 0]) (t:=75) ?_;intro gb416 hg w8 hbox hb;have BK416:=am (hbox);have GW416:=am ((Y125:w.heap.size≤gb416));have GE416:=am ((Y125:w.heap.size≤gb416));have NB413_416:=am ((by rw [hg];exact Nat.ne_of_lt (jDb (g:=gb413) (o:=.cells #[.slice (some ad415) l0_0.length c0_0] 25 (0,0)) (kq BK413.out)):gb413≠gb416));have NB416_413:=am ((by rw [hg];exact Nat.ne_of_gt (jDb (g:=gb413) (o:=.cells #[.slice (some ad415) l0_0.length c0_0] 25 (0,0)) (kq BK413.out)):gb416≠gb413));replace BK413:=am (jk (g:=gb413) (o:=.cells #[.slice (some ad415) l0_0.length c0_0] 25 (0,0)) (kq BK413.out) hb);replace HB:=am (je (Y104) hb);clear hb hbox hg;have hnb9:=NB416_413.out;have hnc9:=NB413_416.out;have hcz10_0:=bc0 BK416.out;have hcz10_1:=bc1 BK416.out;have hfz10_0:=ja BK416.out 0;have hfz10_1:=ja BK416.out 1))
      (try simp only [Act.put,List.setIfInBounds_toArray,List.set_cons_zero,List.set_cons_succ])
      go_cut [45] (fun v45 wc=>∃ (kq:Nat) (x45_6:Bool),v45=.bool x45_6∧jq (jG.j1 kq l0_0 (l0_0.length:Int) x8_1 x45_6 l0_0=some r)∧jq (kq≤k1)∧jq (wc.heap[gb413]?=some (.cells #[(.slice (some ad415) l0_0.length c0_0)] 25 (0,0)))∧jq (wc.heap[gb416]?=some (.cells #[.string ((jY l0_0 x8_1).f0), .int .i64 ((jY l0_0 x8_1).f1)] 75 (0,0)))∧jq (Below w.heap.size w wc))
      case first =>
       have H:=HC7.out
       clear HC7
       replace H:=bzS H
       obtain ⟨t417,A110,H⟩:=H
       replace H:(if t417=true then ((jcb.f l0_0 ((jY l0_0 x8_1).f0)).bind fun t418=>(if t418=x8_1 then (if x8_1=0 then (if ((jY l0_0 x8_1).f1)=(-1) then (if x8_1 > 0 then ((jP.f ((jY l0_0 x8_1).f1) 0 (wrap64 (x8_1 - 1))).bind fun t419=>(jG.j1 k1 l0_0 (l0_0.length:Int) x8_1 (!t419) l0_0)) else (jG.j1 k1 l0_0 (l0_0.length:Int) x8_1 false l0_0)) else (jG.j1 k1 l0_0 (l0_0.length:Int) x8_1 true l0_0)) else (if x8_1 > 0 then ((jP.f ((jY l0_0 x8_1).f1) 0 (wrap64 (x8_1 - 1))).bind fun t420=>(jG.j1 k1 l0_0 (l0_0.length:Int) x8_1 (!t420) l0_0)) else (jG.j1 k1 l0_0 (l0_0.length:Int) x8_1 false l0_0))) else (jG.j1 k1 l0_0 (l0_0.length:Int) x8_1 true l0_0))) else (jG.j1 k1 l0_0 (l0_0.length:Int) x8_1 true l0_0))=some r:=H
       have A11:=am A110
       clear A110
       by_cases c12:t417=true
       ·subst c12
        have H1:((jcb.f l0_0 ((jY l0_0 x8_1).f0)).bind fun t418=>(if t418=x8_1 then (if x8_1=0 then (if ((jY l0_0 x8_1).f1)=(-1) then (if x8_1 > 0 then ((jP.f ((jY l0_0 x8_1).f1) 0 (wrap64 (x8_1 - 1))).bind fun t419=>(jG.j1 k1 l0_0 (l0_0.length:Int) x8_1 (!t419) l0_0)) else (jG.j1 k1 l0_0 (l0_0.length:Int) x8_1 false l0_0)) else (jG.j1 k1 l0_0 (l0_0.length:Int) x8_1 true l0_0)) else (if x8_1 > 0 then ((jP.f ((jY l0_0 x8_1).f1) 0 (wrap64 (x8_1 - 1))).bind fun t420=>(jG.j1 k1 l0_0 (l0_0.length:Int) x8_1 (!t420) l0_0)) else (jG.j1 k1 l0_0 (l0_0.length:Int) x8_1 false l0_0))) else (jG.j1 k1 l0_0 (l0_0.length:Int) x8_1 true l0_0)))=some r:=by rw [if_pos rfl] at H;exact H
        clear H
        have H:=H1
        clear H1
        replace H:=bzS H
        obtain ⟨t418,A130,H⟩:=H
        replace H:(if t418=x8_1 then (if x8_1=0 then (if ((jY l0_0 x8_1).f1)=(-1) then (if x8_1 > 0 then ((jP.f ((jY l0_0 x8_1).f1) 0 (wrap64 (x8_1 - 1))).bind fun t419=>(jG.j1 k1 l0_0 (l0_0.length:Int) x8_1 (!t419) l0_0)) else (jG.j1 k1 l0_0 (l0_0.length:Int) x8_1 false l0_0)) else (jG.j1 k1 l0_0 (l0_0.length:Int) x8_1 true l0_0)) else (if x8_1 > 0 then ((jP.f ((jY l0_0 x8_1).f1) 0 (wrap64 (x8_1 - 1))).bind fun t420=>(jG.j1 k1 l0_0 (l0_0.length:Int) x8_1 (!t420) l0_0)) else (jG.j1 k1 l0_0 (l0_0.length:Int) x8_1 false l0_0))) else (jG.j1 k1 l0_0 (l0_0.length:Int) x8_1 true l0_0))=some r:=H
        have A13:=am A130
        clear A130
        by_cases c14:t418=x8_1
        ·rw [if_pos c14] at H
         have c14b0:(t418 == x8_1)=true:=beq_iff_eq.mpr c14
         have c14b1:(t418 != x8_1)=false:=bne_eq_false_iff_eq.mpr c14
         clear c14
         (first | rw [c14b0] |(simp only [jkb,jmb];rw [c14b0]) | skip)
         by_cases c15:x8_1=0
         ·rw [if_pos c15] at H
          have c15b0:(x8_1 == 0)=true:=beq_iff_eq.mpr c15
          have c15b1:(x8_1 != 0)=false:=bne_eq_false_iff_eq.mpr c15
          clear c15
          by_cases c16:((jY l0_0 x8_1).f1)=(-1)
          ·rw [if_pos c16] at H
           have c16b0:(((jY l0_0 x8_1).f1) == (-1))=true:=beq_iff_eq.mpr c16
           have c16b1:(((jY l0_0 x8_1).f1) != (-1))=false:=bne_eq_false_iff_eq.mpr c16
           clear c16
           by_cases c17:x8_1 > 0
           ·rw [if_pos c17] at H
            have c17b0:decide (0<x8_1)=true:=dzT c17
            clear c17
            replace H:=bzS H
            obtain ⟨t419,A180,H⟩:=H
            replace H:(jG.j1 k1 l0_0 (l0_0.length:Int) x8_1 (!t419) l0_0)=some r:=H
            have A18:=am A180
            clear A180
            have H':=am H
            clear H
            have hnb19:=NB416_413.out
            have hnc19:=NB413_416.out
            have hcz20_0:=bc0 BK416.out
            have hcz20_1:=bc1 BK416.out
            have hfz20_0:=ja BK416.out 0
            have hfz20_1:=ja BK416.out 1
            go_wp2_with (first |((with_reducible refine jd (f:=63) rfl ?_);refine gL (some 15) Try.func63 #[.string ((jY l0_0 x8_1).f0)] ?_;(with_reducible refine (jSa.calls k1 ((jY l0_0 x8_1).f0) true _ A11.out).mono ?_);rintro e w' ⟨rfl,⟨nd,rfl⟩⟩;refine ⟨_,rfl,?_⟩;have hcz21_0:=bc0 BK413.out;have hfz21_0:=ja BK413.out 0) |(go_at_call 64;(with_reducible refine (jcb.calls _ _ l0_0 ((jY l0_0 x8_1).f0) t418 _ ?side1 ?side2 A13.out).mono ?_);(case side1=>exact Kd.jT HR0_0.out (Y20));(case side2=>exact HC0_0.out);rintro e w22 ⟨rfl,hb⟩;replace BK413:=am (jk (g:=gb413) (o:=.cells #[.slice (some ad415) l0_0.length c0_0] 25 (0,0)) (Y76) hb);replace BK416:=am (jk (g:=gb416) (o:=.cells #[.string ((jY l0_0 x8_1).f0), .int .i64 ((jY l0_0 x8_1).f1)] 75 (0,0)) (Y77) hb);replace HB:=am (je (Y20) hb);(try clear hb);(try clear hb2);(try clear hk);(try clear hi);have hcz23_0:=bc0 BK416.out;have hcz23_1:=bc1 BK416.out;have hfz23_0:=ja BK416.out 0;have hfz23_1:=ja BK416.out 1) |(go_at_call 38;(with_reducible refine (jP.calls ((jY l0_0 x8_1).f1) 0 (wrap64 (x8_1 - 1)) t419 _ A18.out).mono ?_);rintro e w' ⟨rfl,⟨nd,rfl⟩⟩))
            go_meet
            case rel=>exact ⟨_,(!t419),(sq),H',⟨by have:=HK1.out;first | omega | exact Nat.le_refl _⟩,⟨kq BK413.out⟩,⟨kq BK416.out⟩,⟨Y20⟩⟩
           ·rw [if_neg c17] at H
            have c17b0:decide (0<x8_1)=false:=dzF c17
            clear c17
            have H':=am H
            clear H
            have hnb24:=NB416_413.out
            have hnc24:=NB413_416.out
            have hcz25_0:=bc0 BK416.out
            have hcz25_1:=bc1 BK416.out
            have hfz25_0:=ja BK416.out 0
            have hfz25_1:=ja BK416.out 1
            go_wp2_with (first |((with_reducible refine jd (f:=63) rfl ?_);refine gL (some 15) Try.func63 #[.string ((jY l0_0 x8_1).f0)] ?_;(with_reducible refine (jSa.calls k1 ((jY l0_0 x8_1).f0) true _ A11.out).mono ?_);rintro e w' ⟨rfl,⟨nd,rfl⟩⟩;refine ⟨_,rfl,?_⟩;have hcz26_0:=bc0 BK413.out;have hfz26_0:=ja BK413.out 0) |(go_at_call 64;(with_reducible refine (jcb.calls _ _ l0_0 ((jY l0_0 x8_1).f0) t418 _ ?side1 ?side2 A13.out).mono ?_);(case side1=>exact Kd.jT HR0_0.out (Y20));(case side2=>exact HC0_0.out);rintro e w27 ⟨rfl,hb⟩;replace BK413:=am (jk (g:=gb413) (o:=.cells #[.slice (some ad415) l0_0.length c0_0] 25 (0,0)) (Y76) hb);replace BK416:=am (jk (g:=gb416) (o:=.cells #[.string ((jY l0_0 x8_1).f0), .int .i64 ((jY l0_0 x8_1).f1)] 75 (0,0)) (Y77) hb);replace HB:=am (je (Y20) hb);(try clear hb);(try clear hb2);(try clear hk);(try clear hi);have hcz28_0:=bc0 BK416.out;have hcz28_1:=bc1 BK416.out;have hfz28_0:=ja BK416.out 0;have hfz28_1:=ja BK416.out 1))
            go_meet
            case rel=>exact ⟨_,(false),(sq),H',⟨by have:=HK1.out;first | omega | exact Nat.le_refl _⟩,⟨kq BK413.out⟩,⟨kq BK416.out⟩,⟨Y20⟩⟩
          ·rw [if_neg c16] at H
           have c16b0:(((jY l0_0 x8_1).f1) == (-1))=false:=beq_eq_false_iff_ne.mpr c16
           have c16b1:(((jY l0_0 x8_1).f1) != (-1))=true:=bne_iff_ne.mpr c16
           have H':=am H
           clear H
           have hnb29:=NB416_413.out
           have hnc29:=NB413_416.out
           have hcz30_0:=bc0 BK416.out
           have hcz30_1:=bc1 BK416.out
           have hfz30_0:=ja BK416.out 0
           have hfz30_1:=ja BK416.out 1
           go_wp2_with (first |((with_reducible refine jd (f:=63) rfl ?_);refine gL (some 15) Try.func63 #[.string ((jY l0_0 x8_1).f0)] ?_;(with_reducible refine (jSa.calls k1 ((jY l0_0 x8_1).f0) true _ A11.out).mono ?_);rintro e w' ⟨rfl,⟨nd,rfl⟩⟩;refine ⟨_,rfl,?_⟩;have hcz31_0:=bc0 BK413.out;have hfz31_0:=ja BK413.out 0) |(go_at_call 64;(with_reducible refine (jcb.calls _ _ l0_0 ((jY l0_0 x8_1).f0) t418 _ ?side1 ?side2 A13.out).mono ?_);(case side1=>exact Kd.jT HR0_0.out (Y20));(case side2=>exact HC0_0.out);rintro e w32 ⟨rfl,hb⟩;replace BK413:=am (jk (g:=gb413) (o:=.cells #[.slice (some ad415) l0_0.length c0_0] 25 (0,0)) (Y76) hb);replace BK416:=am (jk (g:=gb416) (o:=.cells #[.string ((jY l0_0 x8_1).f0), .int .i64 ((jY l0_0 x8_1).f1)] 75 (0,0)) (Y77) hb);replace HB:=am (je (Y20) hb);(try clear hb);(try clear hb2);(try clear hk);(try clear hi);have hcz33_0:=bc0 BK416.out;have hcz33_1:=bc1 BK416.out;have hfz33_0:=ja BK416.out 0;have hfz33_1:=ja BK416.out 1))
           go_meet
           case rel=>exact ⟨_,(true),(sq),H',⟨by have:=HK1.out;first | omega | exact Nat.le_refl _⟩,⟨kq BK413.out⟩,⟨kq BK416.out⟩,⟨Y20⟩⟩
         ·rw [if_neg c15] at H
          have c15b0:(x8_1 == 0)=false:=beq_eq_false_iff_ne.mpr c15
          have c15b1:(x8_1 != 0)=true:=bne_iff_ne.mpr c15
          by_cases c34:x8_1 > 0
          ·rw [if_pos c34] at H
           have c34b0:decide (0<x8_1)=true:=dzT c34
           clear c34
           replace H:=bzS H
           obtain ⟨t420,A350,H⟩:=H
           replace H:(jG.j1 k1 l0_0 (l0_0.length:Int) x8_1 (!t420) l0_0)=some r:=H
           have A35:=am A350
           clear A350
           have H':=am H
           clear H
           have hnb36:=NB416_413.out
           have hnc36:=NB413_416.out
           have hcz37_0:=bc0 BK416.out
           have hcz37_1:=bc1 BK416.out
           have hfz37_0:=ja BK416.out 0
           have hfz37_1:=ja BK416.out 1
           go_wp2_with (first |((with_reducible refine jd (f:=63) rfl ?_);refine gL (some 15) Try.func63 #[.string ((jY l0_0 x8_1).f0)] ?_;(with_reducible refine (jSa.calls k1 ((jY l0_0 x8_1).f0) true _ A11.out).mono ?_);rintro e w' ⟨rfl,⟨nd,rfl⟩⟩;refine ⟨_,rfl,?_⟩;have hcz38_0:=bc0 BK413.out;have hfz38_0:=ja BK413.out 0) |(go_at_call 64;(with_reducible refine (jcb.calls _ _ l0_0 ((jY l0_0 x8_1).f0) t418 _ ?side1 ?side2 A13.out).mono ?_);(case side1=>exact Kd.jT HR0_0.out (Y20));(case side2=>exact HC0_0.out);rintro e w39 ⟨rfl,hb⟩;replace BK413:=am (jk (g:=gb413) (o:=.cells #[.slice (some ad415) l0_0.length c0_0] 25 (0,0)) (Y76) hb);replace BK416:=am (jk (g:=gb416) (o:=.cells #[.string ((jY l0_0 x8_1).f0), .int .i64 ((jY l0_0 x8_1).f1)] 75 (0,0)) (Y77) hb);replace HB:=am (je (Y20) hb);(try clear hb);(try clear hb2);(try clear hk);(try clear hi);have hcz40_0:=bc0 BK416.out;have hcz40_1:=bc1 BK416.out;have hfz40_0:=ja BK416.out 0;have hfz40_1:=ja BK416.out 1) |(go_at_call 38;(with_reducible refine (jP.calls ((jY l0_0 x8_1).f1) 0 (wrap64 (x8_1 - 1)) t420 _ A35.out).mono ?_);rintro e w' ⟨rfl,⟨nd,rfl⟩⟩))
           go_meet
           case rel=>exact ⟨_,(!t420),(sq),H',⟨by have:=HK1.out;first | omega | exact Nat.le_refl _⟩,⟨kq BK413.out⟩,⟨kq BK416.out⟩,⟨Y20⟩⟩
          ·rw [if_neg c34] at H
           have c34b0:decide (0<x8_1)=false:=dzF c34
           clear c34
           have H':=am H
           clear H
           have hnb41:=NB416_413.out
           have hnc41:=NB413_416.out
           have hcz42_0:=bc0 BK416.out
           have hcz42_1:=bc1 BK416.out
           have hfz42_0:=ja BK416.out 0
           have hfz42_1:=ja BK416.out 1
           go_wp2_with (first |((with_reducible refine jd (f:=63) rfl ?_);refine gL (some 15) Try.func63 #[.string ((jY l0_0 x8_1).f0)] ?_;(with_reducible refine (jSa.calls k1 ((jY l0_0 x8_1).f0) true _ A11.out).mono ?_);rintro e w' ⟨rfl,⟨nd,rfl⟩⟩;refine ⟨_,rfl,?_⟩;have hcz43_0:=bc0 BK413.out;have hfz43_0:=ja BK413.out 0) |(go_at_call 64;(with_reducible refine (jcb.calls _ _ l0_0 ((jY l0_0 x8_1).f0) t418 _ ?side1 ?side2 A13.out).mono ?_);(case side1=>exact Kd.jT HR0_0.out (Y20));(case side2=>exact HC0_0.out);rintro e w44 ⟨rfl,hb⟩;replace BK413:=am (jk (g:=gb413) (o:=.cells #[.slice (some ad415) l0_0.length c0_0] 25 (0,0)) (Y76) hb);replace BK416:=am (jk (g:=gb416) (o:=.cells #[.string ((jY l0_0 x8_1).f0), .int .i64 ((jY l0_0 x8_1).f1)] 75 (0,0)) (Y77) hb);replace HB:=am (je (Y20) hb);(try clear hb);(try clear hb2);(try clear hk);(try clear hi)))
           go_meet
           case rel=>exact ⟨_,(false),(sq),H',⟨by have:=HK1.out;first | omega | exact Nat.le_refl _⟩,⟨kq BK413.out⟩,⟨kq BK416.out⟩,⟨Y20⟩⟩
        ·rw [if_neg c14] at H
         have c14b0:(t418 == x8_1)=false:=beq_eq_false_iff_ne.mpr c14
         have c14b1:(t418 != x8_1)=true:=bne_iff_ne.mpr c14
         (first | rw [c14b0] |(simp only [jkb,jmb];rw [c14b0]) | skip)
         have H':=am H
         clear H
         have hnb45:=NB416_413.out
         have hnc45:=NB413_416.out
         have hcz46_0:=bc0 BK416.out
         have hcz46_1:=bc1 BK416.out
         have hfz46_0:=ja BK416.out 0
         have hfz46_1:=ja BK416.out 1
         go_wp2_with (first |((with_reducible refine jd (f:=63) rfl ?_);refine gL (some 15) Try.func63 #[.string ((jY l0_0 x8_1).f0)] ?_;(with_reducible refine (jSa.calls k1 ((jY l0_0 x8_1).f0) true _ A11.out).mono ?_);rintro e w' ⟨rfl,⟨nd,rfl⟩⟩;refine ⟨_,rfl,?_⟩;have hcz47_0:=bc0 BK413.out;have hfz47_0:=ja BK413.out 0) |(go_at_call 64;(with_reducible refine (jcb.calls _ _ l0_0 ((jY l0_0 x8_1).f0) t418 _ ?side1 ?side2 A13.out).mono ?_);(case side1=>exact Kd.jT HR0_0.out (Y20));(case side2=>exact HC0_0.out);rintro e w48 ⟨rfl,hb⟩;replace BK413:=am (jk (g:=gb413) (o:=.cells #[.slice (some ad415) l0_0.length c0_0] 25 (0,0)) (Y76) hb);replace BK416:=am (jk (g:=gb416) (o:=.cells #[.string ((jY l0_0 x8_1).f0), .int .i64 ((jY l0_0 x8_1).f1)] 75 (0,0)) (Y77) hb);replace HB:=am (je (Y20) hb);(try clear hb);(try clear hb2);(try clear hk);(try clear hi)))
         go_meet
         case rel=>exact ⟨_,(true),(sq),H',⟨by have:=HK1.out;first | omega | exact Nat.le_refl _⟩,⟨kq BK413.out⟩,⟨kq BK416.out⟩,⟨Y20⟩⟩
       ·replace c12:=Bool.eq_false_iff.mpr c12
        subst c12
        have H1:(jG.j1 k1 l0_0 (l0_0.length:Int) x8_1 true l0_0)=some r:=by rw [if_neg (show ¬ (false=true) by decide)] at H;exact H
        clear H
        have H:=H1
        clear H1
        have H':=am H
        clear H
        have hnb49:=NB416_413.out
        have hnc49:=NB413_416.out
        have hcz50_0:=bc0 BK416.out
        have hcz50_1:=bc1 BK416.out
        have hfz50_0:=ja BK416.out 0
        have hfz50_1:=ja BK416.out 1
        go_wp2_with (first |((with_reducible refine jd (f:=63) rfl ?_);refine gL (some 15) Try.func63 #[.string ((jY l0_0 x8_1).f0)] ?_;(with_reducible refine (jSa.calls k1 ((jY l0_0 x8_1).f0) false _ A11.out).mono ?_);rintro e w' ⟨rfl,⟨nd,rfl⟩⟩;refine ⟨_,rfl,?_⟩))
        go_meet
        case rel=>exact ⟨_,(true),(sq),H',⟨by have:=HK1.out;first | omega | exact Nat.le_refl _⟩,⟨by (with_reducible repeat (first | refine jr ?_ _ | refine jw ?_ | refine jA ?_ _));refine jnb ?_ NB413_416.out _;(with_reducible repeat (first | refine jr ?_ _ | refine jw ?_ | refine jA ?_ _));refine jnb ?_ NB413_416.out _;(with_reducible repeat (first | refine jr ?_ _ | refine jw ?_ | refine jA ?_ _));exact BK413.out⟩,⟨by (with_reducible repeat (first | refine jr ?_ _ | refine jw ?_ | refine jA ?_ _));refine jab (cs:=#[.string ((jY l0_0 x8_1).f0), .int .i64 0]) ?_ 1 _ rfl;(with_reducible repeat (first | refine jr ?_ _ | refine jw ?_ | refine jA ?_ _));refine jab (cs:=#[.string (⟨#[]⟩:ByteArray), .int .i64 0]) ?_ 0 _ rfl;(with_reducible repeat (first | refine jr ?_ _ | refine jw ?_ | refine jA ?_ _));exact BK416.out⟩,⟨Y20⟩⟩
      case rest =>
       clear HC7
       try clear c1
       try clear c2
       try clear p2
       try clear c3
       try clear c4
       try clear c4b0
       try clear p4
       try clear q4
       try clear hx4
       try clear c5
       try clear c5b0
       try clear c6
       try clear c6b0
       try clear p6
       try clear c9
       try clear c12
       try clear c14
       try clear c14b0
       try clear c14b1
       try clear c15
       try clear c15b0
       try clear c15b1
       try clear c16
       try clear c16b0
       try clear c16b1
       try clear c17
       try clear c17b0
       try clear c19
       try clear c24
       try clear c29
       try clear c34
       try clear c34b0
       try clear c36
       try clear c41
       try clear p41
       try clear q41
       try clear hx41
       try clear c45
       try clear c49
       try clear hcz10_0
       try clear hcz10_1
       try clear hcz20_0
       try clear hcz20_1
       try clear hcz21_0
       try clear hcz23_0
       try clear hcz23_1
       try clear hcz25_0
       try clear hcz25_1
       try clear hcz26_0
       try clear hcz28_0
       try clear hcz28_1
       try clear hcz30_0
       try clear hcz30_1
       try clear hcz31_0
       try clear hcz33_0
       try clear hcz33_1
       try clear hcz37_0
       try clear hcz37_1
       try clear hcz38_0
       try clear hcz3_0
       try clear hcz40_0
       try clear hcz40_1
       try clear hcz42_0
       try clear hcz42_1
       try clear hcz43_0
       try clear hcz46_0
       try clear hcz46_1
       try clear hcz47_0
       try clear hcz50_0
       try clear hcz50_1
       try clear hfz10_0
       try clear hfz10_1
       try clear hfz20_0
       try clear hfz20_1
       try clear hfz21_0
       try clear hfz23_0
       try clear hfz23_1
       try clear hfz25_0
       try clear hfz25_1
       try clear hfz26_0
       try clear hfz28_0
       try clear hfz28_1
       try clear hfz30_0
       try clear hfz30_1
       try clear hfz31_0
       try clear hfz33_0
       try clear hfz33_1
       try clear hfz37_0
       try clear hfz37_1
       try clear hfz38_0
       try clear hfz3_0
       try clear hfz40_0
       try clear hfz40_1
       try clear hfz42_0
       try clear hfz42_1
       try clear hfz43_0
       try clear hfz46_0
       try clear hfz46_1
       try clear hfz47_0
       try clear hfz50_0
       try clear hfz50_1
       try clear hx415_0
       try clear hx415_1
       try clear p2
       try clear p415
       try clear q415
       obtain ⟨kq,x45_6,rfl,HA,HJ6,BK413,BK416,HB⟩:=hcut
       cases kq with
       | zero=>exact absurd HA.out (by simp [jG.j1])
       | succ kj6 =>
        have H:=HA.out
        clear HA
        simp only [jG.j1] at H
        by_cases c51:x45_6=true
        ·subst c51
         have H1:(some false)=some r:=by rw [if_pos rfl] at H;exact H
         clear H
         have H:=H1
         clear H1
         obtain rfl:=Option.some.inj H
         go_wp2
         go_ret
         exact ⟨Y0,Y20⟩
        ·replace c51:=Bool.eq_false_iff.mpr c51
         subst c51
         have H1:(jG.l0 kj6 l0_0 (l0_0.length:Int) (wrap64 (x8_1+1)) l0_0)=some r:=by rw [if_neg (show ¬ (false=true) by decide)] at H;exact H
         clear H
         have H:=H1
         clear H1
         have H':=am H
         clear H
         go_wp2
         go_roundg kj6
         case measure=>have:=HK1.out;have:=HJ6.out;omega
         case rel=>exact ⟨(wrap64 (x8_1+1)),(sq),H',⟨by have:=HK1.out;have:=HJ6.out;omega⟩,⟨kq BK413.out⟩,⟨Y20⟩⟩
     ·rw [if_neg c6] at H
      exact absurd H (by simp)
    ·rw [if_neg c5] at H
     exact absurd H (by simp)
   ·rw [if_neg c4] at H
    have c4b0:decide (x8_1<(l0_0.length:Int))=false:=dzF c4
    clear c4
    replace H:=bzS H
    obtain ⟨t414,A520,H⟩:=H
    replace H:(some t414)=some r:=H
    have A52:=am A520
    clear A520
    obtain rfl:=Option.some.inj H
    have hcz53_0:=bc0 BK413.out
    have hfz53_0:=ja BK413.out 0
    go_wp2_with (first |((with_reducible refine jd (f:=38) rfl ?_);refine gL (some 50) Try.func38 #[.int .i64 (l0_0.length:Int), .int .i64 1, .int .i64 8] ?_;(with_reducible refine (jP.calls (l0_0.length:Int) 1 8 t414 _ A52.out).mono ?_);rintro e w' ⟨rfl,⟨nd,rfl⟩⟩;refine ⟨_,rfl,?_⟩))
    go_ret
    exact ⟨Y0,Y104⟩
def jGa.f (l0_0 : List (S75)) (a1 : Int) : Option (Bool) := (jP.f a1 0 (wrap64 ((l0_0.length : Int) - 1))).bind fun t422 => (some t422)
set_option maxHeartbeats 8000000 in
set_option maxRecDepth 100000 in
theorem jGa.calls (A0_0 : Option Addr) (c0_0 : Nat) (l0_0 : List (S75)) (a1 : Int) (r : Bool) (w : World) (hr0_0 : Kd.C k75 w A0_0 l0_0.length l0_0) (hc0_0 : l0_0.length ≤ c0_0) (h : jGa.f l0_0 a1 = some r) :
  Calls Try.prog 48 #[.agg #[.slice A0_0 l0_0.length c0_0], .int .i64 a1] w fun e w'=>e=.returned (.bool r)∧Below w.heap.size w w':=by
 have hu25:=Try.underlying25
 have HR0_0:=am hr0_0
 have HC0_0:=am hc0_0
 clear hr0_0 hc0_0
 have HB:=am (Below.refl w.heap.size w)
 have H:((jP.f a1 0 (wrap64 ((l0_0.length:Int) - 1))).bind fun t422=>(some t422))=some r:=h
 clear h
 replace H:=bzS H
 obtain ⟨t422,A30,H⟩:=H
 replace H:(some t422)=some r:=H
 have A3:=am A30
 clear A30
 obtain rfl:=Option.some.inj H
 go_enter Try.func48,Try.ntmps48
 go_wp2_with (first |((with_reducible refine jJ (N:=2) rfl ?_);refine bE (N:=2) (cs:=#[.slice A0_0 l0_0.length c0_0]) (t:=25) ?_;intro gb421 hg w4 hbox hb;have BK421:=am (hbox);have GW421:=am ((Y3:w.heap.size≤gb421));have GE421:=am ((Y3:w.heap.size≤gb421));replace HB:=am (je (bq) hb);clear hb hbox hg;have hcz5_0:=bc0 BK421.out;have hfz5_0:=ja BK421.out 0) |((with_reducible refine jd (f:=38) rfl ?_);refine gL (some 10) Try.func38 #[.int .i64 a1, .int .i64 0, .int .i64 (wrap64 ((l0_0.length:Int) - 1))] ?_;(with_reducible refine (jP.calls a1 0 (wrap64 ((l0_0.length:Int) - 1)) t422 _ A3.out).mono ?_);rintro e w' ⟨rfl,⟨nd,rfl⟩⟩;refine ⟨_,rfl,?_⟩))
 go_ret
 exact ⟨Y0,by repeat (first |(with_reducible first | exact HB.out | apply jL | apply jm | apply jE | refine jK ?_ GE421.out) | exact HB.out)⟩
def jxb.f (a0 : Int) : Option (Bool) := (jP.f a0 0 99).bind fun t423 => (some t423)
set_option maxHeartbeats 8000000 in
set_option maxRecDepth 100000 in
theorem jxb.calls (a0 : Int) (r : Bool) (w : World) (h : jxb.f a0 = some r) :
  Calls Try.prog 65 #[.int .i64 a0] w fun e w'=>e=.returned (.bool r)∧jsb w w':=by
 have H:((jP.f a0 0 99).bind fun t423=>(some t423))=some r:=h
 clear h
 replace H:=bzS H
 obtain ⟨t423,A20,H⟩:=H
 replace H:(some t423)=some r:=H
 have A2:=am A20
 clear A20
 obtain rfl:=Option.some.inj H
 go_enter Try.func65,Try.ntmps65
 go_wp2_with (first |((with_reducible refine jd (f:=38) rfl ?_);refine gL (some 4) Try.func38 #[.int .i64 a0, .int .i64 0, .int .i64 99] ?_;(with_reducible refine (jP.calls a0 0 99 t423 _ A2.out).mono ?_);rintro e w' ⟨rfl,⟨nd,rfl⟩⟩;refine ⟨_,rfl,?_⟩))
 go_ret
 exact ⟨sq,Y7⟩
def jFa.j0 : Nat → Int → Bool → Int → Int → Int → Int → List (S75) → Option (Bool)
 | 0,_,_,_,_,_,_,_=>none
 | k+1,x6,x7,x425000,x425001,x425002,x425003,x426000=>if x7=true then ((jxb.f x425002).bind fun t426=>(if t426=true then (some (x425003 == 0)) else (some false))) else (if x6=2 then ((jGa.f x426000 x425002).bind fun t427=>(if t427=true then ((jxb.f x425003).bind fun t428=>(some t428)) else (some false))) else (if x6=8 then ((jGa.f x426000 x425002).bind fun t429=>(if t429=true then (some (x425003 == 0)) else (some false))) else (if x6=11 then ((jP.f x425002 0 9).bind fun t430=>(if t430=true then ((jP.f x425003 0 1).bind fun t431=>(some t431)) else (some false))) else (if x6=12 then ((jP.f x425002 0 3).bind fun t432=>(if t432=true then (some (x425003 == 0)) else (some false))) else ((jP.f x425001 0 12).bind fun t433=>(if t433=true then (if x425002=0 then (some (x425003 == 0)) else (some false)) else (some false)))))))
def jFa.f (k : Nat) (a0_0 : Int) (a0_1 : Int) (a0_2 : Int) (a0_3 : Int) (l1_0 : List (S75)) : Option (Bool) := if a0_1 = 1 then (jFa.j0 k a0_1 (a0_1 == 1) a0_0 a0_1 a0_2 a0_3 l1_0) else (jFa.j0 k a0_1 (a0_1 == 4) a0_0 a0_1 a0_2 a0_3 l1_0)
set_option maxHeartbeats 8000000 in
set_option maxRecDepth 100000 in
theorem jFa.calls (k : Nat) (a0_0 : Int) (a0_1 : Int) (a0_2 : Int) (a0_3 : Int) (A1_0 : Option Addr) (c1_0 : Nat) (l1_0 : List (S75)) (r : Bool) (w : World) (hr1_0 : Kd.C k75 w A1_0 l1_0.length l1_0) (hc1_0 : l1_0.length ≤ c1_0) (h : jFa.f k a0_0 a0_1 a0_2 a0_3 l1_0 = some r) :
  Calls Try.prog 37 #[.agg #[.int .i64 a0_0, .int .i64 a0_1, .int .i64 a0_2, .int .i64 a0_3], .agg #[.slice A1_0 l1_0.length c1_0]] w fun e w'=>e=.returned (.bool r)∧Below w.heap.size w w':=by
 have hu36:=Try.underlying36
 have hu25:=Try.underlying25
 have HR1_0:=am hr1_0
 have HC1_0:=am hc1_0
 clear hr1_0 hc1_0
 have HB:=am (Below.refl w.heap.size w)
 have H:(if a0_1=1 then (jFa.j0 k a0_1 (a0_1 == 1) a0_0 a0_1 a0_2 a0_3 l1_0) else (jFa.j0 k a0_1 (a0_1 == 4) a0_0 a0_1 a0_2 a0_3 l1_0))=some r:=h
 clear h
 have HC3:=am H
 clear H
 go_enter Try.func37,Try.ntmps37
 go_upto_if 7 with (first |((with_reducible refine jJ (N:=2) rfl ?_);refine bE (N:=2) (cs:=#[.int .i64 a0_0, .int .i64 a0_1, .int .i64 a0_2, .int .i64 a0_3]) (t:=36) ?_;intro gb424 hg w4 hbox hb;have BK424:=am (hbox);have GW424:=am ((Y3:w.heap.size≤gb424));have GE424:=am ((Y3:w.heap.size≤gb424));replace HB:=am (je (bq) hb);clear hb hbox hg) |((with_reducible refine jJ (N:=3) rfl ?_);refine bE (N:=3) (cs:=#[.slice A1_0 l1_0.length c1_0]) (t:=25) ?_;intro gb425 hg w5 hbox hb;have BK425:=am (hbox);have GW425:=am ((Y126:w.heap.size≤gb425));have GE425:=am ((Y126:w.heap.size≤gb425));have NB424_425:=am ((by rw [hg];exact Nat.ne_of_lt (jDb (g:=gb424) (o:=.cells #[.int .i64 a0_0, .int .i64 a0_1, .int .i64 a0_2, .int .i64 a0_3] 36 (0,0)) (kq BK424.out)):gb424≠gb425));have NB425_424:=am ((by rw [hg];exact Nat.ne_of_gt (jDb (g:=gb424) (o:=.cells #[.int .i64 a0_0, .int .i64 a0_1, .int .i64 a0_2, .int .i64 a0_3] 36 (0,0)) (kq BK424.out)):gb425≠gb424));replace BK424:=am (jk (g:=gb424) (o:=.cells #[.int .i64 a0_0, .int .i64 a0_1, .int .i64 a0_2, .int .i64 a0_3] 36 (0,0)) (kq BK424.out) hb);replace HB:=am (je (by repeat (first |(with_reducible first | exact HB.out | apply jL | apply jm | apply jE | refine jK ?_ GE424.out) | exact HB.out)) hb);clear hb hbox hg;have hnb6:=NB424_425.out;have hnc6:=NB425_424.out;have hcz7_0:=bc0 BK424.out;have hcz7_1:=bc1 BK424.out;have hcz7_2:=bc2 BK424.out;have hcz7_3:=bc3 BK424.out;have hfz7_0:=ja BK424.out 0;have hfz7_1:=ja BK424.out 1;have hfz7_2:=ja BK424.out 2;have hfz7_3:=ja BK424.out 3))
 (try simp only [Act.put,List.setIfInBounds_toArray,List.set_cons_zero,List.set_cons_succ])
 go_cut [7] (fun v7 wc=>∃ (kq:Nat) (x7_2:Bool),v7=.bool x7_2∧jq (jFa.j0 kq a0_1 x7_2 a0_0 a0_1 a0_2 a0_3 l1_0=some r)∧jq (kq≤k)∧jq (wc.heap[gb424]?=some (.cells #[.int .i64 a0_0, .int .i64 a0_1, .int .i64 a0_2, .int .i64 a0_3] 36 (0,0)))∧jq (wc.heap[gb425]?=some (.cells #[(.slice A1_0 l1_0.length c1_0)] 25 (0,0)))∧jq (Below w.heap.size w wc))
 case first =>
  have H:=HC3.out
  clear HC3
  by_cases c8:a0_1=1
  ·rw [if_pos c8] at H
   have c8b0:(a0_1 == 1)=true:=beq_iff_eq.mpr c8
   have c8b1:(a0_1 != 1)=false:=bne_eq_false_iff_eq.mpr c8
   clear c8
   (first | rw [c8b0] |(simp only [jkb,jmb];rw [c8b0]) | skip)
   have H':=am H
   clear H
   go_wp2
   go_meet
   case rel=>exact ⟨_,((a0_1 == 1)),(sq),H',⟨Y32⟩,⟨kq BK424.out⟩,⟨kq BK425.out⟩,⟨Y24⟩⟩
  ·rw [if_neg c8] at H
   have c8b0:(a0_1 == 1)=false:=beq_eq_false_iff_ne.mpr c8
   have c8b1:(a0_1 != 1)=true:=bne_iff_ne.mpr c8
   (first | rw [c8b0] |(simp only [jkb,jmb];rw [c8b0]) | skip)
   have H':=am H
   clear H
   go_wp2
   go_meet
   case rel=>exact ⟨_,((a0_1 == 4)),(sq),H',⟨Y32⟩,⟨kq BK424.out⟩,⟨kq BK425.out⟩,⟨Y24⟩⟩
 case rest =>
  clear HC3
  try clear c1
  try clear p2
  try clear c3
  try clear c6
  try clear c8
  try clear c8b0
  try clear c8b1
  try clear hcz7_0
  try clear hcz7_1
  try clear hcz7_2
  try clear hcz7_3
  try clear hfz7_0
  try clear hfz7_1
  try clear hfz7_2
  try clear hfz7_3
  obtain ⟨kq,x7_2,rfl,HA,HJ2,BK424,BK425,HB⟩:=hcut
  cases kq with
  | zero=>exact absurd HA.out (by simp [jFa.j0])
  | succ kj2 =>
   have H:=HA.out
   clear HA
   simp only [jFa.j0] at H
   by_cases c9:x7_2=true
   ·subst c9
    have H1:((jxb.f a0_2).bind fun t426=>(if t426=true then (some (a0_3 == 0)) else (some false)))=some r:=by rw [if_pos rfl] at H;exact H
    clear H
    have H:=H1
    clear H1
    replace H:=bzS H
    obtain ⟨t426,A100,H⟩:=H
    replace H:(if t426=true then (some (a0_3 == 0)) else (some false))=some r:=H
    have A10:=am A100
    clear A100
    by_cases c11:t426=true
    ·subst c11
     have H1:(some (a0_3 == 0))=some r:=by rw [if_pos rfl] at H;exact H
     clear H
     have H:=H1
     clear H1
     obtain rfl:=Option.some.inj H
     have hnb12:=NB424_425.out
     have hnc12:=NB425_424.out
     have hcz13_0:=bc0 BK424.out
     have hcz13_1:=bc1 BK424.out
     have hcz13_2:=bc2 BK424.out
     have hcz13_3:=bc3 BK424.out
     have hfz13_0:=ja BK424.out 0
     have hfz13_1:=ja BK424.out 1
     have hfz13_2:=ja BK424.out 2
     have hfz13_3:=ja BK424.out 3
     go_wp2_with (first |((with_reducible refine jd (f:=65) rfl ?_);refine gL (some 12) Try.func65 #[.int .i64 a0_2] ?_;(with_reducible refine (jxb.calls a0_2 true _ A10.out).mono ?_);rintro e w' ⟨rfl,⟨nd,rfl⟩⟩;refine ⟨_,rfl,?_⟩))
     go_ret
     exact ⟨Y0,Y24⟩
    ·replace c11:=Bool.eq_false_iff.mpr c11
     subst c11
     have H1:(some false)=some r:=by rw [if_neg (show ¬ (false=true) by decide)] at H;exact H
     clear H
     have H:=H1
     clear H1
     obtain rfl:=Option.some.inj H
     have hnb14:=NB424_425.out
     have hnc14:=NB425_424.out
     have hcz15_0:=bc0 BK424.out
     have hcz15_1:=bc1 BK424.out
     have hcz15_2:=bc2 BK424.out
     have hcz15_3:=bc3 BK424.out
     have hfz15_0:=ja BK424.out 0
     have hfz15_1:=ja BK424.out 1
     have hfz15_2:=ja BK424.out 2
     have hfz15_3:=ja BK424.out 3
     go_wp2_with (first |((with_reducible refine jd (f:=65) rfl ?_);refine gL (some 12) Try.func65 #[.int .i64 a0_2] ?_;(with_reducible refine (jxb.calls a0_2 false _ A10.out).mono ?_);rintro e w' ⟨rfl,⟨nd,rfl⟩⟩;refine ⟨_,rfl,?_⟩))
     go_ret
     exact ⟨Y0,Y24⟩
   ·replace c9:=Bool.eq_false_iff.mpr c9
    subst c9
    have H1:(if a0_1=2 then ((jGa.f l1_0 a0_2).bind fun t427=>(if t427=true then ((jxb.f a0_3).bind fun t428=>(some t428)) else (some false))) else (if a0_1=8 then ((jGa.f l1_0 a0_2).bind fun t429=>(if t429=true then (some (a0_3 == 0)) else (some false))) else (if a0_1=11 then ((jP.f a0_2 0 9).bind fun t430=>(if t430=true then ((jP.f a0_3 0 1).bind fun t431=>(some t431)) else (some false))) else (if a0_1=12 then ((jP.f a0_2 0 3).bind fun t432=>(if t432=true then (some (a0_3 == 0)) else (some false))) else ((jP.f a0_1 0 12).bind fun t433=>(if t433=true then (if a0_2=0 then (some (a0_3 == 0)) else (some false)) else (some false)))))))=some r:=by rw [if_neg (show ¬ (false=true) by decide)] at H;exact H
    clear H
    have H:=H1
    clear H1
    by_cases c16:a0_1=2
    ·rw [if_pos c16] at H
     have c16b0:(a0_1 == 2)=true:=beq_iff_eq.mpr c16
     have c16b1:(a0_1 != 2)=false:=bne_eq_false_iff_eq.mpr c16
     clear c16
     replace H:=bzS H
     obtain ⟨t427,A170,H⟩:=H
     replace H:(if t427=true then ((jxb.f a0_3).bind fun t428=>(some t428)) else (some false))=some r:=H
     have A17:=am A170
     clear A170
     by_cases c18:t427=true
     ·subst c18
      have H1:((jxb.f a0_3).bind fun t428=>(some t428))=some r:=by rw [if_pos rfl] at H;exact H
      clear H
      have H:=H1
      clear H1
      replace H:=bzS H
      obtain ⟨t428,A190,H⟩:=H
      replace H:(some t428)=some r:=H
      have A19:=am A190
      clear A190
      obtain rfl:=Option.some.inj H
      have hnb20:=NB425_424.out
      have hnc20:=NB424_425.out
      have hcz21_0:=bc0 BK425.out
      have hfz21_0:=ja BK425.out 0
      have hcz22_0:=bc0 BK424.out
      have hcz22_1:=bc1 BK424.out
      have hcz22_2:=bc2 BK424.out
      have hcz22_3:=bc3 BK424.out
      have hfz22_0:=ja BK424.out 0
      have hfz22_1:=ja BK424.out 1
      have hfz22_2:=ja BK424.out 2
      have hfz22_3:=ja BK424.out 3
      go_wp2_with (first |((with_reducible refine jd (f:=48) rfl ?_);refine gL (some 23) Try.func48 #[.agg #[.slice A1_0 l1_0.length c1_0], .int .i64 a0_2] ?_;(with_reducible refine (jGa.calls _ _ l1_0 a0_2 true _ ?side1 ?side2 A17.out).mono ?_);(case side1=>exact cq (Kd.jT HR1_0.out HB.out));(case side2=>exact HC1_0.out);rintro e w23 ⟨rfl,hb⟩;refine ⟨_,rfl,?_⟩;replace BK424:=am (jk (g:=gb424) (o:=.cells #[.int .i64 a0_0, .int .i64 a0_1, .int .i64 a0_2, .int .i64 a0_3] 36 (0,0)) (kq BK424.out) hb);replace BK425:=am (jk (g:=gb425) (o:=.cells #[.slice A1_0 l1_0.length c1_0] 25 (0,0)) (kq BK425.out) hb);replace HB:=am (je (Y24) hb);(try clear hb);(try clear hb2);(try clear hk);(try clear hi);have hcz24_0:=bc0 BK424.out;have hcz24_1:=bc1 BK424.out;have hcz24_2:=bc2 BK424.out;have hcz24_3:=bc3 BK424.out;have hfz24_0:=ja BK424.out 0;have hfz24_1:=ja BK424.out 1;have hfz24_2:=ja BK424.out 2;have hfz24_3:=ja BK424.out 3) |(go_at_call 65;(with_reducible refine (jxb.calls a0_3 t428 _ A19.out).mono ?_);rintro e w' ⟨rfl,⟨nd,rfl⟩⟩))
      go_ret
      exact ⟨Y0,Y24⟩
     ·replace c18:=Bool.eq_false_iff.mpr c18
      subst c18
      have H1:(some false)=some r:=by rw [if_neg (show ¬ (false=true) by decide)] at H;exact H
      clear H
      have H:=H1
      clear H1
      obtain rfl:=Option.some.inj H
      have hnb25:=NB425_424.out
      have hnc25:=NB424_425.out
      have hcz26_0:=bc0 BK425.out
      have hfz26_0:=ja BK425.out 0
      have hcz27_0:=bc0 BK424.out
      have hcz27_1:=bc1 BK424.out
      have hcz27_2:=bc2 BK424.out
      have hcz27_3:=bc3 BK424.out
      have hfz27_0:=ja BK424.out 0
      have hfz27_1:=ja BK424.out 1
      have hfz27_2:=ja BK424.out 2
      have hfz27_3:=ja BK424.out 3
      go_wp2_with (first |((with_reducible refine jd (f:=48) rfl ?_);refine gL (some 23) Try.func48 #[.agg #[.slice A1_0 l1_0.length c1_0], .int .i64 a0_2] ?_;(with_reducible refine (jGa.calls _ _ l1_0 a0_2 false _ ?side1 ?side2 A17.out).mono ?_);(case side1=>exact cq (Kd.jT HR1_0.out HB.out));(case side2=>exact HC1_0.out);rintro e w28 ⟨rfl,hb⟩;refine ⟨_,rfl,?_⟩;replace BK424:=am (jk (g:=gb424) (o:=.cells #[.int .i64 a0_0, .int .i64 a0_1, .int .i64 a0_2, .int .i64 a0_3] 36 (0,0)) (kq BK424.out) hb);replace BK425:=am (jk (g:=gb425) (o:=.cells #[.slice A1_0 l1_0.length c1_0] 25 (0,0)) (kq BK425.out) hb);replace HB:=am (je (Y24) hb);(try clear hb);(try clear hb2);(try clear hk);(try clear hi)))
      go_ret
      exact ⟨Y0,Y24⟩
    ·rw [if_neg c16] at H
     have c16b0:(a0_1 == 2)=false:=beq_eq_false_iff_ne.mpr c16
     have c16b1:(a0_1 != 2)=true:=bne_iff_ne.mpr c16
     by_cases c29:a0_1=8
     ·rw [if_pos c29] at H
      have c29b0:(a0_1 == 8)=true:=beq_iff_eq.mpr c29
      have c29b1:(a0_1 != 8)=false:=bne_eq_false_iff_eq.mpr c29
      clear c29
      replace H:=bzS H
      obtain ⟨t429,A300,H⟩:=H
      replace H:(if t429=true then (some (a0_3 == 0)) else (some false))=some r:=H
      have A30:=am A300
      clear A300
      by_cases c31:t429=true
      ·subst c31
       have H1:(some (a0_3 == 0))=some r:=by rw [if_pos rfl] at H;exact H
       clear H
       have H:=H1
       clear H1
       obtain rfl:=Option.some.inj H
       have hnb32:=NB425_424.out
       have hnc32:=NB424_425.out
       have hcz33_0:=bc0 BK425.out
       have hfz33_0:=ja BK425.out 0
       have hcz34_0:=bc0 BK424.out
       have hcz34_1:=bc1 BK424.out
       have hcz34_2:=bc2 BK424.out
       have hcz34_3:=bc3 BK424.out
       have hfz34_0:=ja BK424.out 0
       have hfz34_1:=ja BK424.out 1
       have hfz34_2:=ja BK424.out 2
       have hfz34_3:=ja BK424.out 3
       go_wp2_with (first |((with_reducible refine jd (f:=48) rfl ?_);refine gL (some 34) Try.func48 #[.agg #[.slice A1_0 l1_0.length c1_0], .int .i64 a0_2] ?_;(with_reducible refine (jGa.calls _ _ l1_0 a0_2 true _ ?side1 ?side2 A30.out).mono ?_);(case side1=>exact cq (Kd.jT HR1_0.out HB.out));(case side2=>exact HC1_0.out);rintro e w35 ⟨rfl,hb⟩;refine ⟨_,rfl,?_⟩;replace BK424:=am (jk (g:=gb424) (o:=.cells #[.int .i64 a0_0, .int .i64 a0_1, .int .i64 a0_2, .int .i64 a0_3] 36 (0,0)) (kq BK424.out) hb);replace BK425:=am (jk (g:=gb425) (o:=.cells #[.slice A1_0 l1_0.length c1_0] 25 (0,0)) (kq BK425.out) hb);replace HB:=am (je (Y24) hb);(try clear hb);(try clear hb2);(try clear hk);(try clear hi);have hcz36_0:=bc0 BK424.out;have hcz36_1:=bc1 BK424.out;have hcz36_2:=bc2 BK424.out;have hcz36_3:=bc3 BK424.out;have hfz36_0:=ja BK424.out 0;have hfz36_1:=ja BK424.out 1;have hfz36_2:=ja BK424.out 2;have hfz36_3:=ja BK424.out 3))
       go_ret
       exact ⟨Y0,Y24⟩
      ·replace c31:=Bool.eq_false_iff.mpr c31
       subst c31
       have H1:(some false)=some r:=by rw [if_neg (show ¬ (false=true) by decide)] at H;exact H
       clear H
       have H:=H1
       clear H1
       obtain rfl:=Option.some.inj H
       have hnb37:=NB425_424.out
       have hnc37:=NB424_425.out
       have hcz38_0:=bc0 BK425.out
       have hfz38_0:=ja BK425.out 0
       have hcz39_0:=bc0 BK424.out
       have hcz39_1:=bc1 BK424.out
       have hcz39_2:=bc2 BK424.out
       have hcz39_3:=bc3 BK424.out
       have hfz39_0:=ja BK424.out 0
       have hfz39_1:=ja BK424.out 1
       have hfz39_2:=ja BK424.out 2
       have hfz39_3:=ja BK424.out 3
       go_wp2_with (first |((with_reducible refine jd (f:=48) rfl ?_);refine gL (some 34) Try.func48 #[.agg #[.slice A1_0 l1_0.length c1_0], .int .i64 a0_2] ?_;(with_reducible refine (jGa.calls _ _ l1_0 a0_2 false _ ?side1 ?side2 A30.out).mono ?_);(case side1=>exact cq (Kd.jT HR1_0.out HB.out));(case side2=>exact HC1_0.out);rintro e w40 ⟨rfl,hb⟩;refine ⟨_,rfl,?_⟩;replace BK424:=am (jk (g:=gb424) (o:=.cells #[.int .i64 a0_0, .int .i64 a0_1, .int .i64 a0_2, .int .i64 a0_3] 36 (0,0)) (kq BK424.out) hb);replace BK425:=am (jk (g:=gb425) (o:=.cells #[.slice A1_0 l1_0.length c1_0] 25 (0,0)) (kq BK425.out) hb);replace HB:=am (je (Y24) hb);(try clear hb);(try clear hb2);(try clear hk);(try clear hi)))
       go_ret
       exact ⟨Y0,Y24⟩
     ·rw [if_neg c29] at H
      have c29b0:(a0_1 == 8)=false:=beq_eq_false_iff_ne.mpr c29
      have c29b1:(a0_1 != 8)=true:=bne_iff_ne.mpr c29
      by_cases c41:a0_1=11
      ·rw [if_pos c41] at H
       have c41b0:(a0_1 == 11)=true:=beq_iff_eq.mpr c41
       have c41b1:(a0_1 != 11)=false:=bne_eq_false_iff_eq.mpr c41
       clear c41
       replace H:=bzS H
       obtain ⟨t430,A420,H⟩:=H
       replace H:(if t430=true then ((jP.f a0_3 0 1).bind fun t431=>(some t431)) else (some false))=some r:=H
       have A42:=am A420
       clear A420
       by_cases c43:t430=true
       ·subst c43
        have H1:((jP.f a0_3 0 1).bind fun t431=>(some t431))=some r:=by rw [if_pos rfl] at H;exact H
        clear H
        have H:=H1
        clear H1
        replace H:=bzS H
        obtain ⟨t431,A440,H⟩:=H
        replace H:(some t431)=some r:=H
        have A44:=am A440
        clear A440
        obtain rfl:=Option.some.inj H
        have hnb45:=NB424_425.out
        have hnc45:=NB425_424.out
        have hcz46_0:=bc0 BK424.out
        have hcz46_1:=bc1 BK424.out
        have hcz46_2:=bc2 BK424.out
        have hcz46_3:=bc3 BK424.out
        have hfz46_0:=ja BK424.out 0
        have hfz46_1:=ja BK424.out 1
        have hfz46_2:=ja BK424.out 2
        have hfz46_3:=ja BK424.out 3
        go_wp2_with (first |((with_reducible refine jd (f:=38) rfl ?_);refine gL (some 44) Try.func38 #[.int .i64 a0_2, .int .i64 0, .int .i64 9] ?_;(with_reducible refine (jP.calls a0_2 0 9 true _ A42.out).mono ?_);rintro e w' ⟨rfl,⟨nd,rfl⟩⟩;refine ⟨_,rfl,?_⟩) |(go_at_call 38;(with_reducible refine (jP.calls a0_3 0 1 t431 _ A44.out).mono ?_);rintro e w' ⟨rfl,⟨nd,rfl⟩⟩))
        go_ret
        exact ⟨Y0,Y24⟩
       ·replace c43:=Bool.eq_false_iff.mpr c43
        subst c43
        have H1:(some false)=some r:=by rw [if_neg (show ¬ (false=true) by decide)] at H;exact H
        clear H
        have H:=H1
        clear H1
        obtain rfl:=Option.some.inj H
        have hnb47:=NB424_425.out
        have hnc47:=NB425_424.out
        have hcz48_0:=bc0 BK424.out
        have hcz48_1:=bc1 BK424.out
        have hcz48_2:=bc2 BK424.out
        have hcz48_3:=bc3 BK424.out
        have hfz48_0:=ja BK424.out 0
        have hfz48_1:=ja BK424.out 1
        have hfz48_2:=ja BK424.out 2
        have hfz48_3:=ja BK424.out 3
        go_wp2_with (first |((with_reducible refine jd (f:=38) rfl ?_);refine gL (some 44) Try.func38 #[.int .i64 a0_2, .int .i64 0, .int .i64 9] ?_;(with_reducible refine (jP.calls a0_2 0 9 false _ A42.out).mono ?_);rintro e w' ⟨rfl,⟨nd,rfl⟩⟩;refine ⟨_,rfl,?_⟩))
        go_ret
        exact ⟨Y0,Y24⟩
      ·rw [if_neg c41] at H
       have c41b0:(a0_1 == 11)=false:=beq_eq_false_iff_ne.mpr c41
       have c41b1:(a0_1 != 11)=true:=bne_iff_ne.mpr c41
       by_cases c49:a0_1=12
       ·rw [if_pos c49] at H
        have c49b0:(a0_1 == 12)=true:=beq_iff_eq.mpr c49
        have c49b1:(a0_1 != 12)=false:=bne_eq_false_iff_eq.mpr c49
        clear c49
        replace H:=bzS H
        obtain ⟨t432,A500,H⟩:=H
        replace H:(if t432=true then (some (a0_3 == 0)) else (some false))=some r:=H
        have A50:=am A500
        clear A500
        by_cases c51:t432=true
        ·subst c51
         have H1:(some (a0_3 == 0))=some r:=by rw [if_pos rfl] at H;exact H
         clear H
         have H:=H1
         clear H1
         obtain rfl:=Option.some.inj H
         have hnb52:=NB424_425.out
         have hnc52:=NB425_424.out
         have hcz53_0:=bc0 BK424.out
         have hcz53_1:=bc1 BK424.out
         have hcz53_2:=bc2 BK424.out
         have hcz53_3:=bc3 BK424.out
         have hfz53_0:=ja BK424.out 0
         have hfz53_1:=ja BK424.out 1
         have hfz53_2:=ja BK424.out 2
         have hfz53_3:=ja BK424.out 3
         go_wp2_with (first |((with_reducible refine jd (f:=38) rfl ?_);refine gL (some 54) Try.func38 #[.int .i64 a0_2, .int .i64 0, .int .i64 3] ?_;(with_reducible refine (jP.calls a0_2 0 3 true _ A50.out).mono ?_);rintro e w' ⟨rfl,⟨nd,rfl⟩⟩;refine ⟨_,rfl,?_⟩))
         go_ret
         exact ⟨Y0,Y24⟩
        ·replace c51:=Bool.eq_false_iff.mpr c51
         subst c51
         have H1:(some false)=some r:=by rw [if_neg (show ¬ (false=true) by decide)] at H;exact H
         clear H
         have H:=H1
         clear H1
         obtain rfl:=Option.some.inj H
         have hnb54:=NB424_425.out
         have hnc54:=NB425_424.out
         have hcz55_0:=bc0 BK424.out
         have hcz55_1:=bc1 BK424.out
         have hcz55_2:=bc2 BK424.out
         have hcz55_3:=bc3 BK424.out
         have hfz55_0:=ja BK424.out 0
         have hfz55_1:=ja BK424.out 1
         have hfz55_2:=ja BK424.out 2
         have hfz55_3:=ja BK424.out 3
         go_wp2_with (first |((with_reducible refine jd (f:=38) rfl ?_);refine gL (some 54) Try.func38 #[.int .i64 a0_2, .int .i64 0, .int .i64 3] ?_;(with_reducible refine (jP.calls a0_2 0 3 false _ A50.out).mono ?_);rintro e w' ⟨rfl,⟨nd,rfl⟩⟩;refine ⟨_,rfl,?_⟩))
         go_ret
         exact ⟨Y0,Y24⟩
       ·rw [if_neg c49] at H
        have c49b0:(a0_1 == 12)=false:=beq_eq_false_iff_ne.mpr c49
        have c49b1:(a0_1 != 12)=true:=bne_iff_ne.mpr c49
        replace H:=bzS H
        obtain ⟨t433,A560,H⟩:=H
        replace H:(if t433=true then (if a0_2=0 then (some (a0_3 == 0)) else (some false)) else (some false))=some r:=H
        have A56:=am A560
        clear A560
        by_cases c57:t433=true
        ·subst c57
         have H1:(if a0_2=0 then (some (a0_3 == 0)) else (some false))=some r:=by rw [if_pos rfl] at H;exact H
         clear H
         have H:=H1
         clear H1
         by_cases c58:a0_2=0
         ·rw [if_pos c58] at H
          have c58b0:(a0_2 == 0)=true:=beq_iff_eq.mpr c58
          have c58b1:(a0_2 != 0)=false:=bne_eq_false_iff_eq.mpr c58
          clear c58
          obtain rfl:=Option.some.inj H
          have hnb59:=NB424_425.out
          have hnc59:=NB425_424.out
          have hcz60_0:=bc0 BK424.out
          have hcz60_1:=bc1 BK424.out
          have hcz60_2:=bc2 BK424.out
          have hcz60_3:=bc3 BK424.out
          have hfz60_0:=ja BK424.out 0
          have hfz60_1:=ja BK424.out 1
          have hfz60_2:=ja BK424.out 2
          have hfz60_3:=ja BK424.out 3
          go_wp2_with (first |((with_reducible refine jd (f:=38) rfl ?_);refine gL (some 62) Try.func38 #[.int .i64 a0_1, .int .i64 0, .int .i64 12] ?_;(with_reducible refine (jP.calls a0_1 0 12 true _ A56.out).mono ?_);rintro e w' ⟨rfl,⟨nd,rfl⟩⟩;refine ⟨_,rfl,?_⟩))
          go_ret
          exact ⟨Y0,Y24⟩
         ·rw [if_neg c58] at H
          have c58b0:(a0_2 == 0)=false:=beq_eq_false_iff_ne.mpr c58
          have c58b1:(a0_2 != 0)=true:=bne_iff_ne.mpr c58
          obtain rfl:=Option.some.inj H
          have hnb61:=NB424_425.out
          have hnc61:=NB425_424.out
          have hcz62_0:=bc0 BK424.out
          have hcz62_1:=bc1 BK424.out
          have hcz62_2:=bc2 BK424.out
          have hcz62_3:=bc3 BK424.out
          have hfz62_0:=ja BK424.out 0
          have hfz62_1:=ja BK424.out 1
          have hfz62_2:=ja BK424.out 2
          have hfz62_3:=ja BK424.out 3
          go_wp2_with (first |((with_reducible refine jd (f:=38) rfl ?_);refine gL (some 62) Try.func38 #[.int .i64 a0_1, .int .i64 0, .int .i64 12] ?_;(with_reducible refine (jP.calls a0_1 0 12 true _ A56.out).mono ?_);rintro e w' ⟨rfl,⟨nd,rfl⟩⟩;refine ⟨_,rfl,?_⟩))
          go_ret
          exact ⟨Y0,Y24⟩
        ·replace c57:=Bool.eq_false_iff.mpr c57
         subst c57
         have H1:(some false)=some r:=by rw [if_neg (show ¬ (false=true) by decide)] at H;exact H
         clear H
         have H:=H1
         clear H1
         obtain rfl:=Option.some.inj H
         have hnb63:=NB424_425.out
         have hnc63:=NB425_424.out
         have hcz64_0:=bc0 BK424.out
         have hcz64_1:=bc1 BK424.out
         have hcz64_2:=bc2 BK424.out
         have hcz64_3:=bc3 BK424.out
         have hfz64_0:=ja BK424.out 0
         have hfz64_1:=ja BK424.out 1
         have hfz64_2:=ja BK424.out 2
         have hfz64_3:=ja BK424.out 3
         go_wp2_with (first |((with_reducible refine jd (f:=38) rfl ?_);refine gL (some 62) Try.func38 #[.int .i64 a0_1, .int .i64 0, .int .i64 12] ?_;(with_reducible refine (jP.calls a0_1 0 12 false _ A56.out).mono ?_);rintro e w' ⟨rfl,⟨nd,rfl⟩⟩;refine ⟨_,rfl,?_⟩))
         go_ret
         exact ⟨Y0,Y24⟩
def jdb.f (a0_0 : Int) (a0_1 : Int) (a0_2 : Int) (a0_3 : Int) : Option (Bool) := (jP.f a0_1 7 12).bind fun t435 => (some t435)
set_option maxHeartbeats 8000000 in
set_option maxRecDepth 100000 in
theorem jdb.calls (a0_0 : Int) (a0_1 : Int) (a0_2 : Int) (a0_3 : Int) (r : Bool) (w : World) (h : jdb.f a0_0 a0_1 a0_2 a0_3 = some r) :
  Calls Try.prog 39 #[.agg #[.int .i64 a0_0, .int .i64 a0_1, .int .i64 a0_2, .int .i64 a0_3]] w fun e w'=>e=.returned (.bool r)∧Below w.heap.size w w':=by
 have hu36:=Try.underlying36
 have HB:=am (Below.refl w.heap.size w)
 have H:((jP.f a0_1 7 12).bind fun t435=>(some t435))=some r:=h
 clear h
 replace H:=bzS H
 obtain ⟨t435,A20,H⟩:=H
 replace H:(some t435)=some r:=H
 have A2:=am A20
 clear A20
 obtain rfl:=Option.some.inj H
 go_enter Try.func39,Try.ntmps39
 go_wp2_with (first |((with_reducible refine jJ (N:=1) rfl ?_);refine bE (N:=1) (cs:=#[.int .i64 a0_0, .int .i64 a0_1, .int .i64 a0_2, .int .i64 a0_3]) (t:=36) ?_;intro gb434 hg w3 hbox hb;have BK434:=am (hbox);have GW434:=am ((Y3:w.heap.size≤gb434));have GE434:=am ((Y3:w.heap.size≤gb434));replace HB:=am (je (bq) hb);clear hb hbox hg;have hcz4_0:=bc0 BK434.out;have hcz4_1:=bc1 BK434.out;have hcz4_2:=bc2 BK434.out;have hcz4_3:=bc3 BK434.out;have hfz4_0:=ja BK434.out 0;have hfz4_1:=ja BK434.out 1;have hfz4_2:=ja BK434.out 2;have hfz4_3:=ja BK434.out 3) |((with_reducible refine jd (f:=38) rfl ?_);refine gL (some 5) Try.func38 #[.int .i64 a0_1, .int .i64 7, .int .i64 12] ?_;(with_reducible refine (jP.calls a0_1 7 12 t435 _ A2.out).mono ?_);rintro e w' ⟨rfl,⟨nd,rfl⟩⟩;refine ⟨_,rfl,?_⟩))
 go_ret
 exact ⟨Y0,by repeat (first |(with_reducible first | exact HB.out | apply jL | apply jm | apply jE | refine jK ?_ GE434.out) | exact HB.out)⟩
def jpa.l0 : Nat → List (S36) → Int → Int → Option (Int)
 | 0,_,_,_=>none
 | k+1,x0,x1,x5=>if x5<(x0.length:Int) then (if 0≤x5 then (if 0≤x1 then (if x1<(x0.length:Int) then (if ((jc x0 x5).f0) > ((jc x0 x1).f0) then (jpa.l0 k x0 x1 (wrap64 (x5+1))) else (some x5)) else (none)) else (none)) else (none)) else (some x5)
def jpa.f (k : Nat) (l0 : List (S36)) (a1 : Int) : Option (Int) := jpa.l0 k l0 a1 (wrap64 (a1 + 1))
set_option maxHeartbeats 8000000 in
set_option maxRecDepth 100000 in
theorem jpa.calls (k : Nat) (A0 : Option Addr) (c0 : Nat) (l0 : List (S36)) (a1 : Int) (r : Int) (w : World) (hr0 : Kd.C k36 w A0 l0.length l0) (hc0 : l0.length ≤ c0) (h : jpa.f k l0 a1 = some r) :
  Calls Try.prog 69 #[.slice A0 l0.length c0, .int .i64 a1] w fun e w'=>e=.returned (.int .i64 r)∧jsb w w':=by
 have HR0:=am hr0
 have HC0:=am hc0
 clear hr0 hc0
 have H:(jpa.l0 k l0 a1 (wrap64 (a1+1)))=some r:=h
 clear h
 have H':=am H
 clear H
 go_enter Try.func69,Try.ntmps69
 go_wp2
 repeat (go_quiet (fail);try go_wp2)
 go_loopg [5] k (fun kq v5 w'=>∃ (x5_1:Int),v5=.int .i64 x5_1∧jq (jpa.l0 kq l0 a1 x5_1=some r)∧jq (kq≤k)∧jsb w w')
 case atStart=>exact ⟨(wrap64 (a1+1)),(sq),H',⟨Nat.le_refl _⟩,Y7⟩
 case round =>
  clear H'
  try clear p2
  obtain ⟨x5_1,rfl,HA,HK1,⟨m1,rfl⟩⟩:=hrel
  cases gk with
  | zero=>exact absurd HA.out (by simp [jpa.l0])
  | succ k1 =>
   have H:=HA.out
   clear HA
   simp only [jpa.l0] at H
   by_cases c3:x5_1<(l0.length:Int)
   ·rw [if_pos c3] at H
    have c3b0:decide (x5_1<(l0.length:Int))=true:=dzT c3
    clear c3
    by_cases c4:0≤x5_1
    ·rw [if_pos c4] at H
     have c4b0:decide (0≤x5_1)=true:=dzT c4
     clear c4
     by_cases c5:0≤a1
     ·rw [if_pos c5] at H
      have c5b0:decide (0≤a1)=true:=dzT c5
      clear c5
      by_cases c6:a1<(l0.length:Int)
      ·rw [if_pos c6] at H
       have c6b0:decide (a1<(l0.length:Int))=true:=dzT c6
       clear c6
       by_cases c7:((jc l0 x5_1).f0) > ((jc l0 a1).f0)
       ·rw [if_pos c7] at H
        have c7b0:decide (((jc l0 a1).f0)<((jc l0 x5_1).f0))=true:=dzT c7
        clear c7
        have H':=am H
        clear H
        have p436:0≤(x5_1:Int):=ozD (uq)
        have q436:x5_1<(l0.length:Int):=ozD (uq)
        obtain ⟨ad436,e436,hx436_0,hx436_1,hx436_2,hx436_3⟩:=jna HR0.out x5_1 p436 q436
        cases e436
        replace p436:=ezT p436
        replace q436:=ezT q436
        have p437:0≤(a1:Int):=ozD (uq)
        have q437:a1<(l0.length:Int):=ozD (uq)
        obtain ⟨ad437,e437,hx437_0,hx437_1,hx437_2,hx437_3⟩:=jna HR0.out a1 p437 q437
        obtain rfl:ad436=ad437:=(by injection e437)
        replace p437:=ezT p437
        replace q437:=ezT q437
        go_wp2
        repeat (go_quiet (fail);try go_wp2)
        go_roundg k1
        case measure=>have:=HK1.out;omega
        case rel=>exact ⟨(wrap64 (x5_1+1)),(sq),H',⟨by have:=HK1.out;omega⟩,Y7⟩
       ·rw [if_neg c7] at H
        have c7b0:decide (((jc l0 a1).f0)<((jc l0 x5_1).f0))=false:=dzF c7
        clear c7
        obtain rfl:=Option.some.inj H
        have p436:0≤(x5_1:Int):=ozD (uq)
        have q436:x5_1<(l0.length:Int):=ozD (uq)
        obtain ⟨ad436,e436,hx436_0,hx436_1,hx436_2,hx436_3⟩:=jna HR0.out x5_1 p436 q436
        cases e436
        replace p436:=ezT p436
        replace q436:=ezT q436
        have p437:0≤(a1:Int):=ozD (uq)
        have q437:a1<(l0.length:Int):=ozD (uq)
        obtain ⟨ad437,e437,hx437_0,hx437_1,hx437_2,hx437_3⟩:=jna HR0.out a1 p437 q437
        obtain rfl:ad436=ad437:=(by injection e437)
        replace p437:=ezT p437
        replace q437:=ezT q437
        go_wp2
        repeat (go_quiet (fail);try go_wp2)
        go_ret
        exact ⟨sq,Y7⟩
      ·rw [if_neg c6] at H
       exact absurd H (by simp)
     ·rw [if_neg c5] at H
      exact absurd H (by simp)
    ·rw [if_neg c4] at H
     exact absurd H (by simp)
   ·rw [if_neg c3] at H
    have c3b0:decide (x5_1<(l0.length:Int))=false:=dzF c3
    clear c3
    obtain rfl:=Option.some.inj H
    go_wp2
    repeat (go_quiet (fail);try go_wp2)
    go_ret
    exact ⟨sq,Y7⟩
def jJa.l0 : Nat → List (S36) → Int → List Int → Int → Option (List Int)
 | 0,_,_,_,_=>none
 | k+1,x0,x2,x7,x8=>if x8<x2 then (if x7.length<17592186044416 then ((jpa.f k x0 x8).bind fun t444=>(jJa.l0 k x0 x2 (x7 ++ [x8]) t444)) else (none)) else (some x7)
def jJa.f (k : Nat) (l0 : List (S36)) (a1 : Int) (a2 : Int) : Option (List Int) := jJa.l0 k l0 a2 (([] : List Int)) a1
set_option maxHeartbeats 8000000 in
set_option maxRecDepth 100000 in
theorem jJa.calls (k : Nat) (A0 : Option Addr) (c0 : Nat) (l0 : List (S36)) (a1 : Int) (a2 : Int) (r : List Int) (w : World) (hr0 : Kd.C k36 w A0 l0.length l0) (hc0 : l0.length ≤ c0) (h : jJa.f k l0 a1 a2 = some r) :
  Calls Try.prog 66 #[.slice A0 l0.length c0, .int .i64 a1, .int .i64 a2] w fun e w'=>∃ v0_:Value,e=.returned (v0_)∧Kd.R (Kd.int .i64) 3 w' w.heap.size (fun _=>True) v0_ r∧Below w.heap.size w w':=by
 have HR0:=am hr0
 have HC0:=am hc0
 clear hr0 hc0
 have HB:=am (Below.refl w.heap.size w)
 have H:(jJa.l0 k l0 a2 (([]:List Int)) a1)=some r:=h
 clear h
 obtain ⟨y438,hy438⟩:∃ y_:List Int,y_=(([]:List Int)):=⟨_,rfl⟩
 replace H:(jJa.l0 k l0 a2 y438 a1)=some r:=by first |(rw [hy438];with_reducible exact H) |(have H2_:=(Option.bind_some _ _).symm.trans H;rw [hy438];with_reducible exact H2_) |(have H2_:=(Option.bind_some _ _).symm.trans H;with_reducible exact H2_) | with_reducible exact H |(rw [hy438];exact H) | exact H
 have Ny438:=am hy438
 clear hy438
 have H':=am H
 clear H
 go_enter Try.func66,Try.ntmps66
 go_wp2_with (first |((with_reducible refine jJ (N:=9) rfl ?_);refine Kd.jfc (Kd.int .i64) _ 3 ?hg (N:=9) ?hd (xs:=([]:List Int)) (inner:=[]) (ok:=fun _=>True) (okp:=fun _=>True) ?hr ?hp (fun _ hk=>hk) trivial (Below.refl _ _) (Nat.le_refl _) (by simp) ?_;(case hd=>rfl);(case hg=>rfl);(case hr=>exact Y5);(case hp=>exact (Reps.none _ _));intro v439 w4 ho5 hb hg_ hnew_;clear hg_ hnew_;(first | rw [← Ny438.out] at ho5 |(simp only [Int.reduceToNat] at ho5;rw [← Ny438.out] at ho5));have HO440:=am (Kd.jaa ho5 (jma (bq)));replace HB:=am (je (bq) hb);clear hb ho5))
 go_loopg [7,8] k (fun kq v7 v8 w'=>∃ (x7_1:List Int) (x8_1:Int),v8=.int .i64 x8_1∧jq (jJa.l0 kq l0 a2 x7_1 x8_1=some r)∧jq (kq≤k)∧jq (Kd.R (Kd.int .i64) 3 w' w.heap.size (fun _=>True) v7 x7_1)∧jq (Below w.heap.size w w'))
 case atStart=>exact ⟨(y438),(a1),(sq),H',⟨Nat.le_refl _⟩,⟨rq HO440.out⟩,⟨bq⟩⟩
 case round =>
  clear H'
  try clear p2
  obtain ⟨x7_1,x8_1,rfl,HA,HK1,HO_7,HB⟩:=hrel
  cases gk with
  | zero=>exact absurd HA.out (by simp [jJa.l0])
  | succ k1 =>
   have H:=HA.out
   clear HA
   simp only [jJa.l0] at H
   by_cases c6:x8_1<a2
   ·rw [if_pos c6] at H
    have c6b0:decide (x8_1<a2)=true:=dzT c6
    clear c6
    by_cases c7:x7_1.length<17592186044416
    ·rw [if_pos c7] at H
     have LMc7:=am c7
     clear c7
     obtain ⟨y441,hy441⟩:∃ y_:List Int,y_=(x7_1 ++ [x8_1]):=⟨_,rfl⟩
     replace H:((jpa.f k1 l0 x8_1).bind fun t444=>(jJa.l0 k1 l0 a2 y441 t444))=some r:=by first |(rw [hy441];with_reducible exact H) |(have H2_:=(Option.bind_some _ _).symm.trans H;rw [hy441];with_reducible exact H2_) |(have H2_:=(Option.bind_some _ _).symm.trans H;with_reducible exact H2_) | with_reducible exact H |(rw [hy441];exact H) | exact H
     have Ny441:=am hy441
     clear hy441
     replace H:=bzS H
     obtain ⟨t444,A80,H⟩:=H
     replace H:(jJa.l0 k1 l0 a2 y441 t444)=some r:=H
     have A8:=am A80
     clear A80
     have H':=am H
     clear H
     go_wp2_with (first |((with_reducible refine jMa (b:=.append) (xs:=#[.tmp 17, .tmp 19]) rfl ?_);at_builtin;refine Kd.jcc (Kd.int .i64) (w0:=w) w.heap.size rfl (.tmp 17) (.tmp 19) 29 3 (.int .i64 0) 8 rfl Try.underlying29 info3 rfl (by decide) (by omega) u7 x7_1 x8_1 [.int .i64 x8_1] (fun _=>True) (fun _=>False) rfl rfl ?aP (fun _ hk=>hk.elim) ?aF ?aO ?aB ?aS ?aL ?_;(case aP=>exact rfl);(case aB=>exact (bq));(case aF=>exact (fun _ _=>trivial));(case aO=>exact (rq HO_7.out));(case aS=>exact (jma (bq)));(case aL=>have:=LMc7.out;omega);intro v442 w9 ho hb hg hat;rw [← Ny441.out] at ho;have n0_:=am (hb);have n1_:=am (ho);clear HB HO_7;have HB:=n0_;have HO443:=n1_;clear n0_ n1_ ho hb hg hat) |((with_reducible refine jd (f:=69) rfl ?_);refine gL (some 16) Try.func69 #[.slice A0 l0.length c0, .int .i64 x8_1] ?_;(with_reducible refine (jpa.calls k1 _ _ l0 x8_1 t444 _ ?side1 ?side2 A8.out).mono ?_);(case side1=>exact cq (Kd.jT HR0.out HB.out));(case side2=>exact HC0.out);rintro e w' ⟨rfl,⟨nd,rfl⟩⟩;refine ⟨_,rfl,?_⟩))
     go_roundg k1
     case measure=>have:=HK1.out;omega
     case rel=>exact ⟨(y441),(t444),(sq),H',⟨by have:=HK1.out;omega⟩,⟨rq HO443.out⟩,⟨bq⟩⟩
    ·rw [if_neg c7] at H
     exact absurd H (by simp)
   ·rw [if_neg c6] at H
    have c6b0:decide (x8_1<a2)=false:=dzF c6
    clear c6
    obtain rfl:=Option.some.inj H
    go_wp2
    go_ret
    exact ⟨_,Y0,rq HO_7.out,bq⟩
mutual
def jha.l0 : Nat → List (S36) → Int → List Int → Int → Option (List Int)
 | 0,_,_,_,_=>none
 | k+1,x0,x1,x5,x6=>if x6<(x0.length:Int) then (if 0≤x6 then (if 0≤x1 then (if x1<(x0.length:Int) then (if ((jc x0 x6).f0)=((jc x0 x1).f0) then ((jP.f ((jc x0 x6).f1) 8 10).bind fun t452=>(jha.j1 k x0 x1 x5 x6 t452)) else (jha.j1 k x0 x1 x5 x6 false)) else (none)) else (none)) else (none)) else (jha.j1 k x0 x1 x5 x6 false)
def jha.j1 : Nat → List (S36) → Int → List Int → Int → Bool → Option (List Int)
 | 0,_,_,_,_,_=>none
 | k+1,x0,x1,x5,x6,x36=>if x36=true then (if x5.length<17592186044416 then ((jpa.f k x0 x6).bind fun t456=>(jha.l0 k x0 x1 (x5 ++ [x6]) t456)) else (none)) else (some x5)
end
def jha.f (k : Nat) (l0 : List (S36)) (a1 : Int) : Option (List Int) := (jpa.f k l0 a1).bind fun t448 => (jha.l0 k l0 a1 (([a1] : List Int)) t448)
set_option maxHeartbeats 8000000 in
set_option maxRecDepth 100000 in
theorem jha.calls (k : Nat) (A0 : Option Addr) (c0 : Nat) (l0 : List (S36)) (a1 : Int) (r : List Int) (w : World) (hr0 : Kd.C k36 w A0 l0.length l0) (hc0 : l0.length ≤ c0) (h : jha.f k l0 a1 = some r) :
  Calls Try.prog 67 #[.slice A0 l0.length c0, .int .i64 a1] w fun e w'=>∃ v0_:Value,e=.returned (v0_)∧Kd.R (Kd.int .i64) 3 w' w.heap.size (fun _=>True) v0_ r∧Below w.heap.size w w':=by
 have HR0:=am hr0
 have HC0:=am hc0
 clear hr0 hc0
 have HB:=am (Below.refl w.heap.size w)
 have H:((jpa.f k l0 a1).bind fun t448=>(jha.l0 k l0 a1 (([a1]:List Int)) t448))=some r:=h
 clear h
 obtain ⟨y445,hy445⟩:∃ y_:List Int,y_=(([a1]:List Int)):=⟨_,rfl⟩
 replace H:((jpa.f k l0 a1).bind fun t448=>(jha.l0 k l0 a1 y445 t448))=some r:=by first |(rw [hy445];with_reducible exact H) |(have H2_:=(Option.bind_some _ _).symm.trans H;rw [hy445];with_reducible exact H2_) |(have H2_:=(Option.bind_some _ _).symm.trans H;with_reducible exact H2_) | with_reducible exact H |(rw [hy445];exact H) | exact H
 have Ny445:=am hy445
 clear hy445
 replace H:=bzS H
 obtain ⟨t448,A30,H⟩:=H
 replace H:(jha.l0 k l0 a1 y445 t448)=some r:=H
 have A3:=am A30
 clear A30
 have H':=am H
 clear H
 go_enter Try.func67,Try.ntmps67
 go_wp2_with (first |((with_reducible refine jJ (N:=8) rfl ?_);refine Kd.jfc (Kd.int .i64) _ 3 ?hg (N:=8) ?hd (xs:=([a1]:List Int)) (inner:=[.int .i64 a1]) (ok:=fun _=>True) (okp:=fun _=>True) ?hr ?hp (fun _ hk=>hk) trivial (Below.refl _ _) (Nat.le_refl _) (by simp) ?_;(case hd=>rfl);(case hg=>rfl);(case hr=>exact Y5);(case hp=>exact (Reps.one (show Kd.M (Kd.int .i64) _ _ _ a1 [.int .i64 a1] from rfl) (Reps.none _ _)));intro v446 w4 ho5 hb hg_ hnew_;clear hg_ hnew_;(first | rw [← Ny445.out] at ho5 |(simp only [Int.reduceToNat] at ho5;rw [← Ny445.out] at ho5));have HO447:=am (Kd.jaa ho5 (jma (bq)));replace HB:=am (je (bq) hb);clear hb ho5) |(go_at_call 69;(with_reducible refine (jpa.calls k _ _ l0 a1 t448 _ ?side1 ?side2 A3.out).mono ?_);(case side1=>exact cq (Kd.jT HR0.out HB.out));(case side2=>exact HC0.out);rintro e w' ⟨rfl,⟨nd,rfl⟩⟩;(try first | exact ⟨rfl,_,World.drewN_drewN _ _ _⟩ | exact ⟨rfl,_,Eq.trans (World.drewN_drewN _ _ _) (congrArg (World.drewN _) (Nat.add_assoc _ _ _))⟩)))
 repeat (go_quiet (first |((with_reducible refine jJ (N:=8) rfl ?_);refine Kd.jfc (Kd.int .i64) _ 3 ?hg (N:=8) ?hd (xs:=([a1]:List Int)) (inner:=[.int .i64 a1]) (ok:=fun _=>True) (okp:=fun _=>True) ?hr ?hp (fun _ hk=>hk) trivial (Below.refl _ _) (Nat.le_refl _) (by simp) ?_;(case hd=>rfl);(case hg=>rfl);(case hr=>exact Y5);(case hp=>exact (Reps.one (show Kd.M (Kd.int .i64) _ _ _ a1 [.int .i64 a1] from rfl) (Reps.none _ _)));intro v446 w4 ho5 hb hg_ hnew_;clear hg_ hnew_;(first | rw [← Ny445.out] at ho5 |(simp only [Int.reduceToNat] at ho5;rw [← Ny445.out] at ho5));have HO447:=am (Kd.jaa ho5 (jma (bq)));replace HB:=am (je (bq) hb);clear hb ho5) |(go_at_call 69;(with_reducible refine (jpa.calls k _ _ l0 a1 t448 _ ?side1 ?side2 A3.out).mono ?_);(case side1=>exact cq (Kd.jT HR0.out HB.out));(case side2=>exact HC0.out);rintro e w' ⟨rfl,⟨nd,rfl⟩⟩;(try first | exact ⟨rfl,_,World.drewN_drewN _ _ _⟩ | exact ⟨rfl,_,Eq.trans (World.drewN_drewN _ _ _) (congrArg (World.drewN _) (Nat.add_assoc _ _ _))⟩)));try go_wp2_with (first |((with_reducible refine jJ (N:=8) rfl ?_);refine Kd.jfc (Kd.int .i64) _ 3 ?hg (N:=8) ?hd (xs:=([a1]:List Int)) (inner:=[.int .i64 a1]) (ok:=fun _=>True) (okp:=fun _=>True) ?hr ?hp (fun _ hk=>hk) trivial (Below.refl _ _) (Nat.le_refl _) (by simp) ?_;(case hd=>rfl);(case hg=>rfl);(case hr=>exact Y5);(case hp=>exact (Reps.one (show Kd.M (Kd.int .i64) _ _ _ a1 [.int .i64 a1] from rfl) (Reps.none _ _)));intro v446 w4 ho5 hb hg_ hnew_;clear hg_ hnew_;(first | rw [← Ny445.out] at ho5 |(simp only [Int.reduceToNat] at ho5;rw [← Ny445.out] at ho5));have HO447:=am (Kd.jaa ho5 (jma (bq)));replace HB:=am (je (bq) hb);clear hb ho5) |(go_at_call 69;(with_reducible refine (jpa.calls k _ _ l0 a1 t448 _ ?side1 ?side2 A3.out).mono ?_);(case side1=>exact cq (Kd.jT HR0.out HB.out));(case side2=>exact HC0.out);rintro e w' ⟨rfl,⟨nd,rfl⟩⟩;(try first | exact ⟨rfl,_,World.drewN_drewN _ _ _⟩ | exact ⟨rfl,_,Eq.trans (World.drewN_drewN _ _ _) (congrArg (World.drewN _) (Nat.add_assoc _ _ _))⟩))))
 go_loopg [5,6] k (fun kq v5 v6 w'=>∃ (x5_1:List Int) (x6_1:Int),v6=.int .i64 x6_1∧jq (jha.l0 kq l0 a1 x5_1 x6_1=some r)∧jq (kq≤k)∧jq (Kd.R (Kd.int .i64) 3 w' w.heap.size (fun _=>True) v5 x5_1)∧jq (Below w.heap.size w w'))
 case atStart=>exact ⟨(y445),(t448),(sq),H',⟨Nat.le_refl _⟩,⟨rq HO447.out⟩,⟨bq⟩⟩
 case round =>
  clear H'
  try clear p2
  obtain ⟨x5_1,x6_1,rfl,HA,HK1,HO_5,HB⟩:=hrel
  cases gk with
  | zero=>exact absurd HA.out (by simp [jha.l0])
  | succ k1 =>
   have H:=HA.out
   clear HA
   simp only [jha.l0] at H
   have HC6:=am H
   clear H
   go_upto_region 3 with (fail)
   repeat (go_quiet (fail);go_upto_region 3 with (fail))
   go_cut [36] (fun v36 wc=>∃ (kq:Nat) (x36_5:Bool),v36=.bool x36_5∧jq (jha.j1 kq l0 a1 x5_1 x6_1 x36_5=some r)∧jq (kq≤k1)∧jq (Kd.R (Kd.int .i64) 3 wc w.heap.size (fun _=>True) u5 x5_1)∧jq (Below w.heap.size w wc))
   case first =>
    have H:=HC6.out
    clear HC6
    by_cases c7:x6_1<(l0.length:Int)
    ·rw [if_pos c7] at H
     have c7b0:decide (x6_1<(l0.length:Int))=true:=dzT c7
     clear c7
     (first | rw [c7b0] |(simp only [jkb,jmb];rw [c7b0]) | skip)
     by_cases c8:0≤x6_1
     ·rw [if_pos c8] at H
      have c8b0:decide (0≤x6_1)=true:=dzT c8
      clear c8
      by_cases c9:0≤a1
      ·rw [if_pos c9] at H
       have c9b0:decide (0≤a1)=true:=dzT c9
       clear c9
       by_cases c10:a1<(l0.length:Int)
       ·rw [if_pos c10] at H
        have c10b0:decide (a1<(l0.length:Int))=true:=dzT c10
        clear c10
        by_cases c11:((jc l0 x6_1).f0)=((jc l0 a1).f0)
        ·rw [if_pos c11] at H
         have c11b0:(((jc l0 x6_1).f0) == ((jc l0 a1).f0))=true:=beq_iff_eq.mpr c11
         have c11b1:(((jc l0 x6_1).f0) != ((jc l0 a1).f0))=false:=bne_eq_false_iff_eq.mpr c11
         clear c11
         replace H:=bzS H
         obtain ⟨t452,A120,H⟩:=H
         replace H:(jha.j1 k1 l0 a1 x5_1 x6_1 t452)=some r:=H
         have A12:=am A120
         clear A120
         have H':=am H
         clear H
         have p449:0≤(x6_1:Int):=ozD (uq)
         have q449:x6_1<(l0.length:Int):=ozD (uq)
         obtain ⟨ad449,e449,hx449_0,hx449_1,hx449_2,hx449_3⟩:=jna HR0.out x6_1 p449 q449
         cases e449
         replace hx449_0:=cb HB.out hx449_0
         replace hx449_1:=cb HB.out hx449_1
         replace hx449_2:=cb HB.out hx449_2
         replace hx449_3:=cb HB.out hx449_3
         replace p449:=ezT p449
         replace q449:=ezT q449
         have p450:0≤(a1:Int):=ozD (uq)
         have q450:a1<(l0.length:Int):=ozD (uq)
         obtain ⟨ad450,e450,hx450_0,hx450_1,hx450_2,hx450_3⟩:=jna HR0.out a1 p450 q450
         obtain rfl:ad449=ad450:=(by injection e450)
         replace hx450_0:=cb HB.out hx450_0
         replace hx450_1:=cb HB.out hx450_1
         replace hx450_2:=cb HB.out hx450_2
         replace hx450_3:=cb HB.out hx450_3
         replace p450:=ezT p450
         replace q450:=ezT q450
         have p451:0≤(x6_1:Int):=ozD (uq)
         have q451:x6_1<(l0.length:Int):=ozD (uq)
         obtain ⟨ad451,e451,hx451_0,hx451_1,hx451_2,hx451_3⟩:=jna HR0.out x6_1 p451 q451
         obtain rfl:ad449=ad451:=(by injection e451)
         replace hx451_0:=cb HB.out hx451_0
         replace hx451_1:=cb HB.out hx451_1
         replace hx451_2:=cb HB.out hx451_2
         replace hx451_3:=cb HB.out hx451_3
         replace p451:=ezT p451
         replace q451:=ezT q451
         go_wp2_with (first |(go_at_call 38;(with_reducible refine (jP.calls ((jc l0 x6_1).f1) 8 10 t452 _ A12.out).mono ?_);rintro e w' ⟨rfl,⟨nd,rfl⟩⟩;(try first | exact ⟨rfl,_,World.drewN_drewN _ _ _⟩ | exact ⟨rfl,_,Eq.trans (World.drewN_drewN _ _ _) (congrArg (World.drewN _) (Nat.add_assoc _ _ _))⟩)))
         repeat (go_quiet (first |(go_at_call 38;(with_reducible refine (jP.calls ((jc l0 x6_1).f1) 8 10 t452 _ A12.out).mono ?_);rintro e w' ⟨rfl,⟨nd,rfl⟩⟩;(try first | exact ⟨rfl,_,World.drewN_drewN _ _ _⟩ | exact ⟨rfl,_,Eq.trans (World.drewN_drewN _ _ _) (congrArg (World.drewN _) (Nat.add_assoc _ _ _))⟩)));try go_wp2_with (first |(go_at_call 38;(with_reducible refine (jP.calls ((jc l0 x6_1).f1) 8 10 t452 _ A12.out).mono ?_);rintro e w' ⟨rfl,⟨nd,rfl⟩⟩;(try first | exact ⟨rfl,_,World.drewN_drewN _ _ _⟩ | exact ⟨rfl,_,Eq.trans (World.drewN_drewN _ _ _) (congrArg (World.drewN _) (Nat.add_assoc _ _ _))⟩))))
         go_meet
         case rel=>exact ⟨_,(t452),(sq),H',⟨by have:=HK1.out;first | omega | exact Nat.le_refl _⟩,⟨rq HO_5.out⟩,⟨bq⟩⟩
        ·rw [if_neg c11] at H
         have c11b0:(((jc l0 x6_1).f0) == ((jc l0 a1).f0))=false:=beq_eq_false_iff_ne.mpr c11
         have c11b1:(((jc l0 x6_1).f0) != ((jc l0 a1).f0))=true:=bne_iff_ne.mpr c11
         have H':=am H
         clear H
         have p449:0≤(x6_1:Int):=ozD (uq)
         have q449:x6_1<(l0.length:Int):=ozD (uq)
         obtain ⟨ad449,e449,hx449_0,hx449_1,hx449_2,hx449_3⟩:=jna HR0.out x6_1 p449 q449
         cases e449
         replace hx449_0:=cb HB.out hx449_0
         replace hx449_1:=cb HB.out hx449_1
         replace hx449_2:=cb HB.out hx449_2
         replace hx449_3:=cb HB.out hx449_3
         replace p449:=ezT p449
         replace q449:=ezT q449
         have p450:0≤(a1:Int):=ozD (uq)
         have q450:a1<(l0.length:Int):=ozD (uq)
         obtain ⟨ad450,e450,hx450_0,hx450_1,hx450_2,hx450_3⟩:=jna HR0.out a1 p450 q450
         obtain rfl:ad449=ad450:=(by injection e450)
         replace hx450_0:=cb HB.out hx450_0
         replace hx450_1:=cb HB.out hx450_1
         replace hx450_2:=cb HB.out hx450_2
         replace hx450_3:=cb HB.out hx450_3
         replace p450:=ezT p450
         replace q450:=ezT q450
         go_wp2
         repeat (go_quiet (fail);try go_wp2)
         go_meet
         case rel=>exact ⟨_,(false),(sq),H',⟨by have:=HK1.out;first | omega | exact Nat.le_refl _⟩,⟨rq HO_5.out⟩,⟨bq⟩⟩
       ·rw [if_neg c10] at H
        exact absurd H (by simp)
      ·rw [if_neg c9] at H
       exact absurd H (by simp)
     ·rw [if_neg c8] at H
      exact absurd H (by simp)
    ·rw [if_neg c7] at H
     have c7b0:decide (x6_1<(l0.length:Int))=false:=dzF c7
     clear c7
     (first | rw [c7b0] |(simp only [jkb,jmb];rw [c7b0]) | skip)
     have H':=am H
     clear H
     go_wp2
     repeat (go_quiet (fail);try go_wp2)
     go_meet
     case rel=>exact ⟨_,(false),(sq),H',⟨by have:=HK1.out;first | omega | exact Nat.le_refl _⟩,⟨rq HO_5.out⟩,⟨bq⟩⟩
   case rest =>
    clear HC6
    try clear c1
    try clear p2
    try clear p4
    try clear q4
    try clear hx4
    try clear c6
    try clear c7
    try clear c7b0
    try clear c8
    try clear c8b0
    try clear c9
    try clear c9b0
    try clear c10
    try clear c10b0
    try clear c11
    try clear c11b0
    try clear c11b1
    try clear hx449_0
    try clear hx449_1
    try clear hx449_2
    try clear hx449_3
    try clear hx450_0
    try clear hx450_1
    try clear hx450_2
    try clear hx450_3
    try clear hx451_0
    try clear hx451_1
    try clear hx451_2
    try clear hx451_3
    try clear p2
    try clear p449
    try clear p450
    try clear p451
    try clear q449
    try clear q450
    try clear q451
    obtain ⟨kq,x36_5,rfl,HA,HJ5,HO_5,HB⟩:=hcut
    cases kq with
    | zero=>exact absurd HA.out (by simp [jha.j1])
    | succ kj5 =>
     have H:=HA.out
     clear HA
     simp only [jha.j1] at H
     by_cases c13:x36_5=true
     ·subst c13
      have H1:(if x5_1.length<17592186044416 then ((jpa.f kj5 l0 x6_1).bind fun t456=>(jha.l0 kj5 l0 a1 (x5_1 ++ [x6_1]) t456)) else (none))=some r:=by rw [if_pos rfl] at H;exact H
      clear H
      have H:=H1
      clear H1
      by_cases c14:x5_1.length<17592186044416
      ·rw [if_pos c14] at H
       have LMc14:=am c14
       clear c14
       obtain ⟨y453,hy453⟩:∃ y_:List Int,y_=(x5_1 ++ [x6_1]):=⟨_,rfl⟩
       replace H:((jpa.f kj5 l0 x6_1).bind fun t456=>(jha.l0 kj5 l0 a1 y453 t456))=some r:=by first |(rw [hy453];with_reducible exact H) |(have H2_:=(Option.bind_some _ _).symm.trans H;rw [hy453];with_reducible exact H2_) |(have H2_:=(Option.bind_some _ _).symm.trans H;with_reducible exact H2_) | with_reducible exact H |(rw [hy453];exact H) | exact H
       have Ny453:=am hy453
       clear hy453
       replace H:=bzS H
       obtain ⟨t456,A150,H⟩:=H
       replace H:(jha.l0 kj5 l0 a1 y453 t456)=some r:=H
       have A15:=am A150
       clear A150
       have H':=am H
       clear H
       go_wp2_with (first |((with_reducible refine jMa (b:=.append) (xs:=#[.tmp 40, .tmp 42]) rfl ?_);at_builtin;refine Kd.jcc (Kd.int .i64) (w0:=w) w.heap.size rfl (.tmp 40) (.tmp 42) 29 3 (.int .i64 0) 8 rfl Try.underlying29 info3 rfl (by decide) (by omega) u5 x5_1 x6_1 [.int .i64 x6_1] (fun _=>True) (fun _=>False) rfl rfl ?aP (fun _ hk=>hk.elim) ?aF ?aO ?aB ?aS ?aL ?_;(case aP=>exact rfl);(case aB=>exact (bq));(case aF=>exact (fun _ _=>trivial));(case aO=>exact (rq HO_5.out));(case aS=>exact (jma (bq)));(case aL=>have:=LMc14.out;omega);intro v454 w16 ho hb hg hat;rw [← Ny453.out] at ho;have n0_:=am (hb);have n1_:=am (ho);clear HB HO_5;have HB:=n0_;have HO455:=n1_;clear n0_ n1_ ho hb hg hat) |(go_at_call 69;(with_reducible refine (jpa.calls kj5 _ _ l0 x6_1 t456 _ ?side1 ?side2 A15.out).mono ?_);(case side1=>exact cq (Kd.jT HR0.out HB.out));(case side2=>exact HC0.out);rintro e w' ⟨rfl,⟨nd,rfl⟩⟩;(try first | exact ⟨rfl,_,World.drewN_drewN _ _ _⟩ | exact ⟨rfl,_,Eq.trans (World.drewN_drewN _ _ _) (congrArg (World.drewN _) (Nat.add_assoc _ _ _))⟩)))
       repeat (go_quiet (first |((with_reducible refine jMa (b:=.append) (xs:=#[.tmp 40, .tmp 42]) rfl ?_);at_builtin;refine Kd.jcc (Kd.int .i64) (w0:=w) w.heap.size rfl (.tmp 40) (.tmp 42) 29 3 (.int .i64 0) 8 rfl Try.underlying29 info3 rfl (by decide) (by omega) u5 x5_1 x6_1 [.int .i64 x6_1] (fun _=>True) (fun _=>False) rfl rfl ?aP (fun _ hk=>hk.elim) ?aF ?aO ?aB ?aS ?aL ?_;(case aP=>exact rfl);(case aB=>exact (bq));(case aF=>exact (fun _ _=>trivial));(case aO=>exact (rq HO_5.out));(case aS=>exact (jma (bq)));(case aL=>have:=LMc14.out;omega);intro v454 w16 ho hb hg hat;rw [← Ny453.out] at ho;have n0_:=am (hb);have n1_:=am (ho);clear HB HO_5;have HB:=n0_;have HO455:=n1_;clear n0_ n1_ ho hb hg hat) |(go_at_call 69;(with_reducible refine (jpa.calls kj5 _ _ l0 x6_1 t456 _ ?side1 ?side2 A15.out).mono ?_);(case side1=>exact cq (Kd.jT HR0.out HB.out));(case side2=>exact HC0.out);rintro e w' ⟨rfl,⟨nd,rfl⟩⟩;(try first | exact ⟨rfl,_,World.drewN_drewN _ _ _⟩ | exact ⟨rfl,_,Eq.trans (World.drewN_drewN _ _ _) (congrArg (World.drewN _) (Nat.add_assoc _ _ _))⟩)));try go_wp2_with (first |((with_reducible refine jMa (b:=.append) (xs:=#[.tmp 40, .tmp 42]) rfl ?_);at_builtin;refine Kd.jcc (Kd.int .i64) (w0:=w) w.heap.size rfl (.tmp 40) (.tmp 42) 29 3 (.int .i64 0) 8 rfl Try.underlying29 info3 rfl (by decide) (by omega) u5 x5_1 x6_1 [.int .i64 x6_1] (fun _=>True) (fun _=>False) rfl rfl ?aP (fun _ hk=>hk.elim) ?aF ?aO ?aB ?aS ?aL ?_;(case aP=>exact rfl);(case aB=>exact (bq));(case aF=>exact (fun _ _=>trivial));(case aO=>exact (rq HO_5.out));(case aS=>exact (jma (bq)));(case aL=>have:=LMc14.out;omega);intro v454 w16 ho hb hg hat;rw [← Ny453.out] at ho;have n0_:=am (hb);have n1_:=am (ho);clear HB HO_5;have HB:=n0_;have HO455:=n1_;clear n0_ n1_ ho hb hg hat) |(go_at_call 69;(with_reducible refine (jpa.calls kj5 _ _ l0 x6_1 t456 _ ?side1 ?side2 A15.out).mono ?_);(case side1=>exact cq (Kd.jT HR0.out HB.out));(case side2=>exact HC0.out);rintro e w' ⟨rfl,⟨nd,rfl⟩⟩;(try first | exact ⟨rfl,_,World.drewN_drewN _ _ _⟩ | exact ⟨rfl,_,Eq.trans (World.drewN_drewN _ _ _) (congrArg (World.drewN _) (Nat.add_assoc _ _ _))⟩))))
       go_roundg kj5
       case measure=>have:=HK1.out;have:=HJ5.out;omega
       case rel=>exact ⟨(y453),(t456),(sq),H',⟨by have:=HK1.out;have:=HJ5.out;omega⟩,⟨rq HO455.out⟩,⟨bq⟩⟩
      ·rw [if_neg c14] at H
       exact absurd H (by simp)
     ·replace c13:=Bool.eq_false_iff.mpr c13
      subst c13
      have H1:(some x5_1)=some r:=by rw [if_neg (show ¬ (false=true) by decide)] at H;exact H
      clear H
      have H:=H1
      clear H1
      obtain rfl:=Option.some.inj H
      go_wp2
      repeat (go_quiet (fail);try go_wp2)
      go_ret
      exact ⟨_,Y0,rq HO_5.out,bq⟩
def jTa.go (p : List S36) : List Int → Int → Int → Option (Option Int)
 | [],ex,_=>some (some ex)
 | k :: ks,ex,last=>if 0≤k then if k<(p.length:Int) then
   if (jc p k).f1=8 then if last≤8 then jTa.go p ks (ex+1) (jc p k).f1 else some none
   else if (jc p k).f1=9 then if last=8 then jTa.go p ks ex (jc p k).f1 else some none
   else if (jc p k).f1=10 then if last<10 then jTa.go p ks ex (jc p k).f1 else some none
   else some none
  else none else none
def jTa.f (l0 : List S36) (l1 : List Int) : Option Bool := if 1 ≤ l1.length then (jTa.go l0 (l1.drop 1) 0 7).bind fun r => match r with | none => some false | some ex => some (decide (1 < l1.length) && decide (ex ≤ 6)) else none
theorem jTa.step {p : List S36} {l : List Int} {k : Nat} {ex last : Int} {r : Option Int} (hk : k < l.length) (h : jTa.go p (l.drop k) ex last = some r) : jTa.go p (l[k] :: l.drop (k + 1)) ex last = some r := by
 rw [← List.drop_eq_getElem_cons hk];exact h
set_option maxHeartbeats 8000000 in
set_option maxRecDepth 100000 in
theorem jTa.calls (A0 : Option Addr) (c0 : Nat) (l0 : List S36) (A1 : Option Addr) (c1 : Nat) (l1 : List Int) (r : Bool) (w : World) (hr0 : Kd.C k36 w A0 l0.length l0) (hc0 : l0.length ≤ c0) (hr1 : Kd.C (Kd.int .i64) w A1 l1.length l1) (hc1 : l1.length ≤ c1) (h : jTa.f l0 l1 = some r) :
  Calls Try.prog 68 #[.slice A0 l0.length c0, .slice A1 l1.length c1] w fun e w'=>e=.returned (.bool r)∧jsb w w':=by
 have hu36:=Try.underlying36
 have hm:l1.length≤9223372036854775807:=Kd.C_max hr1
 simp only [jTa.f] at h
 by_cases h1:1≤l1.length
 ·rw [if_pos h1] at h
  obtain ⟨q,hq,h⟩:=bzS h
  have HR0:=am hr0
  have HR1:=am hr1
  have H0:=am hq
  have HZ:=am h
  have h1b:(1:Int)≤(l1.length:Int):=by omega
  obtain ⟨i03,hi03,_,hsz3,_⟩:=info_parts info3
  obtain ⟨A',hcut,hA',hC'⟩:=print_drop_of (P:=Try.prog) (Value.int .i64) (0:Int) 29 3 .i64 Try.underlying29 hi03 hsz3 A1 c1 l1 1 (by omega) h1b hc1
  replace hA':=hA' _ (Kd.reads_of_C hr1)
  rw [show ((1:Int)).toNat=1 from rfl] at hcut hA' hC'
  generalize hl2:l1.drop 1=l2 at hcut hA' hC' H0
  have hdl:l2.length<l1.length:=by rw [← hl2,List.length_drop];omega
  clear hl2
  have HS:=am hA'
  clear hr0 hr1 hq h hA' hi03 hsz3
  go_enter Try.func68,Try.ntmps68
  go_wp2
  go_loop [5,6,13] (fun i5 i6 i13=>∃ (k:Nat) (ex last:Int),i13=.int .i64 k∧i5=.int .i64 ex∧i6=.int .i64 last∧k≤l2.length∧0≤ex∧ex≤(k:Int)∧jq (jTa.go l0 (l2.drop k) ex last=some q)) (fun _ _ i13=>l2.length - (intOf i13).toNat)
  case atStart=>exact ⟨0,0,7,rfl,rfl,rfl,Nat.zero_le _,by omega,by omega,H0⟩
  case round =>
   clear H0
   obtain ⟨k,ex,last,rfl,rfl,rfl,hk,hx0,hx1,HA⟩:=hrel
   by_cases hlt:k<l2.length
   ·have HB:=am (jTa.step hlt HA.out)
    clear HA
    have HC:=HS.out
    obtain ⟨ad,rfl,hx⟩:=Kd.jtb (Kd.C_of_reads (h1:=fun _=>rfl) HC) (k:Int) (by omega) (by omega)
    have hrd:rd l2 (k:Int)=l2[k]:=by simp only [rd,Int.toNat_natCast,List.getD_eq_getElem?_getD,List.getElem?_eq_getElem hlt,Option.getD_some]
    rw [hrd,Int.toNat_natCast] at hx
    clear hrd HC
    have hgo:=HB.out
    generalize l2[k]=x at hgo hx
    simp only [jTa.go] at hgo
    clear HB
    by_cases h0:0≤x
    ·rw [if_pos h0] at hgo
     by_cases h2:x<(l0.length:Int)
     ·rw [if_pos h2] at hgo
      obtain ⟨ad0,rfl,hy0,hy1,hy2,hy3⟩:=jna HR0.out x h0 h2
      generalize hkd:(jc l0 x).f1=kd at hgo hy1
      clear hkd
      have q2:=ezT h2
      have q0:=ezT h0
      clear h0 h2
      by_cases e8:kd=8
      ·subst e8
       rw [if_pos rfl] at hgo
       by_cases hl:last≤8
       ·rw [if_pos hl] at hgo
        have hlb:=dzT hl
        clear hl
        have HG:=am hgo
        clear hgo HZ
        go_wp2
        go_round
        case rel=>exact ⟨k+1,ex+1,_,by go_num,rfl,rfl,hlt,by omega,by omega,HG⟩
        case measure=>simp [intOf];omega
       ·rw [if_neg hl] at hgo
        have hlb:=dzF hl
        clear hl
        obtain rfl:none=q:=by simpa using hgo
        have HR:=am (by simpa using HZ.out:r=false)
        clear hgo HZ
        go_wp2
        go_ret
        exact ⟨by rw [HR.out];rfl,jsb.refl _⟩
      ·rw [if_neg e8] at hgo
       have e8b:(kd == 8)=false:=beq_eq_false_iff_ne.2 e8
       clear e8
       by_cases e9:kd=9
       ·subst e9
        rw [if_pos rfl] at hgo
        by_cases hl:last=8
        ·rw [if_pos hl] at hgo
         have hlb:(last == 8)=true:=beq_iff_eq.2 hl
         clear hl
         have HG:=am hgo
         clear hgo HZ
         go_wp2
         go_round
         case rel=>exact ⟨k+1,ex,_,by go_num,rfl,rfl,hlt,by omega,by omega,HG⟩
         case measure=>simp [intOf];omega
        ·rw [if_neg hl] at hgo
         have hlb:(last == 8)=false:=beq_eq_false_iff_ne.2 hl
         clear hl
         obtain rfl:none=q:=by simpa using hgo
         have HR:=am (by simpa using HZ.out:r=false)
         clear hgo HZ
         go_wp2
         go_ret
         exact ⟨by rw [HR.out];rfl,jsb.refl _⟩
       ·rw [if_neg e9] at hgo
        have e9b:(kd == 9)=false:=beq_eq_false_iff_ne.2 e9
        clear e9
        by_cases e10:kd=10
        ·subst e10
         rw [if_pos rfl] at hgo
         by_cases hl:last<10
         ·rw [if_pos hl] at hgo
          have hlb:=dzT hl
          clear hl
          have HG:=am hgo
          clear hgo HZ
          go_wp2
          go_round
          case rel=>exact ⟨k+1,ex,_,by go_num,rfl,rfl,hlt,by omega,by omega,HG⟩
          case measure=>simp [intOf];omega
         ·rw [if_neg hl] at hgo
          have hlb:=dzF hl
          clear hl
          obtain rfl:none=q:=by simpa using hgo
          have HR:=am (by simpa using HZ.out:r=false)
          clear hgo HZ
          go_wp2
          go_ret
          exact ⟨by rw [HR.out];rfl,jsb.refl _⟩
        ·rw [if_neg e10] at hgo
         have e10b:(kd == 10)=false:=beq_eq_false_iff_ne.2 e10
         clear e10
         obtain rfl:none=q:=by simpa using hgo
         have HR:=am (by simpa using HZ.out:r=false)
         clear hgo HZ
         go_wp2
         go_ret
         exact ⟨by rw [HR.out];rfl,jsb.refl _⟩
     ·rw [if_neg h2] at hgo
      cases hgo
    ·rw [if_neg h0] at hgo
     cases hgo
   ·have hgo:=HA.out
    rw [List.drop_eq_nil_of_le (by omega)] at hgo
    obtain rfl:some ex=q:=by simpa [jTa.go] using hgo
    clear hgo HA
    have HY:=am (Option.some.inj HZ.out)
    clear HZ
    by_cases h1c:1<l1.length
    ·have hb1:=dzT h1c
     go_wp2
     go_ret
     exact ⟨by rw [← HY.out,hb1];rfl,jsb.refl _⟩
    ·have hb1:=dzF h1c
     go_wp2
     go_ret
     exact ⟨by rw [← HY.out,hb1];rfl,jsb.refl _⟩
 ·rw [if_neg h1] at h
  cases h
mutual
def jo.l0 : Nat → List (S36) → Bool → List Int → Int → Option (Bool)
 | 0,_,_,_,_=>none
 | k+1,x0,x3,x9,x10=>if x10<(x9.length:Int) then (if 0≤x10 then (if 0≤(rd x9 x10) then (if (rd x9 x10)<(x0.length:Int) then (if ((jc x0 (rd x9 x10)).f1)=5 then (jo.j1 k x0 x3 x9 x10 (rd x9 x10) ((jc x0 (rd x9 x10)).f1) ((jc x0 (rd x9 x10)).f1) (((jc x0 (rd x9 x10)).f1) == 5)) else (jo.j1 k x0 x3 x9 x10 (rd x9 x10) ((jc x0 (rd x9 x10)).f1) ((jc x0 (rd x9 x10)).f1) (((jc x0 (rd x9 x10)).f1) == 6))) else (none)) else (none)) else (none)) else (some true)
def jo.j1 : Nat → List (S36) → Bool → List Int → Int → Int → Int → Int → Bool → Option (Bool)
 | 0,_,_,_,_,_,_,_,_=>none
 | k+1,x0,x3,x9,x10,x11,x12,x35,x36=>if x36=true then (if x3=true then (jo.l0 k x0 x3 x9 (wrap64 (x10+1))) else (some false)) else (if x35=8 then (jo.j2 k x0 x3 x9 x10 x11 x12 x35 (x35 == 8)) else (if x35=9 then (jo.j2 k x0 x3 x9 x10 x11 x12 x35 (x35 == 9)) else (jo.j2 k x0 x3 x9 x10 x11 x12 x35 (x35 == 10))))
def jo.j2 : Nat → List (S36) → Bool → List Int → Int → Int → Int → Int → Bool → Option (Bool)
 | 0,_,_,_,_,_,_,_,_=>none
 | k+1,x0,x3,x9,x10,x11,x12,x35,x41=>if x41=true then (some false) else (if x35=7 then ((jha.f k x0 x11).bind fun t462=>((jTa.f x0 t462).bind fun t465=>(if t465=true then (jo.l1 k x0 x3 x9 x10 t462 t462 (t462.length:Int) 0) else (some false)))) else (if x35=11 then (jo.j4 k x0 x3 x9 x10 x11 x12 (x35 == 11)) else (jo.j4 k x0 x3 x9 x10 x11 x12 (x35 == 12))))
def jo.l1 : Nat → List (S36) → Bool → List Int → Int → List Int → List Int → Int → Int → Option (Bool)
 | 0,_,_,_,_,_,_,_,_=>none
 | k+1,x0,x3,x9,x10,x13,x54,x55,x56=>if x56<x55 then (if 0≤x56 then (if x56<(x54.length:Int) then ((jpa.f k x0 (rd x54 x56)).bind fun t467=>((jo.f k x0 (wrap64 ((rd x54 x56)+1)) t467 x3).bind fun t468=>(if t468=true then (jo.l1 k x0 x3 x9 x10 x13 x54 x55 (wrap64 (x56+1))) else (some false)))) else (none)) else (none)) else (jo.l0 k x0 x3 x9 (wrap64 ((wrap64 (x10+(wrap64 ((x13.length:Int) - 1))))+1)))
def jo.j4 : Nat → List (S36) → Bool → List Int → Int → Int → Int → Bool → Option (Bool)
 | 0,_,_,_,_,_,_,_=>none
 | k+1,x0,x3,x9,x10,x11,x12,x75=>if x75=true then ((jpa.f k x0 x11).bind fun t469=>(if x3=true then ((jo.f k x0 (wrap64 (x11+1)) t469 true).bind fun t470=>(if t470=true then (jo.l0 k x0 x3 x9 (wrap64 (x10+1))) else (some false))) else ((jo.f k x0 (wrap64 (x11+1)) t469 (x12 == 12)).bind fun t471=>(if t471=true then (jo.l0 k x0 x3 x9 (wrap64 (x10+1))) else (some false))))) else (jo.l0 k x0 x3 x9 (wrap64 (x10+1)))
def jo.f : Nat → List (S36) → Int → Int → Bool → Option (Bool)
 | 0,_,_,_,_=>none
 | k+1,l0,a1,a2,a3=>(jJa.f k l0 a1 a2).bind fun t457=>(jo.l0 k l0 a3 t457 0)
end
set_option maxHeartbeats 8000000 in
set_option maxRecDepth 100000 in
theorem jo.calls (k : Nat) : ∀ (A0 : Option Addr) (c0 : Nat) (l0 : List (S36)) (a1 : Int) (a2 : Int) (a3 : Bool) (r : Bool) (w : World) (hr0 : Kd.C k36 w A0 l0.length l0) (hc0 : l0.length ≤ c0) (h : jo.f k l0 a1 a2 a3 = some r),
  Calls Try.prog 40 #[.slice A0 l0.length c0, .int .i64 a1, .int .i64 a2, .bool a3] w fun e w'=>e=.returned (.bool r)∧Below w.heap.size w w':=by
 induction k using Nat.strongRecOn with
 | _ k ih =>
 intro A0 c0 l0 a1 a2 a3 r w hr0 hc0 h
 cases k with
 | zero=>exact absurd h (by simp [jo.f])
 | succ k =>
 simp only [jo.f] at h
 have HR0:=am hr0
 have HC0:=am hc0
 clear hr0 hc0
 have HB:=am (Below.refl w.heap.size w)
 have H:((jJa.f k l0 a1 a2).bind fun t457=>(jo.l0 k l0 a3 t457 0))=some r:=h
 clear h
 replace H:=bzS H
 obtain ⟨t457,A50,H⟩:=H
 replace H:(jo.l0 k l0 a3 t457 0)=some r:=H
 have A5:=am A50
 clear A50
 have H':=am H
 clear H
 go_enter Try.func40,Try.ntmps40
 go_wp2_with (first |((with_reducible refine jd (f:=66) rfl ?_);refine gL (some 19) Try.func66 #[.slice A0 l0.length c0, .int .i64 a1, .int .i64 a2] ?_;(with_reducible refine (jJa.calls k _ _ l0 a1 a2 t457 _ ?side1 ?side2 A5.out).mono ?_);(case side1=>exact Y35);(case side2=>exact HC0.out);rintro e w6 ⟨v458,rfl,ho0,hb⟩;refine ⟨_,rfl,?_⟩;have HO459:=am (Kd.jaa ho0 (jma (bq)));replace HB:=am (je (bq) hb);(try clear hb);(try clear hb2);(try clear hk);(try clear hi);(try clear ho0)))
 go_loopg [10] k (fun kq v10 w'=>∃ (x10_1:Int),v10=.int .i64 x10_1∧jq (jo.l0 kq l0 a3 t457 x10_1=some r)∧jq (kq≤k)∧jq (Kd.R (Kd.int .i64) 3 w' w.heap.size (fun _=>True) v458 t457)∧jq (Below w.heap.size w w'))
 case atStart=>exact ⟨(0),(sq),H',⟨Nat.le_refl _⟩,⟨rq HO459.out⟩,⟨bq⟩⟩
 case round =>
  clear H'
  try clear p2
  try clear c4
  try clear c6
  obtain ⟨x10_1,rfl,HA,HK1,HO_9,HB⟩:=hrel
  cases gk with
  | zero=>exact absurd HA.out (by simp [jo.l0])
  | succ k1 =>
   have H:=HA.out
   clear HA
   simp only [jo.l0] at H
   by_cases c7:x10_1<(t457.length:Int)
   ·rw [if_pos c7] at H
    have c7b0:decide (x10_1<(t457.length:Int))=true:=dzT c7
    clear c7
    by_cases c8:0≤x10_1
    ·rw [if_pos c8] at H
     have c8b0:decide (0≤x10_1)=true:=dzT c8
     clear c8
     by_cases c9:0≤(rd t457 x10_1)
     ·rw [if_pos c9] at H
      have c9b0:decide (0≤(rd t457 x10_1))=true:=dzT c9
      clear c9
      by_cases c10:(rd t457 x10_1)<(l0.length:Int)
      ·rw [if_pos c10] at H
       have c10b0:decide ((rd t457 x10_1)<(l0.length:Int))=true:=dzT c10
       clear c10
       have HC11:=am H
       clear H
       obtain ⟨Ao12,co12,eo12⟩:=Kd.jka HO_9.out
       subst eo12
       have p460:0≤(x10_1:Int):=ozD (uq)
       have q460:x10_1<(t457.length:Int):=ozD (uq)
       obtain ⟨ad460,e460,hx460_0⟩:=Kd.jtb (Kd.jy HO_9.out).2.2 x10_1 p460 q460
       cases e460
       replace p460:=ezT p460
       replace q460:=ezT q460
       have p461:0≤((rd t457 x10_1):Int):=ozD (uq)
       have q461:(rd t457 x10_1)<(l0.length:Int):=ozD (uq)
       obtain ⟨ad461,e461,hx461_0,hx461_1,hx461_2,hx461_3⟩:=jna HR0.out (rd t457 x10_1) p461 q461
       cases e461
       replace hx461_0:=cb HB.out hx461_0
       replace hx461_1:=cb HB.out hx461_1
       replace hx461_2:=cb HB.out hx461_2
       replace hx461_3:=cb HB.out hx461_3
       replace p461:=ezT p461
       replace q461:=ezT q461
       go_upto_if 36 with (fail)
       go_cut [36] (fun v36 wc=>∃ (kq:Nat) (x36_10:Bool),v36=.bool x36_10∧jq (jo.j1 kq l0 a3 t457 x10_1 (rd t457 x10_1) ((jc l0 (rd t457 x10_1)).f1) ((jc l0 (rd t457 x10_1)).f1) x36_10=some r)∧jq (kq≤k1)∧jq (Kd.R (Kd.int .i64) 3 wc w.heap.size (fun _=>True) (.slice (some ad460) t457.length co12) t457)∧jq (Below w.heap.size w wc))
       case first =>
        have H:=HC11.out
        clear HC11
        by_cases c13:((jc l0 (rd t457 x10_1)).f1)=5
        ·rw [if_pos c13] at H
         have c13b0:(((jc l0 (rd t457 x10_1)).f1) == 5)=true:=beq_iff_eq.mpr c13
         have c13b1:(((jc l0 (rd t457 x10_1)).f1) != 5)=false:=bne_eq_false_iff_eq.mpr c13
         clear c13
         (first | rw [c13b0] |(simp only [jkb,jmb];rw [c13b0]) | skip)
         have H':=am H
         clear H
         go_wp2
         go_meet
         case rel=>exact ⟨_,((((jc l0 (rd t457 x10_1)).f1) == 5)),(sq),H',⟨by have:=HK1.out;first | omega | exact Nat.le_refl _⟩,⟨rq HO_9.out⟩,⟨bq⟩⟩
        ·rw [if_neg c13] at H
         have c13b0:(((jc l0 (rd t457 x10_1)).f1) == 5)=false:=beq_eq_false_iff_ne.mpr c13
         have c13b1:(((jc l0 (rd t457 x10_1)).f1) != 5)=true:=bne_iff_ne.mpr c13
         (first | rw [c13b0] |(simp only [jkb,jmb];rw [c13b0]) | skip)
         have H':=am H
         clear H
         go_wp2
         go_meet
         case rel=>exact ⟨_,((((jc l0 (rd t457 x10_1)).f1) == 6)),(sq),H',⟨by have:=HK1.out;first | omega | exact Nat.le_refl _⟩,⟨rq HO_9.out⟩,⟨bq⟩⟩
       case rest =>
        clear HC11
        try clear c1
        try clear p2
        try clear c4
        try clear p4
        try clear q4
        try clear hx4
        try clear c6
        try clear c7
        try clear c7b0
        try clear c8
        try clear c8b0
        try clear c9
        try clear c9b0
        try clear c10
        try clear c10b0
        try clear c13
        try clear c13b0
        try clear c13b1
        try clear hx460_0
        try clear hx461_0
        try clear hx461_1
        try clear hx461_2
        try clear hx461_3
        try clear p2
        try clear p460
        try clear p461
        try clear q460
        try clear q461
        obtain ⟨kq,x36_10,rfl,HA,HJ10,HO_9,HB⟩:=hcut
        cases kq with
        | zero=>exact absurd HA.out (by simp [jo.j1])
        | succ kj10 =>
         have H:=HA.out
         clear HA
         simp only [jo.j1] at H
         by_cases c14:x36_10=true
         ·subst c14
          have H1:(if a3=true then (jo.l0 kj10 l0 a3 t457 (wrap64 (x10_1+1))) else (some false))=some r:=by rw [if_pos rfl] at H;exact H
          clear H
          have H:=H1
          clear H1
          by_cases c15:a3=true
          ·subst c15
           have H1:(jo.l0 kj10 l0 true t457 (wrap64 (x10_1+1)))=some r:=by rw [if_pos rfl] at H;exact H
           clear H
           have H:=H1
           clear H1
           have H':=am H
           clear H
           go_wp2
           go_roundg kj10
           case measure=>have:=HK1.out;have:=HJ10.out;omega
           case rel=>exact ⟨(wrap64 (x10_1+1)),(sq),H',⟨by have:=HK1.out;have:=HJ10.out;omega⟩,⟨rq HO_9.out⟩,⟨bq⟩⟩
          ·replace c15:=Bool.eq_false_iff.mpr c15
           subst c15
           have H1:(some false)=some r:=by rw [if_neg (show ¬ (false=true) by decide)] at H;exact H
           clear H
           have H:=H1
           clear H1
           obtain rfl:=Option.some.inj H
           go_wp2
           go_ret
           exact ⟨Y0,bq⟩
         ·replace c14:=Bool.eq_false_iff.mpr c14
          subst c14
          have H1:(if ((jc l0 (rd t457 x10_1)).f1)=8 then (jo.j2 kj10 l0 a3 t457 x10_1 (rd t457 x10_1) ((jc l0 (rd t457 x10_1)).f1) ((jc l0 (rd t457 x10_1)).f1) (((jc l0 (rd t457 x10_1)).f1) == 8)) else (if ((jc l0 (rd t457 x10_1)).f1)=9 then (jo.j2 kj10 l0 a3 t457 x10_1 (rd t457 x10_1) ((jc l0 (rd t457 x10_1)).f1) ((jc l0 (rd t457 x10_1)).f1) (((jc l0 (rd t457 x10_1)).f1) == 9)) else (jo.j2 kj10 l0 a3 t457 x10_1 (rd t457 x10_1) ((jc l0 (rd t457 x10_1)).f1) ((jc l0 (rd t457 x10_1)).f1) (((jc l0 (rd t457 x10_1)).f1) == 10))))=some r:=by rw [if_neg (show ¬ (false=true) by decide)] at H;exact H
          clear H
          have H:=H1
          clear H1
          have HC16:=am H
          clear H
          go_upto_if 41 with (fail)
          go_cut [41] (fun v41 wc=>∃ (kq:Nat) (x41_15:Bool),v41=.bool x41_15∧jq (jo.j2 kq l0 a3 t457 x10_1 (rd t457 x10_1) ((jc l0 (rd t457 x10_1)).f1) ((jc l0 (rd t457 x10_1)).f1) x41_15=some r)∧jq (kq≤kj10)∧jq (Kd.R (Kd.int .i64) 3 wc w.heap.size (fun _=>True) (.slice (some ad460) t457.length co12) t457)∧jq (Below w.heap.size w wc))
          case first =>
           have H:=HC16.out
           clear HC16
           by_cases c17:((jc l0 (rd t457 x10_1)).f1)=8
           ·rw [if_pos c17] at H
            have c17b0:(((jc l0 (rd t457 x10_1)).f1) == 8)=true:=beq_iff_eq.mpr c17
            have c17b1:(((jc l0 (rd t457 x10_1)).f1) != 8)=false:=bne_eq_false_iff_eq.mpr c17
            clear c17
            (first | rw [c17b0] |(simp only [jkb,jmb];rw [c17b0]) | skip)
            have H':=am H
            clear H
            go_wp2
            go_meet
            case rel=>exact ⟨_,((((jc l0 (rd t457 x10_1)).f1) == 8)),(sq),H',⟨by have:=HK1.out;have:=HJ10.out;first | omega | exact Nat.le_refl _⟩,⟨rq HO_9.out⟩,⟨bq⟩⟩
           ·rw [if_neg c17] at H
            have c17b0:(((jc l0 (rd t457 x10_1)).f1) == 8)=false:=beq_eq_false_iff_ne.mpr c17
            have c17b1:(((jc l0 (rd t457 x10_1)).f1) != 8)=true:=bne_iff_ne.mpr c17
            (first | rw [c17b0] |(simp only [jkb,jmb];rw [c17b0]) | skip)
            by_cases c18:((jc l0 (rd t457 x10_1)).f1)=9
            ·rw [if_pos c18] at H
             have c18b0:(((jc l0 (rd t457 x10_1)).f1) == 9)=true:=beq_iff_eq.mpr c18
             have c18b1:(((jc l0 (rd t457 x10_1)).f1) != 9)=false:=bne_eq_false_iff_eq.mpr c18
             clear c18
             have H':=am H
             clear H
             go_wp2
             go_meet
             case rel=>exact ⟨_,((((jc l0 (rd t457 x10_1)).f1) == 9)),(sq),H',⟨by have:=HK1.out;have:=HJ10.out;first | omega | exact Nat.le_refl _⟩,⟨rq HO_9.out⟩,⟨bq⟩⟩
            ·rw [if_neg c18] at H
             have c18b0:(((jc l0 (rd t457 x10_1)).f1) == 9)=false:=beq_eq_false_iff_ne.mpr c18
             have c18b1:(((jc l0 (rd t457 x10_1)).f1) != 9)=true:=bne_iff_ne.mpr c18
             have H':=am H
             clear H
             go_wp2
             go_meet
             case rel=>exact ⟨_,((((jc l0 (rd t457 x10_1)).f1) == 10)),(sq),H',⟨by have:=HK1.out;have:=HJ10.out;first | omega | exact Nat.le_refl _⟩,⟨rq HO_9.out⟩,⟨bq⟩⟩
          case rest =>
           clear HC16
           try clear c1
           try clear p2
           try clear c4
           try clear p4
           try clear q4
           try clear hx4
           try clear c6
           try clear p6
           try clear c7
           try clear c7b0
           try clear c8
           try clear c8b0
           try clear c9
           try clear c9b0
           try clear c10
           try clear c10b0
           try clear c13
           try clear c13b0
           try clear c13b1
           try clear c14
           try clear c15
           try clear c17
           try clear c17b0
           try clear c17b1
           try clear c18
           try clear c18b0
           try clear c18b1
           try clear hx460_0
           try clear hx461_0
           try clear hx461_1
           try clear hx461_2
           try clear hx461_3
           try clear p2
           try clear p4
           try clear p460
           try clear p461
           try clear q4
           try clear q460
           try clear q461
           obtain ⟨kq,x41_15,rfl,HA,HJ15,HO_9,HB⟩:=hcut
           cases kq with
           | zero=>exact absurd HA.out (by simp [jo.j2])
           | succ kj15 =>
            have H:=HA.out
            clear HA
            simp only [jo.j2] at H
            by_cases c19:x41_15=true
            ·subst c19
             have H1:(some false)=some r:=by rw [if_pos rfl] at H;exact H
             clear H
             have H:=H1
             clear H1
             obtain rfl:=Option.some.inj H
             go_wp2
             go_ret
             exact ⟨Y0,bq⟩
            ·replace c19:=Bool.eq_false_iff.mpr c19
             subst c19
             have H1:(if ((jc l0 (rd t457 x10_1)).f1)=7 then ((jha.f kj15 l0 (rd t457 x10_1)).bind fun t462=>((jTa.f l0 t462).bind fun t465=>(if t465=true then (jo.l1 kj15 l0 a3 t457 x10_1 t462 t462 (t462.length:Int) 0) else (some false)))) else (if ((jc l0 (rd t457 x10_1)).f1)=11 then (jo.j4 kj15 l0 a3 t457 x10_1 (rd t457 x10_1) ((jc l0 (rd t457 x10_1)).f1) (((jc l0 (rd t457 x10_1)).f1) == 11)) else (jo.j4 kj15 l0 a3 t457 x10_1 (rd t457 x10_1) ((jc l0 (rd t457 x10_1)).f1) (((jc l0 (rd t457 x10_1)).f1) == 12))))=some r:=by rw [if_neg (show ¬ (false=true) by decide)] at H;exact H
             clear H
             have H:=H1
             clear H1
             by_cases c20:((jc l0 (rd t457 x10_1)).f1)=7
             ·rw [if_pos c20] at H
              have c20b0:(((jc l0 (rd t457 x10_1)).f1) == 7)=true:=beq_iff_eq.mpr c20
              have c20b1:(((jc l0 (rd t457 x10_1)).f1) != 7)=false:=bne_eq_false_iff_eq.mpr c20
              clear c20
              replace H:=bzS H
              obtain ⟨t462,A210,H⟩:=H
              replace H:((jTa.f l0 t462).bind fun t465=>(if t465=true then (jo.l1 kj15 l0 a3 t457 x10_1 t462 t462 (t462.length:Int) 0) else (some false)))=some r:=H
              have A21:=am A210
              clear A210
              replace H:=bzS H
              obtain ⟨t465,A220,H⟩:=H
              replace H:(if t465=true then (jo.l1 kj15 l0 a3 t457 x10_1 t462 t462 (t462.length:Int) 0) else (some false))=some r:=H
              have A22:=am A220
              clear A220
              by_cases c23:t465=true
              ·subst c23
               have H1:(jo.l1 kj15 l0 a3 t457 x10_1 t462 t462 (t462.length:Int) 0)=some r:=by rw [if_pos rfl] at H;exact H
               clear H
               have H:=H1
               clear H1
               have H':=am H
               clear H
               go_wp2_with (first |((with_reducible refine jd (f:=67) rfl ?_);refine gL (some 49) Try.func67 #[.slice (some ad461) l0.length c0, .int .i64 (rd t457 x10_1)] ?_;(with_reducible refine (jha.calls kj15 _ _ l0 (rd t457 x10_1) t462 _ ?side1 ?side2 A21.out).mono ?_);(case side1=>exact cq (Kd.jT HR0.out HB.out));(case side2=>exact HC0.out);rintro e w24 ⟨v463,rfl,ho0,hb⟩;refine ⟨_,rfl,?_⟩;have HO464:=am (Kd.jaa (Kd.jFc ho0 (Kd.R_lt (rq HO_9.out))) (jma (bq)));replace HO_9:=am (Kd.R_elder' (rq HO_9.out) (Kd.jGc ho0) hb);replace HB:=am (je (bq) hb);(try clear hb);(try clear hb2);(try clear hk);(try clear hi);(try clear ho0);obtain ⟨Ao25,co25,eo25⟩:=Kd.jka HO464.out;subst eo25) |((with_reducible refine jd (f:=68) rfl ?_);refine gL (some 52) Try.func68 #[.slice (some ad461) l0.length c0, .slice Ao25 t462.length co25] ?_;(with_reducible refine (jTa.calls _ _ l0 _ _ t462 true _ ?side1 ?side2 ?side3 ?side4 A22.out).mono ?_);(case side1=>exact cq (Kd.jT HR0.out HB.out));(case side2=>exact HC0.out);(case side3=>exact cq (Kd.jy HO464.out).2.2);(case side4=>exact (Kd.jy HO464.out).2.1);rintro e w' ⟨rfl,⟨nd,rfl⟩⟩;refine ⟨_,rfl,?_⟩))
               go_loopg [56] kj15 (fun kq v56 w'=>∃ (x56_4:Int),v56=.int .i64 x56_4∧jq (jo.l1 kq l0 a3 t457 x10_1 t462 t462 (t462.length:Int) x56_4=some r)∧jq (kq≤kj15)∧jq (Kd.R (Kd.int .i64) 3 w' w.heap.size (fun k_=>some k_≠((.slice Ao25 t462.length co25):Value).ownBlock∧some k_≠((.slice Ao25 t462.length co25):Value).ownBlock) (.slice (some ad460) t457.length co12) t457)∧jq (Kd.R (Kd.int .i64) 3 w' w.heap.size (fun k_=>some k_≠((.slice (some ad460) t457.length co12):Value).ownBlock) (.slice Ao25 t462.length co25) t462)∧jq (Kd.R (Kd.int .i64) 3 w' w.heap.size (fun k_=>some k_≠((.slice (some ad460) t457.length co12):Value).ownBlock) (.slice Ao25 t462.length co25) t462)∧jq (Below w.heap.size w w'))
               case atStart=>exact ⟨(0),(sq),H',⟨Nat.le_refl _⟩,⟨by (with_reducible repeat (first | apply Kd.jga | apply Kd.jfa | apply Kd.jea));exact Kd.jI HO_9.out (fun _ hk=>⟨hk.2,hk.2⟩)⟩,⟨by (with_reducible repeat (first | apply Kd.jga | apply Kd.jfa | apply Kd.jea));exact Kd.jI HO464.out (fun _ hk=>hk.2)⟩,⟨by (with_reducible repeat (first | apply Kd.jga | apply Kd.jfa | apply Kd.jea));exact Kd.jI HO464.out (fun _ hk=>hk.2)⟩,⟨bq⟩⟩
               case round =>
                clear H'
                try clear c1
                try clear c2
                try clear p2
                try clear c4
                try clear p4
                try clear q4
                try clear hx4
                try clear c6
                try clear p6
                try clear c7
                try clear c7b0
                try clear c8
                try clear c8b0
                try clear c9
                try clear c9b0
                try clear c10
                try clear c10b0
                try clear c13
                try clear c13b0
                try clear c13b1
                try clear c14
                try clear c15
                try clear c17
                try clear c17b0
                try clear c17b1
                try clear c18
                try clear c18b0
                try clear c18b1
                try clear c19
                try clear c20
                try clear c20b0
                try clear c20b1
                try clear c23
                try clear hx460_0
                try clear hx461_0
                try clear hx461_1
                try clear hx461_2
                try clear hx461_3
                try clear p2
                try clear p4
                try clear p460
                try clear p461
                try clear p6
                try clear q4
                try clear q460
                try clear q461
                obtain ⟨x56_4,rfl,HA,HK4,HO_9,HO_13,HO_54,HB⟩:=hrel
                cases gk with
                | zero=>exact absurd HA.out (by simp [jo.l1])
                | succ k4 =>
                 have H:=HA.out
                 clear HA
                 simp only [jo.l1] at H
                 by_cases c26:x56_4<(t462.length:Int)
                 ·rw [if_pos c26] at H
                  have c26b0:decide (x56_4<(t462.length:Int))=true:=dzT c26
                  clear c26
                  by_cases c27:0≤x56_4
                  ·rw [if_pos c27] at H
                   have c27b0:decide (0≤x56_4)=true:=dzT c27
                   clear c27
                   by_cases c28:x56_4<(t462.length:Int)
                   ·rw [if_pos c28] at H
                    have c28b0:decide (x56_4<(t462.length:Int))=true:=dzT c28
                    clear c28
                    replace H:=bzS H
                    obtain ⟨t467,A290,H⟩:=H
                    replace H:((jo.f k4 l0 (wrap64 ((rd t462 x56_4)+1)) t467 a3).bind fun t468=>(if t468=true then (jo.l1 k4 l0 a3 t457 x10_1 t462 t462 (t462.length:Int) (wrap64 (x56_4+1))) else (some false)))=some r:=H
                    have A29:=am A290
                    clear A290
                    replace H:=bzS H
                    obtain ⟨t468,A300,H⟩:=H
                    replace H:(if t468=true then (jo.l1 k4 l0 a3 t457 x10_1 t462 t462 (t462.length:Int) (wrap64 (x56_4+1))) else (some false))=some r:=H
                    have A30:=am A300
                    clear A300
                    by_cases c31:t468=true
                    ·subst c31
                     have H1:(jo.l1 k4 l0 a3 t457 x10_1 t462 t462 (t462.length:Int) (wrap64 (x56_4+1)))=some r:=by rw [if_pos rfl] at H;exact H
                     clear H
                     have H:=H1
                     clear H1
                     have H':=am H
                     clear H
                     have p466:0≤(x56_4:Int):=ozD (uq)
                     have q466:x56_4<(t462.length:Int):=ozD (uq)
                     obtain ⟨ad466,e466,hx466_0⟩:=Kd.jtb (Kd.jy HO_54.out).2.2 x56_4 p466 q466
                     cases e466
                     replace p466:=ezT p466
                     replace q466:=ezT q466
                     go_wp2_with (first |((with_reducible refine jd (f:=69) rfl ?_);refine gL (some 65) Try.func69 #[.slice (some ad461) l0.length c0, .int .i64 (rd t462 x56_4)] ?_;(with_reducible refine (jpa.calls k4 _ _ l0 (rd t462 x56_4) t467 _ ?side1 ?side2 A29.out).mono ?_);(case side1=>exact cq (Kd.jT HR0.out HB.out));(case side2=>exact HC0.out);rintro e w' ⟨rfl,⟨nd,rfl⟩⟩;refine ⟨_,rfl,?_⟩) |((with_reducible refine jd (f:=40) rfl ?_);refine gL (some 67) Try.func40 #[.slice (some ad461) l0.length c0, .int .i64 (wrap64 ((rd t462 x56_4)+1)), .int .i64 t467, .bool a3] ?_;(with_reducible refine (ih k4 (by have:=HK1.out;have:=HJ10.out;have:=HJ15.out;have:=HK4.out;omega) _ _ l0 (wrap64 ((rd t462 x56_4)+1)) t467 a3 true _ ?side1 ?side2 A30.out).mono ?_);(case side1=>exact cq (Kd.jT HR0.out (bq)));(case side2=>exact HC0.out);rintro e w32 ⟨rfl,hb⟩;refine ⟨_,rfl,?_⟩;replace HO_9:=am (Kd.jZ (rq HO_9.out) hb);replace HO_13:=am (Kd.jZ (rq HO_13.out) hb);replace HO_54:=am (Kd.jZ (rq HO_54.out) hb);replace HB:=am (je (bq) hb);(try clear hb);(try clear hb2);(try clear hk);(try clear hi)))
                     go_roundg k4
                     case measure=>have:=HK1.out;have:=HJ10.out;have:=HJ15.out;have:=HK4.out;omega
                     case rel=>exact ⟨(wrap64 (x56_4+1)),(sq),H',⟨by have:=HK1.out;have:=HJ10.out;have:=HJ15.out;have:=HK4.out;omega⟩,⟨rq HO_9.out⟩,⟨rq HO_13.out⟩,⟨rq HO_54.out⟩,⟨bq⟩⟩
                    ·replace c31:=Bool.eq_false_iff.mpr c31
                     subst c31
                     have H1:(some false)=some r:=by rw [if_neg (show ¬ (false=true) by decide)] at H;exact H
                     clear H
                     have H:=H1
                     clear H1
                     obtain rfl:=Option.some.inj H
                     have p466:0≤(x56_4:Int):=ozD (uq)
                     have q466:x56_4<(t462.length:Int):=ozD (uq)
                     obtain ⟨ad466,e466,hx466_0⟩:=Kd.jtb (Kd.jy HO_54.out).2.2 x56_4 p466 q466
                     cases e466
                     replace p466:=ezT p466
                     replace q466:=ezT q466
                     go_wp2_with (first |((with_reducible refine jd (f:=69) rfl ?_);refine gL (some 65) Try.func69 #[.slice (some ad461) l0.length c0, .int .i64 (rd t462 x56_4)] ?_;(with_reducible refine (jpa.calls k4 _ _ l0 (rd t462 x56_4) t467 _ ?side1 ?side2 A29.out).mono ?_);(case side1=>exact cq (Kd.jT HR0.out HB.out));(case side2=>exact HC0.out);rintro e w' ⟨rfl,⟨nd,rfl⟩⟩;refine ⟨_,rfl,?_⟩) |((with_reducible refine jd (f:=40) rfl ?_);refine gL (some 67) Try.func40 #[.slice (some ad461) l0.length c0, .int .i64 (wrap64 ((rd t462 x56_4)+1)), .int .i64 t467, .bool a3] ?_;(with_reducible refine (ih k4 (by have:=HK1.out;have:=HJ10.out;have:=HJ15.out;have:=HK4.out;omega) _ _ l0 (wrap64 ((rd t462 x56_4)+1)) t467 a3 false _ ?side1 ?side2 A30.out).mono ?_);(case side1=>exact cq (Kd.jT HR0.out (bq)));(case side2=>exact HC0.out);rintro e w33 ⟨rfl,hb⟩;refine ⟨_,rfl,?_⟩;replace HO_9:=am (Kd.jZ (rq HO_9.out) hb);replace HO_13:=am (Kd.jZ (rq HO_13.out) hb);replace HO_54:=am (Kd.jZ (rq HO_54.out) hb);replace HB:=am (je (bq) hb);(try clear hb);(try clear hb2);(try clear hk);(try clear hi)))
                     go_ret
                     exact ⟨Y0,bq⟩
                   ·rw [if_neg c28] at H
                    exact absurd H (by simp)
                  ·rw [if_neg c27] at H
                   exact absurd H (by simp)
                 ·rw [if_neg c26] at H
                  have c26b0:decide (x56_4<(t462.length:Int))=false:=dzF c26
                  clear c26
                  have H':=am H
                  clear H
                  go_wp2
                  go_roundg k4
                  case measure=>have:=HK1.out;have:=HJ10.out;have:=HJ15.out;have:=HK4.out;omega
                  case rel=>exact ⟨(wrap64 ((wrap64 (x10_1+(wrap64 ((t462.length:Int) - 1))))+1)),(sq),H',⟨by have:=HK1.out;have:=HJ10.out;have:=HJ15.out;have:=HK4.out;omega⟩,⟨by (with_reducible repeat (first | apply Kd.jga | apply Kd.jfa | apply Kd.jea));exact Kd.jI HO_9.out (fun _ hk=>trivial)⟩,⟨bq⟩⟩
              ·replace c23:=Bool.eq_false_iff.mpr c23
               subst c23
               have H1:(some false)=some r:=by rw [if_neg (show ¬ (false=true) by decide)] at H;exact H
               clear H
               have H:=H1
               clear H1
               obtain rfl:=Option.some.inj H
               go_wp2_with (first |((with_reducible refine jd (f:=67) rfl ?_);refine gL (some 49) Try.func67 #[.slice (some ad461) l0.length c0, .int .i64 (rd t457 x10_1)] ?_;(with_reducible refine (jha.calls kj15 _ _ l0 (rd t457 x10_1) t462 _ ?side1 ?side2 A21.out).mono ?_);(case side1=>exact cq (Kd.jT HR0.out HB.out));(case side2=>exact HC0.out);rintro e w34 ⟨v463,rfl,ho0,hb⟩;refine ⟨_,rfl,?_⟩;have HO464:=am (Kd.jaa (Kd.jFc ho0 (Kd.R_lt (rq HO_9.out))) (jma (bq)));replace HO_9:=am (Kd.R_elder' (rq HO_9.out) (Kd.jGc ho0) hb);replace HB:=am (je (bq) hb);(try clear hb);(try clear hb2);(try clear hk);(try clear hi);(try clear ho0);obtain ⟨Ao35,co35,eo35⟩:=Kd.jka HO464.out;subst eo35) |((with_reducible refine jd (f:=68) rfl ?_);refine gL (some 52) Try.func68 #[.slice (some ad461) l0.length c0, .slice Ao35 t462.length co35] ?_;(with_reducible refine (jTa.calls _ _ l0 _ _ t462 false _ ?side1 ?side2 ?side3 ?side4 A22.out).mono ?_);(case side1=>exact cq (Kd.jT HR0.out HB.out));(case side2=>exact HC0.out);(case side3=>exact cq (Kd.jy HO464.out).2.2);(case side4=>exact (Kd.jy HO464.out).2.1);rintro e w' ⟨rfl,⟨nd,rfl⟩⟩;refine ⟨_,rfl,?_⟩))
               go_ret
               exact ⟨Y0,bq⟩
             ·rw [if_neg c20] at H
              have c20b0:(((jc l0 (rd t457 x10_1)).f1) == 7)=false:=beq_eq_false_iff_ne.mpr c20
              have c20b1:(((jc l0 (rd t457 x10_1)).f1) != 7)=true:=bne_iff_ne.mpr c20
              have HC36:=am H
              clear H
              go_upto_if 75 with (fail)
              go_cut [75] (fun v75 wc=>∃ (kq:Nat) (x75_35:Bool),v75=.bool x75_35∧jq (jo.j4 kq l0 a3 t457 x10_1 (rd t457 x10_1) ((jc l0 (rd t457 x10_1)).f1) x75_35=some r)∧jq (kq≤kj15)∧jq (Kd.R (Kd.int .i64) 3 wc w.heap.size (fun _=>True) (.slice (some ad460) t457.length co12) t457)∧jq (Below w.heap.size w wc))
              case first =>
               have H:=HC36.out
               clear HC36
               by_cases c37:((jc l0 (rd t457 x10_1)).f1)=11
               ·rw [if_pos c37] at H
                have c37b0:(((jc l0 (rd t457 x10_1)).f1) == 11)=true:=beq_iff_eq.mpr c37
                have c37b1:(((jc l0 (rd t457 x10_1)).f1) != 11)=false:=bne_eq_false_iff_eq.mpr c37
                clear c37
                (first | rw [c37b0] |(simp only [jkb,jmb];rw [c37b0]) | skip)
                have H':=am H
                clear H
                go_wp2
                go_meet
                case rel=>exact ⟨_,((((jc l0 (rd t457 x10_1)).f1) == 11)),(sq),H',⟨by have:=HK1.out;have:=HJ10.out;have:=HJ15.out;first | omega | exact Nat.le_refl _⟩,⟨rq HO_9.out⟩,⟨bq⟩⟩
               ·rw [if_neg c37] at H
                have c37b0:(((jc l0 (rd t457 x10_1)).f1) == 11)=false:=beq_eq_false_iff_ne.mpr c37
                have c37b1:(((jc l0 (rd t457 x10_1)).f1) != 11)=true:=bne_iff_ne.mpr c37
                (first | rw [c37b0] |(simp only [jkb,jmb];rw [c37b0]) | skip)
                have H':=am H
                clear H
                go_wp2
                go_meet
                case rel=>exact ⟨_,((((jc l0 (rd t457 x10_1)).f1) == 12)),(sq),H',⟨by have:=HK1.out;have:=HJ10.out;have:=HJ15.out;first | omega | exact Nat.le_refl _⟩,⟨rq HO_9.out⟩,⟨bq⟩⟩
              case rest =>
               clear HC36
               try clear c1
               try clear c2
               try clear p2
               try clear c3
               try clear c4
               try clear p4
               try clear q4
               try clear hx4
               try clear c6
               try clear p6
               try clear c7
               try clear c7b0
               try clear c8
               try clear c8b0
               try clear c9
               try clear c9b0
               try clear c10
               try clear c10b0
               try clear c13
               try clear c13b0
               try clear c13b1
               try clear c14
               try clear c15
               try clear c17
               try clear c17b0
               try clear c17b1
               try clear c18
               try clear c18b0
               try clear c18b1
               try clear c19
               try clear c20
               try clear c20b0
               try clear c20b1
               try clear c23
               try clear c26
               try clear c26b0
               try clear c27
               try clear c27b0
               try clear c28
               try clear c28b0
               try clear c31
               try clear c37
               try clear c37b0
               try clear c37b1
               try clear hx460_0
               try clear hx461_0
               try clear hx461_1
               try clear hx461_2
               try clear hx461_3
               try clear hx466_0
               try clear p2
               try clear p4
               try clear p460
               try clear p461
               try clear p466
               try clear p6
               try clear q4
               try clear q460
               try clear q461
               try clear q466
               obtain ⟨kq,x75_35,rfl,HA,HJ35,HO_9,HB⟩:=hcut
               cases kq with
               | zero=>exact absurd HA.out (by simp [jo.j4])
               | succ kj35 =>
                have H:=HA.out
                clear HA
                simp only [jo.j4] at H
                by_cases c38:x75_35=true
                ·subst c38
                 have H1:((jpa.f kj35 l0 (rd t457 x10_1)).bind fun t469=>(if a3=true then ((jo.f kj35 l0 (wrap64 ((rd t457 x10_1)+1)) t469 true).bind fun t470=>(if t470=true then (jo.l0 kj35 l0 a3 t457 (wrap64 (x10_1+1))) else (some false))) else ((jo.f kj35 l0 (wrap64 ((rd t457 x10_1)+1)) t469 (((jc l0 (rd t457 x10_1)).f1) == 12)).bind fun t471=>(if t471=true then (jo.l0 kj35 l0 a3 t457 (wrap64 (x10_1+1))) else (some false)))))=some r:=by rw [if_pos rfl] at H;exact H
                 clear H
                 have H:=H1
                 clear H1
                 replace H:=bzS H
                 obtain ⟨t469,A390,H⟩:=H
                 replace H:(if a3=true then ((jo.f kj35 l0 (wrap64 ((rd t457 x10_1)+1)) t469 true).bind fun t470=>(if t470=true then (jo.l0 kj35 l0 a3 t457 (wrap64 (x10_1+1))) else (some false))) else ((jo.f kj35 l0 (wrap64 ((rd t457 x10_1)+1)) t469 (((jc l0 (rd t457 x10_1)).f1) == 12)).bind fun t471=>(if t471=true then (jo.l0 kj35 l0 a3 t457 (wrap64 (x10_1+1))) else (some false))))=some r:=H
                 have A39:=am A390
                 clear A390
                 by_cases c40:a3=true
                 ·subst c40
                  have H1:((jo.f kj35 l0 (wrap64 ((rd t457 x10_1)+1)) t469 true).bind fun t470=>(if t470=true then (jo.l0 kj35 l0 true t457 (wrap64 (x10_1+1))) else (some false)))=some r:=by rw [if_pos rfl] at H;exact H
                  clear H
                  have H:=H1
                  clear H1
                  replace H:=bzS H
                  obtain ⟨t470,A410,H⟩:=H
                  replace H:(if t470=true then (jo.l0 kj35 l0 true t457 (wrap64 (x10_1+1))) else (some false))=some r:=H
                  have A41:=am A410
                  clear A410
                  by_cases c42:t470=true
                  ·subst c42
                   have H1:(jo.l0 kj35 l0 true t457 (wrap64 (x10_1+1)))=some r:=by rw [if_pos rfl] at H;exact H
                   clear H
                   have H:=H1
                   clear H1
                   have H':=am H
                   clear H
                   go_wp2_with (first |((with_reducible refine jd (f:=69) rfl ?_);refine gL (some 83) Try.func69 #[.slice (some ad461) l0.length c0, .int .i64 (rd t457 x10_1)] ?_;(with_reducible refine (jpa.calls kj35 _ _ l0 (rd t457 x10_1) t469 _ ?side1 ?side2 A39.out).mono ?_);(case side1=>exact cq (Kd.jT HR0.out HB.out));(case side2=>exact HC0.out);rintro e w' ⟨rfl,⟨nd,rfl⟩⟩;refine ⟨_,rfl,?_⟩) |((with_reducible refine jd (f:=40) rfl ?_);refine gL (some 89) Try.func40 #[.slice (some ad461) l0.length c0, .int .i64 (wrap64 ((rd t457 x10_1)+1)), .int .i64 t469, .bool true] ?_;(with_reducible refine (ih kj35 (by have:=HK1.out;have:=HJ10.out;have:=HJ15.out;have:=HJ35.out;omega) _ _ l0 (wrap64 ((rd t457 x10_1)+1)) t469 true true _ ?side1 ?side2 A41.out).mono ?_);(case side1=>exact cq (Kd.jT HR0.out (bq)));(case side2=>exact HC0.out);rintro e w43 ⟨rfl,hb⟩;refine ⟨_,rfl,?_⟩;replace HO_9:=am (Kd.jZ (rq HO_9.out) hb);replace HB:=am (je (bq) hb);(try clear hb);(try clear hb2);(try clear hk);(try clear hi)))
                   go_roundg kj35
                   case measure=>have:=HK1.out;have:=HJ10.out;have:=HJ15.out;have:=HJ35.out;omega
                   case rel=>exact ⟨(wrap64 (x10_1+1)),(sq),H',⟨by have:=HK1.out;have:=HJ10.out;have:=HJ15.out;have:=HJ35.out;omega⟩,⟨rq HO_9.out⟩,⟨bq⟩⟩
                  ·replace c42:=Bool.eq_false_iff.mpr c42
                   subst c42
                   have H1:(some false)=some r:=by rw [if_neg (show ¬ (false=true) by decide)] at H;exact H
                   clear H
                   have H:=H1
                   clear H1
                   obtain rfl:=Option.some.inj H
                   go_wp2_with (first |((with_reducible refine jd (f:=69) rfl ?_);refine gL (some 83) Try.func69 #[.slice (some ad461) l0.length c0, .int .i64 (rd t457 x10_1)] ?_;(with_reducible refine (jpa.calls kj35 _ _ l0 (rd t457 x10_1) t469 _ ?side1 ?side2 A39.out).mono ?_);(case side1=>exact cq (Kd.jT HR0.out HB.out));(case side2=>exact HC0.out);rintro e w' ⟨rfl,⟨nd,rfl⟩⟩;refine ⟨_,rfl,?_⟩) |((with_reducible refine jd (f:=40) rfl ?_);refine gL (some 89) Try.func40 #[.slice (some ad461) l0.length c0, .int .i64 (wrap64 ((rd t457 x10_1)+1)), .int .i64 t469, .bool true] ?_;(with_reducible refine (ih kj35 (by have:=HK1.out;have:=HJ10.out;have:=HJ15.out;have:=HJ35.out;omega) _ _ l0 (wrap64 ((rd t457 x10_1)+1)) t469 true false _ ?side1 ?side2 A41.out).mono ?_);(case side1=>exact cq (Kd.jT HR0.out (bq)));(case side2=>exact HC0.out);rintro e w44 ⟨rfl,hb⟩;refine ⟨_,rfl,?_⟩;replace HO_9:=am (Kd.jZ (rq HO_9.out) hb);replace HB:=am (je (bq) hb);(try clear hb);(try clear hb2);(try clear hk);(try clear hi)))
                   go_ret
                   exact ⟨Y0,bq⟩
                 ·replace c40:=Bool.eq_false_iff.mpr c40
                  subst c40
                  have H1:((jo.f kj35 l0 (wrap64 ((rd t457 x10_1)+1)) t469 (((jc l0 (rd t457 x10_1)).f1) == 12)).bind fun t471=>(if t471=true then (jo.l0 kj35 l0 false t457 (wrap64 (x10_1+1))) else (some false)))=some r:=by rw [if_neg (show ¬ (false=true) by decide)] at H;exact H
                  clear H
                  have H:=H1
                  clear H1
                  replace H:=bzS H
                  obtain ⟨t471,A450,H⟩:=H
                  replace H:(if t471=true then (jo.l0 kj35 l0 false t457 (wrap64 (x10_1+1))) else (some false))=some r:=H
                  have A45:=am A450
                  clear A450
                  by_cases c46:t471=true
                  ·subst c46
                   have H1:(jo.l0 kj35 l0 false t457 (wrap64 (x10_1+1)))=some r:=by rw [if_pos rfl] at H;exact H
                   clear H
                   have H:=H1
                   clear H1
                   have H':=am H
                   clear H
                   go_wp2_with (first |((with_reducible refine jd (f:=69) rfl ?_);refine gL (some 83) Try.func69 #[.slice (some ad461) l0.length c0, .int .i64 (rd t457 x10_1)] ?_;(with_reducible refine (jpa.calls kj35 _ _ l0 (rd t457 x10_1) t469 _ ?side1 ?side2 A39.out).mono ?_);(case side1=>exact cq (Kd.jT HR0.out HB.out));(case side2=>exact HC0.out);rintro e w' ⟨rfl,⟨nd,rfl⟩⟩;refine ⟨_,rfl,?_⟩) |((with_reducible refine jd (f:=40) rfl ?_);refine gL (some 89) Try.func40 #[.slice (some ad461) l0.length c0, .int .i64 (wrap64 ((rd t457 x10_1)+1)), .int .i64 t469, .bool (((jc l0 (rd t457 x10_1)).f1) == 12)] ?_;(with_reducible refine (ih kj35 (by have:=HK1.out;have:=HJ10.out;have:=HJ15.out;have:=HJ35.out;omega) _ _ l0 (wrap64 ((rd t457 x10_1)+1)) t469 (((jc l0 (rd t457 x10_1)).f1) == 12) true _ ?side1 ?side2 A45.out).mono ?_);(case side1=>exact cq (Kd.jT HR0.out (bq)));(case side2=>exact HC0.out);rintro e w47 ⟨rfl,hb⟩;refine ⟨_,rfl,?_⟩;replace HO_9:=am (Kd.jZ (rq HO_9.out) hb);replace HB:=am (je (bq) hb);(try clear hb);(try clear hb2);(try clear hk);(try clear hi)))
                   go_roundg kj35
                   case measure=>have:=HK1.out;have:=HJ10.out;have:=HJ15.out;have:=HJ35.out;omega
                   case rel=>exact ⟨(wrap64 (x10_1+1)),(sq),H',⟨by have:=HK1.out;have:=HJ10.out;have:=HJ15.out;have:=HJ35.out;omega⟩,⟨rq HO_9.out⟩,⟨bq⟩⟩
                  ·replace c46:=Bool.eq_false_iff.mpr c46
                   subst c46
                   have H1:(some false)=some r:=by rw [if_neg (show ¬ (false=true) by decide)] at H;exact H
                   clear H
                   have H:=H1
                   clear H1
                   obtain rfl:=Option.some.inj H
                   go_wp2_with (first |((with_reducible refine jd (f:=69) rfl ?_);refine gL (some 83) Try.func69 #[.slice (some ad461) l0.length c0, .int .i64 (rd t457 x10_1)] ?_;(with_reducible refine (jpa.calls kj35 _ _ l0 (rd t457 x10_1) t469 _ ?side1 ?side2 A39.out).mono ?_);(case side1=>exact cq (Kd.jT HR0.out HB.out));(case side2=>exact HC0.out);rintro e w' ⟨rfl,⟨nd,rfl⟩⟩;refine ⟨_,rfl,?_⟩) |((with_reducible refine jd (f:=40) rfl ?_);refine gL (some 89) Try.func40 #[.slice (some ad461) l0.length c0, .int .i64 (wrap64 ((rd t457 x10_1)+1)), .int .i64 t469, .bool (((jc l0 (rd t457 x10_1)).f1) == 12)] ?_;(with_reducible refine (ih kj35 (by have:=HK1.out;have:=HJ10.out;have:=HJ15.out;have:=HJ35.out;omega) _ _ l0 (wrap64 ((rd t457 x10_1)+1)) t469 (((jc l0 (rd t457 x10_1)).f1) == 12) false _ ?side1 ?side2 A45.out).mono ?_);(case side1=>exact cq (Kd.jT HR0.out (bq)));(case side2=>exact HC0.out);rintro e w48 ⟨rfl,hb⟩;refine ⟨_,rfl,?_⟩;replace HO_9:=am (Kd.jZ (rq HO_9.out) hb);replace HB:=am (je (bq) hb);(try clear hb);(try clear hb2);(try clear hk);(try clear hi)))
                   go_ret
                   exact ⟨Y0,bq⟩
                ·replace c38:=Bool.eq_false_iff.mpr c38
                 subst c38
                 have H1:(jo.l0 kj35 l0 a3 t457 (wrap64 (x10_1+1)))=some r:=by rw [if_neg (show ¬ (false=true) by decide)] at H;exact H
                 clear H
                 have H:=H1
                 clear H1
                 have H':=am H
                 clear H
                 go_wp2
                 go_roundg kj35
                 case measure=>have:=HK1.out;have:=HJ10.out;have:=HJ15.out;have:=HJ35.out;omega
                 case rel=>exact ⟨(wrap64 (x10_1+1)),(sq),H',⟨by have:=HK1.out;have:=HJ10.out;have:=HJ15.out;have:=HJ35.out;omega⟩,⟨rq HO_9.out⟩,⟨bq⟩⟩
      ·rw [if_neg c10] at H
       exact absurd H (by simp)
     ·rw [if_neg c9] at H
      exact absurd H (by simp)
    ·rw [if_neg c8] at H
     exact absurd H (by simp)
   ·rw [if_neg c7] at H
    have c7b0:decide (x10_1<(t457.length:Int))=false:=dzF c7
    clear c7
    obtain rfl:=Option.some.inj H
    obtain ⟨Ao49,co49,eo49⟩:=Kd.jka HO_9.out
    subst eo49
    go_wp2
    go_ret
    exact ⟨Y0,bq⟩
end Go.Proofs.Ytkedkinojeoeaaa.P
end
