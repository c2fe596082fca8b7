/- One part of the proofs on this program: functions of the program as plain functions, that the code comes to them, and facts on them. -/
import Derived.Test.YtkokajljeebgdaaYAll1
import Derived.Test.YtkokajljeebgdaaYAll7
import Derived.Test.YtkokajljeebgdaaYWAuto
section
namespace Go.Proofs.Ytkokajljeebgdaa.P
open Go.RowKit Go.Proofs.YtkokajljeebgdaaW.PrintWords Go.Proofs.YtkokajljeebgdaaW.PrintLast Go.Proofs.YtkokajljeebgdaaW.PrintMore
attribute [local go_sem] jqa joa jBa jAa jfa jea jpa jna jk
set_option linter.unusedVariables false
set_option linter.unusedSimpArgs false
def jva.j0 : Nat → Int → Bool → List (S87) → Int → Int → Int → Int → Option (Bool)
 | 0,_,_,_,_,_,_,_=>none
 | k+1,x6,x7,x583000,x584000,x584001,x584002,x584003=>if x7=true then ((jH.f x584002 0 99).bind fun t584=>(if t584=true then (some (x584003 == 0)) else (some false))) else (if x6=2 then ((jmb.f x583000 x584002).bind fun t585=>(if t585=true then ((jH.f x584003 0 99).bind fun t586=>(some t586)) else (some false))) else (if x6=8 then ((jmb.f x583000 x584002).bind fun t587=>(if t587=true then (some (x584003 == 0)) else (some false))) else (if x6=11 then ((jH.f x584002 0 9).bind fun t588=>(if t588=true then ((jH.f x584003 0 1).bind fun t589=>(some t589)) else (some false))) else (if x6=12 then ((jH.f x584002 0 3).bind fun t590=>(if t590=true then (some (x584003 == 0)) else (some false))) else ((jH.f x584001 0 10).bind fun t591=>(if t591=true then (if x584002=0 then (some (x584003 == 0)) else (some false)) else (some false)))))))
def jva.f (k : Nat) (l0_0 : List (S87)) (a1_0 : Int) (a1_1 : Int) (a1_2 : Int) (a1_3 : Int) : Option (Bool) := if a1_1 = 1 then (jva.j0 k a1_1 (a1_1 == 1) l0_0 a1_0 a1_1 a1_2 a1_3) else (jva.j0 k a1_1 (a1_1 == 4) l0_0 a1_0 a1_1 a1_2 a1_3)
set_option maxHeartbeats 8000000 in
set_option maxRecDepth 100000 in
theorem jva.calls (k : Nat) (A0_0 : Option Addr) (c0_0 : Nat) (l0_0 : List (S87)) (a1_0 : Int) (a1_1 : Int) (a1_2 : Int) (a1_3 : Int) (r : Bool) (w : World) (hr0_0 : Kd.C k87 w A0_0 l0_0.length l0_0) (hc0_0 : l0_0.length ≤ c0_0) (h : jva.f k l0_0 a1_0 a1_1 a1_2 a1_3 = some r) :
  Calls Try.prog 104 #[.agg #[.slice A0_0 l0_0.length c0_0], .agg #[.int .i64 a1_0, .int .i64 a1_1, .int .i64 a1_2, .int .i64 a1_3]] w fun e w'=>e=.returned (.bool r)∧Below w.heap.size w w':=by
 have hu32:=Try.underlying32
 have hu52:=Try.underlying52
 have HR0_0:=am hr0_0
 have HC0_0:=am hc0_0
 clear hr0_0 hc0_0
 have HB:=am (Below.refl w.heap.size w)
 have H:(if a1_1=1 then (jva.j0 k a1_1 (a1_1 == 1) l0_0 a1_0 a1_1 a1_2 a1_3) else (jva.j0 k a1_1 (a1_1 == 4) l0_0 a1_0 a1_1 a1_2 a1_3))=some r:=h
 clear h
 have HC3:=am H
 clear H
 go_enter Try.func104,Try.ntmps104
 go_upto_if 7 with (first |((with_reducible refine jM (N:=2) rfl ?_);refine bE (N:=2) (cs:=#[.slice A0_0 l0_0.length c0_0]) (t:=32) ?_;intro gb582 hg w4 hbox hb;have BK582:=am (hbox);have GW582:=am ((Y10:w.heap.size≤gb582));have GE582:=am ((Y10:w.heap.size≤gb582));replace HB:=am (je (bq) hb);clear hb hbox hg) |((with_reducible refine jM (N:=3) rfl ?_);refine bE (N:=3) (cs:=#[.int .i64 a1_0, .int .i64 a1_1, .int .i64 a1_2, .int .i64 a1_3]) (t:=52) ?_;intro gb583 hg w5 hbox hb;have BK583:=am (hbox);have GW583:=am ((Y120:w.heap.size≤gb583));have GE583:=am ((Y120:w.heap.size≤gb583));have NB582_583:=am ((by rw [hg];exact Nat.ne_of_lt (jDb (g:=gb582) (o:=.cells #[.slice A0_0 l0_0.length c0_0] 32 (0,0)) (kq BK582.out)):gb582≠gb583));have NB583_582:=am ((by rw [hg];exact Nat.ne_of_gt (jDb (g:=gb582) (o:=.cells #[.slice A0_0 l0_0.length c0_0] 32 (0,0)) (kq BK582.out)):gb583≠gb582));replace BK582:=am (jm (g:=gb582) (o:=.cells #[.slice A0_0 l0_0.length c0_0] 32 (0,0)) (kq BK582.out) hb);replace HB:=am (je (by repeat (first |(with_reducible first | exact HB.out | apply jR | apply jw | apply jS | refine jP ?_ GE582.out) | exact HB.out)) hb);clear hb hbox hg;have hnb6:=NB583_582.out;have hnc6:=NB582_583.out;have hcz7_0:=bc0 BK583.out;have hcz7_1:=bc1 BK583.out;have hcz7_2:=bc2 BK583.out;have hcz7_3:=bc3 BK583.out;have hfz7_0:=ja BK583.out 0;have hfz7_1:=ja BK583.out 1;have hfz7_2:=ja BK583.out 2;have hfz7_3:=ja BK583.out 3))
 (try simp only [Act.put,List.setIfInBounds_toArray,List.set_cons_zero,List.set_cons_succ])
 go_cut [7] (fun v7 wc=>∃ (kq:Nat) (x7_2:Bool),v7=.bool x7_2∧jq (jva.j0 kq a1_1 x7_2 l0_0 a1_0 a1_1 a1_2 a1_3=some r)∧jq (kq≤k)∧jq (wc.heap[gb582]?=some (.cells #[(.slice A0_0 l0_0.length c0_0)] 32 (0,0)))∧jq (wc.heap[gb583]?=some (.cells #[.int .i64 a1_0, .int .i64 a1_1, .int .i64 a1_2, .int .i64 a1_3] 52 (0,0)))∧jq (Below w.heap.size w wc))
 case first =>
  have H:=HC3.out
  clear HC3
  by_cases c8:a1_1=1
  ·rw [if_pos c8] at H
   have c8b0:(a1_1 == 1)=true:=beq_iff_eq.mpr c8
   have c8b1:(a1_1 != 1)=false:=bne_eq_false_iff_eq.mpr c8
   clear c8
   (first | rw [c8b0] |(simp only [jhb,jpb];rw [c8b0]) | skip)
   have H':=am H
   clear H
   go_wp2
   go_meet
   case rel=>exact ⟨_,((a1_1 == 1)),(sq),H',⟨Y35⟩,⟨kq BK582.out⟩,⟨kq BK583.out⟩,⟨Y24⟩⟩
  ·rw [if_neg c8] at H
   have c8b0:(a1_1 == 1)=false:=beq_eq_false_iff_ne.mpr c8
   have c8b1:(a1_1 != 1)=true:=bne_iff_ne.mpr c8
   (first | rw [c8b0] |(simp only [jhb,jpb];rw [c8b0]) | skip)
   have H':=am H
   clear H
   go_wp2
   go_meet
   case rel=>exact ⟨_,((a1_1 == 4)),(sq),H',⟨Y35⟩,⟨kq BK582.out⟩,⟨kq BK583.out⟩,⟨Y24⟩⟩
 case rest =>
  clear HC3
  try clear c1
  try clear p2
  try clear c6
  try clear c8
  try clear c8b0
  try clear c8b1
  try clear hcz7_0
  try clear hcz7_1
  try clear hcz7_2
  try clear hcz7_3
  try clear hfz7_0
  try clear hfz7_1
  try clear hfz7_2
  try clear hfz7_3
  obtain ⟨kq,x7_2,rfl,HA,HJ2,BK582,BK583,HB⟩:=hcut
  cases kq with
  | zero=>exact absurd HA.out (by simp [jva.j0])
  | succ kj2 =>
   have H:=HA.out
   clear HA
   simp only [jva.j0] at H
   by_cases c9:x7_2=true
   ·subst c9
    have H1:((jH.f a1_2 0 99).bind fun t584=>(if t584=true then (some (a1_3 == 0)) else (some false)))=some r:=by rw [if_pos rfl] at H;exact H
    clear H
    have H:=H1
    clear H1
    replace H:=bzS H
    obtain ⟨t584,A100,H⟩:=H
    replace H:(if t584=true then (some (a1_3 == 0)) else (some false))=some r:=H
    have A10:=am A100
    clear A100
    by_cases c11:t584=true
    ·subst c11
     have H1:(some (a1_3 == 0))=some r:=by rw [if_pos rfl] at H;exact H
     clear H
     have H:=H1
     clear H1
     obtain rfl:=Option.some.inj H
     have hnb12:=NB583_582.out
     have hnc12:=NB582_583.out
     have hcz13_0:=bc0 BK583.out
     have hcz13_1:=bc1 BK583.out
     have hcz13_2:=bc2 BK583.out
     have hcz13_3:=bc3 BK583.out
     have hfz13_0:=ja BK583.out 0
     have hfz13_1:=ja BK583.out 1
     have hfz13_2:=ja BK583.out 2
     have hfz13_3:=ja BK583.out 3
     go_wp2_with (first |((with_reducible refine jd (f:=92) rfl ?_);refine gL (some 12) Try.func92 #[.int .i64 a1_2, .int .i64 0, .int .i64 99] ?_;(with_reducible refine (jH.calls a1_2 0 99 true _ A10.out).mono ?_);rintro e w' ⟨rfl,⟨nd,rfl⟩⟩;refine ⟨_,rfl,?_⟩))
     go_ret
     exact ⟨Y0,Y24⟩
    ·replace c11:=Bool.eq_false_iff.mpr c11
     subst c11
     have H1:(some false)=some r:=by rw [if_neg (show ¬ (false=true) by decide)] at H;exact H
     clear H
     have H:=H1
     clear H1
     obtain rfl:=Option.some.inj H
     have hnb14:=NB583_582.out
     have hnc14:=NB582_583.out
     have hcz15_0:=bc0 BK583.out
     have hcz15_1:=bc1 BK583.out
     have hcz15_2:=bc2 BK583.out
     have hcz15_3:=bc3 BK583.out
     have hfz15_0:=ja BK583.out 0
     have hfz15_1:=ja BK583.out 1
     have hfz15_2:=ja BK583.out 2
     have hfz15_3:=ja BK583.out 3
     go_wp2_with (first |((with_reducible refine jd (f:=92) rfl ?_);refine gL (some 12) Try.func92 #[.int .i64 a1_2, .int .i64 0, .int .i64 99] ?_;(with_reducible refine (jH.calls a1_2 0 99 false _ A10.out).mono ?_);rintro e w' ⟨rfl,⟨nd,rfl⟩⟩;refine ⟨_,rfl,?_⟩))
     go_ret
     exact ⟨Y0,Y24⟩
   ·replace c9:=Bool.eq_false_iff.mpr c9
    subst c9
    have H1:(if a1_1=2 then ((jmb.f l0_0 a1_2).bind fun t585=>(if t585=true then ((jH.f a1_3 0 99).bind fun t586=>(some t586)) else (some false))) else (if a1_1=8 then ((jmb.f l0_0 a1_2).bind fun t587=>(if t587=true then (some (a1_3 == 0)) else (some false))) else (if a1_1=11 then ((jH.f a1_2 0 9).bind fun t588=>(if t588=true then ((jH.f a1_3 0 1).bind fun t589=>(some t589)) else (some false))) else (if a1_1=12 then ((jH.f a1_2 0 3).bind fun t590=>(if t590=true then (some (a1_3 == 0)) else (some false))) else ((jH.f a1_1 0 10).bind fun t591=>(if t591=true then (if a1_2=0 then (some (a1_3 == 0)) else (some false)) else (some false)))))))=some r:=by rw [if_neg (show ¬ (false=true) by decide)] at H;exact H
    clear H
    have H:=H1
    clear H1
    by_cases c16:a1_1=2
    ·rw [if_pos c16] at H
     have c16b0:(a1_1 == 2)=true:=beq_iff_eq.mpr c16
     have c16b1:(a1_1 != 2)=false:=bne_eq_false_iff_eq.mpr c16
     clear c16
     replace H:=bzS H
     obtain ⟨t585,A170,H⟩:=H
     replace H:(if t585=true then ((jH.f a1_3 0 99).bind fun t586=>(some t586)) else (some false))=some r:=H
     have A17:=am A170
     clear A170
     by_cases c18:t585=true
     ·subst c18
      have H1:((jH.f a1_3 0 99).bind fun t586=>(some t586))=some r:=by rw [if_pos rfl] at H;exact H
      clear H
      have H:=H1
      clear H1
      replace H:=bzS H
      obtain ⟨t586,A190,H⟩:=H
      replace H:(some t586)=some r:=H
      have A19:=am A190
      clear A190
      obtain rfl:=Option.some.inj H
      have hnb20:=NB582_583.out
      have hnc20:=NB583_582.out
      have hcz21_0:=bc0 BK582.out
      have hfz21_0:=ja BK582.out 0
      have hcz22_0:=bc0 BK583.out
      have hcz22_1:=bc1 BK583.out
      have hcz22_2:=bc2 BK583.out
      have hcz22_3:=bc3 BK583.out
      have hfz22_0:=ja BK583.out 0
      have hfz22_1:=ja BK583.out 1
      have hfz22_2:=ja BK583.out 2
      have hfz22_3:=ja BK583.out 3
      go_wp2_with (first |((with_reducible refine jd (f:=76) rfl ?_);refine gL (some 23) Try.func76 #[.agg #[.slice A0_0 l0_0.length c0_0], .int .i64 a1_2] ?_;(with_reducible refine (jmb.calls _ _ l0_0 a1_2 true _ ?side1 ?side2 A17.out).mono ?_);(case side1=>exact cq (Kd.jba HR0_0.out HB.out));(case side2=>exact HC0_0.out);rintro e w23 ⟨rfl,hb⟩;refine ⟨_,rfl,?_⟩;replace BK582:=am (jm (g:=gb582) (o:=.cells #[.slice A0_0 l0_0.length c0_0] 32 (0,0)) (kq BK582.out) hb);replace BK583:=am (jm (g:=gb583) (o:=.cells #[.int .i64 a1_0, .int .i64 a1_1, .int .i64 a1_2, .int .i64 a1_3] 52 (0,0)) (kq BK583.out) hb);replace HB:=am (je (Y24) hb);(try clear hb);(try clear hb2);(try clear hk);(try clear hi);have hcz24_0:=bc0 BK583.out;have hcz24_1:=bc1 BK583.out;have hcz24_2:=bc2 BK583.out;have hcz24_3:=bc3 BK583.out;have hfz24_0:=ja BK583.out 0;have hfz24_1:=ja BK583.out 1;have hfz24_2:=ja BK583.out 2;have hfz24_3:=ja BK583.out 3) |(go_at_call 92;(with_reducible refine (jH.calls a1_3 0 99 t586 _ A19.out).mono ?_);rintro e w' ⟨rfl,⟨nd,rfl⟩⟩))
      go_ret
      exact ⟨Y0,Y24⟩
     ·replace c18:=Bool.eq_false_iff.mpr c18
      subst c18
      have H1:(some false)=some r:=by rw [if_neg (show ¬ (false=true) by decide)] at H;exact H
      clear H
      have H:=H1
      clear H1
      obtain rfl:=Option.some.inj H
      have hnb25:=NB582_583.out
      have hnc25:=NB583_582.out
      have hcz26_0:=bc0 BK582.out
      have hfz26_0:=ja BK582.out 0
      have hcz27_0:=bc0 BK583.out
      have hcz27_1:=bc1 BK583.out
      have hcz27_2:=bc2 BK583.out
      have hcz27_3:=bc3 BK583.out
      have hfz27_0:=ja BK583.out 0
      have hfz27_1:=ja BK583.out 1
      have hfz27_2:=ja BK583.out 2
      have hfz27_3:=ja BK583.out 3
      go_wp2_with (first |((with_reducible refine jd (f:=76) rfl ?_);refine gL (some 23) Try.func76 #[.agg #[.slice A0_0 l0_0.length c0_0], .int .i64 a1_2] ?_;(with_reducible refine (jmb.calls _ _ l0_0 a1_2 false _ ?side1 ?side2 A17.out).mono ?_);(case side1=>exact cq (Kd.jba HR0_0.out HB.out));(case side2=>exact HC0_0.out);rintro e w28 ⟨rfl,hb⟩;refine ⟨_,rfl,?_⟩;replace BK582:=am (jm (g:=gb582) (o:=.cells #[.slice A0_0 l0_0.length c0_0] 32 (0,0)) (kq BK582.out) hb);replace BK583:=am (jm (g:=gb583) (o:=.cells #[.int .i64 a1_0, .int .i64 a1_1, .int .i64 a1_2, .int .i64 a1_3] 52 (0,0)) (kq BK583.out) hb);replace HB:=am (je (Y24) hb);(try clear hb);(try clear hb2);(try clear hk);(try clear hi)))
      go_ret
      exact ⟨Y0,Y24⟩
    ·rw [if_neg c16] at H
     have c16b0:(a1_1 == 2)=false:=beq_eq_false_iff_ne.mpr c16
     have c16b1:(a1_1 != 2)=true:=bne_iff_ne.mpr c16
     by_cases c29:a1_1=8
     ·rw [if_pos c29] at H
      have c29b0:(a1_1 == 8)=true:=beq_iff_eq.mpr c29
      have c29b1:(a1_1 != 8)=false:=bne_eq_false_iff_eq.mpr c29
      clear c29
      replace H:=bzS H
      obtain ⟨t587,A300,H⟩:=H
      replace H:(if t587=true then (some (a1_3 == 0)) else (some false))=some r:=H
      have A30:=am A300
      clear A300
      by_cases c31:t587=true
      ·subst c31
       have H1:(some (a1_3 == 0))=some r:=by rw [if_pos rfl] at H;exact H
       clear H
       have H:=H1
       clear H1
       obtain rfl:=Option.some.inj H
       have hnb32:=NB582_583.out
       have hnc32:=NB583_582.out
       have hcz33_0:=bc0 BK582.out
       have hfz33_0:=ja BK582.out 0
       have hcz34_0:=bc0 BK583.out
       have hcz34_1:=bc1 BK583.out
       have hcz34_2:=bc2 BK583.out
       have hcz34_3:=bc3 BK583.out
       have hfz34_0:=ja BK583.out 0
       have hfz34_1:=ja BK583.out 1
       have hfz34_2:=ja BK583.out 2
       have hfz34_3:=ja BK583.out 3
       go_wp2_with (first |((with_reducible refine jd (f:=76) rfl ?_);refine gL (some 34) Try.func76 #[.agg #[.slice A0_0 l0_0.length c0_0], .int .i64 a1_2] ?_;(with_reducible refine (jmb.calls _ _ l0_0 a1_2 true _ ?side1 ?side2 A30.out).mono ?_);(case side1=>exact cq (Kd.jba HR0_0.out HB.out));(case side2=>exact HC0_0.out);rintro e w35 ⟨rfl,hb⟩;refine ⟨_,rfl,?_⟩;replace BK582:=am (jm (g:=gb582) (o:=.cells #[.slice A0_0 l0_0.length c0_0] 32 (0,0)) (kq BK582.out) hb);replace BK583:=am (jm (g:=gb583) (o:=.cells #[.int .i64 a1_0, .int .i64 a1_1, .int .i64 a1_2, .int .i64 a1_3] 52 (0,0)) (kq BK583.out) hb);replace HB:=am (je (Y24) hb);(try clear hb);(try clear hb2);(try clear hk);(try clear hi);have hcz36_0:=bc0 BK583.out;have hcz36_1:=bc1 BK583.out;have hcz36_2:=bc2 BK583.out;have hcz36_3:=bc3 BK583.out;have hfz36_0:=ja BK583.out 0;have hfz36_1:=ja BK583.out 1;have hfz36_2:=ja BK583.out 2;have hfz36_3:=ja BK583.out 3))
       go_ret
       exact ⟨Y0,Y24⟩
      ·replace c31:=Bool.eq_false_iff.mpr c31
       subst c31
       have H1:(some false)=some r:=by rw [if_neg (show ¬ (false=true) by decide)] at H;exact H
       clear H
       have H:=H1
       clear H1
       obtain rfl:=Option.some.inj H
       have hnb37:=NB582_583.out
       have hnc37:=NB583_582.out
       have hcz38_0:=bc0 BK582.out
       have hfz38_0:=ja BK582.out 0
       have hcz39_0:=bc0 BK583.out
       have hcz39_1:=bc1 BK583.out
       have hcz39_2:=bc2 BK583.out
       have hcz39_3:=bc3 BK583.out
       have hfz39_0:=ja BK583.out 0
       have hfz39_1:=ja BK583.out 1
       have hfz39_2:=ja BK583.out 2
       have hfz39_3:=ja BK583.out 3
       go_wp2_with (first |((with_reducible refine jd (f:=76) rfl ?_);refine gL (some 34) Try.func76 #[.agg #[.slice A0_0 l0_0.length c0_0], .int .i64 a1_2] ?_;(with_reducible refine (jmb.calls _ _ l0_0 a1_2 false _ ?side1 ?side2 A30.out).mono ?_);(case side1=>exact cq (Kd.jba HR0_0.out HB.out));(case side2=>exact HC0_0.out);rintro e w40 ⟨rfl,hb⟩;refine ⟨_,rfl,?_⟩;replace BK582:=am (jm (g:=gb582) (o:=.cells #[.slice A0_0 l0_0.length c0_0] 32 (0,0)) (kq BK582.out) hb);replace BK583:=am (jm (g:=gb583) (o:=.cells #[.int .i64 a1_0, .int .i64 a1_1, .int .i64 a1_2, .int .i64 a1_3] 52 (0,0)) (kq BK583.out) hb);replace HB:=am (je (Y24) hb);(try clear hb);(try clear hb2);(try clear hk);(try clear hi)))
       go_ret
       exact ⟨Y0,Y24⟩
     ·rw [if_neg c29] at H
      have c29b0:(a1_1 == 8)=false:=beq_eq_false_iff_ne.mpr c29
      have c29b1:(a1_1 != 8)=true:=bne_iff_ne.mpr c29
      by_cases c41:a1_1=11
      ·rw [if_pos c41] at H
       have c41b0:(a1_1 == 11)=true:=beq_iff_eq.mpr c41
       have c41b1:(a1_1 != 11)=false:=bne_eq_false_iff_eq.mpr c41
       clear c41
       replace H:=bzS H
       obtain ⟨t588,A420,H⟩:=H
       replace H:(if t588=true then ((jH.f a1_3 0 1).bind fun t589=>(some t589)) else (some false))=some r:=H
       have A42:=am A420
       clear A420
       by_cases c43:t588=true
       ·subst c43
        have H1:((jH.f a1_3 0 1).bind fun t589=>(some t589))=some r:=by rw [if_pos rfl] at H;exact H
        clear H
        have H:=H1
        clear H1
        replace H:=bzS H
        obtain ⟨t589,A440,H⟩:=H
        replace H:(some t589)=some r:=H
        have A44:=am A440
        clear A440
        obtain rfl:=Option.some.inj H
        have hnb45:=NB583_582.out
        have hnc45:=NB582_583.out
        have hcz46_0:=bc0 BK583.out
        have hcz46_1:=bc1 BK583.out
        have hcz46_2:=bc2 BK583.out
        have hcz46_3:=bc3 BK583.out
        have hfz46_0:=ja BK583.out 0
        have hfz46_1:=ja BK583.out 1
        have hfz46_2:=ja BK583.out 2
        have hfz46_3:=ja BK583.out 3
        go_wp2_with (first |((with_reducible refine jd (f:=92) rfl ?_);refine gL (some 44) Try.func92 #[.int .i64 a1_2, .int .i64 0, .int .i64 9] ?_;(with_reducible refine (jH.calls a1_2 0 9 true _ A42.out).mono ?_);rintro e w' ⟨rfl,⟨nd,rfl⟩⟩;refine ⟨_,rfl,?_⟩) |(go_at_call 92;(with_reducible refine (jH.calls a1_3 0 1 t589 _ A44.out).mono ?_);rintro e w' ⟨rfl,⟨nd,rfl⟩⟩))
        go_ret
        exact ⟨Y0,Y24⟩
       ·replace c43:=Bool.eq_false_iff.mpr c43
        subst c43
        have H1:(some false)=some r:=by rw [if_neg (show ¬ (false=true) by decide)] at H;exact H
        clear H
        have H:=H1
        clear H1
        obtain rfl:=Option.some.inj H
        have hnb47:=NB583_582.out
        have hnc47:=NB582_583.out
        have hcz48_0:=bc0 BK583.out
        have hcz48_1:=bc1 BK583.out
        have hcz48_2:=bc2 BK583.out
        have hcz48_3:=bc3 BK583.out
        have hfz48_0:=ja BK583.out 0
        have hfz48_1:=ja BK583.out 1
        have hfz48_2:=ja BK583.out 2
        have hfz48_3:=ja BK583.out 3
        go_wp2_with (first |((with_reducible refine jd (f:=92) rfl ?_);refine gL (some 44) Try.func92 #[.int .i64 a1_2, .int .i64 0, .int .i64 9] ?_;(with_reducible refine (jH.calls a1_2 0 9 false _ A42.out).mono ?_);rintro e w' ⟨rfl,⟨nd,rfl⟩⟩;refine ⟨_,rfl,?_⟩))
        go_ret
        exact ⟨Y0,Y24⟩
      ·rw [if_neg c41] at H
       have c41b0:(a1_1 == 11)=false:=beq_eq_false_iff_ne.mpr c41
       have c41b1:(a1_1 != 11)=true:=bne_iff_ne.mpr c41
       by_cases c49:a1_1=12
       ·rw [if_pos c49] at H
        have c49b0:(a1_1 == 12)=true:=beq_iff_eq.mpr c49
        have c49b1:(a1_1 != 12)=false:=bne_eq_false_iff_eq.mpr c49
        clear c49
        replace H:=bzS H
        obtain ⟨t590,A500,H⟩:=H
        replace H:(if t590=true then (some (a1_3 == 0)) else (some false))=some r:=H
        have A50:=am A500
        clear A500
        by_cases c51:t590=true
        ·subst c51
         have H1:(some (a1_3 == 0))=some r:=by rw [if_pos rfl] at H;exact H
         clear H
         have H:=H1
         clear H1
         obtain rfl:=Option.some.inj H
         have hnb52:=NB583_582.out
         have hnc52:=NB582_583.out
         have hcz53_0:=bc0 BK583.out
         have hcz53_1:=bc1 BK583.out
         have hcz53_2:=bc2 BK583.out
         have hcz53_3:=bc3 BK583.out
         have hfz53_0:=ja BK583.out 0
         have hfz53_1:=ja BK583.out 1
         have hfz53_2:=ja BK583.out 2
         have hfz53_3:=ja BK583.out 3
         go_wp2_with (first |((with_reducible refine jd (f:=92) rfl ?_);refine gL (some 54) Try.func92 #[.int .i64 a1_2, .int .i64 0, .int .i64 3] ?_;(with_reducible refine (jH.calls a1_2 0 3 true _ A50.out).mono ?_);rintro e w' ⟨rfl,⟨nd,rfl⟩⟩;refine ⟨_,rfl,?_⟩))
         go_ret
         exact ⟨Y0,Y24⟩
        ·replace c51:=Bool.eq_false_iff.mpr c51
         subst c51
         have H1:(some false)=some r:=by rw [if_neg (show ¬ (false=true) by decide)] at H;exact H
         clear H
         have H:=H1
         clear H1
         obtain rfl:=Option.some.inj H
         have hnb54:=NB583_582.out
         have hnc54:=NB582_583.out
         have hcz55_0:=bc0 BK583.out
         have hcz55_1:=bc1 BK583.out
         have hcz55_2:=bc2 BK583.out
         have hcz55_3:=bc3 BK583.out
         have hfz55_0:=ja BK583.out 0
         have hfz55_1:=ja BK583.out 1
         have hfz55_2:=ja BK583.out 2
         have hfz55_3:=ja BK583.out 3
         go_wp2_with (first |((with_reducible refine jd (f:=92) rfl ?_);refine gL (some 54) Try.func92 #[.int .i64 a1_2, .int .i64 0, .int .i64 3] ?_;(with_reducible refine (jH.calls a1_2 0 3 false _ A50.out).mono ?_);rintro e w' ⟨rfl,⟨nd,rfl⟩⟩;refine ⟨_,rfl,?_⟩))
         go_ret
         exact ⟨Y0,Y24⟩
       ·rw [if_neg c49] at H
        have c49b0:(a1_1 == 12)=false:=beq_eq_false_iff_ne.mpr c49
        have c49b1:(a1_1 != 12)=true:=bne_iff_ne.mpr c49
        replace H:=bzS H
        obtain ⟨t591,A560,H⟩:=H
        replace H:(if t591=true then (if a1_2=0 then (some (a1_3 == 0)) else (some false)) else (some false))=some r:=H
        have A56:=am A560
        clear A560
        by_cases c57:t591=true
        ·subst c57
         have H1:(if a1_2=0 then (some (a1_3 == 0)) else (some false))=some r:=by rw [if_pos rfl] at H;exact H
         clear H
         have H:=H1
         clear H1
         by_cases c58:a1_2=0
         ·rw [if_pos c58] at H
          have c58b0:(a1_2 == 0)=true:=beq_iff_eq.mpr c58
          have c58b1:(a1_2 != 0)=false:=bne_eq_false_iff_eq.mpr c58
          clear c58
          obtain rfl:=Option.some.inj H
          have hnb59:=NB583_582.out
          have hnc59:=NB582_583.out
          have hcz60_0:=bc0 BK583.out
          have hcz60_1:=bc1 BK583.out
          have hcz60_2:=bc2 BK583.out
          have hcz60_3:=bc3 BK583.out
          have hfz60_0:=ja BK583.out 0
          have hfz60_1:=ja BK583.out 1
          have hfz60_2:=ja BK583.out 2
          have hfz60_3:=ja BK583.out 3
          go_wp2_with (first |((with_reducible refine jd (f:=92) rfl ?_);refine gL (some 62) Try.func92 #[.int .i64 a1_1, .int .i64 0, .int .i64 10] ?_;(with_reducible refine (jH.calls a1_1 0 10 true _ A56.out).mono ?_);rintro e w' ⟨rfl,⟨nd,rfl⟩⟩;refine ⟨_,rfl,?_⟩))
          go_ret
          exact ⟨Y0,Y24⟩
         ·rw [if_neg c58] at H
          have c58b0:(a1_2 == 0)=false:=beq_eq_false_iff_ne.mpr c58
          have c58b1:(a1_2 != 0)=true:=bne_iff_ne.mpr c58
          obtain rfl:=Option.some.inj H
          have hnb61:=NB583_582.out
          have hnc61:=NB582_583.out
          have hcz62_0:=bc0 BK583.out
          have hcz62_1:=bc1 BK583.out
          have hcz62_2:=bc2 BK583.out
          have hcz62_3:=bc3 BK583.out
          have hfz62_0:=ja BK583.out 0
          have hfz62_1:=ja BK583.out 1
          have hfz62_2:=ja BK583.out 2
          have hfz62_3:=ja BK583.out 3
          go_wp2_with (first |((with_reducible refine jd (f:=92) rfl ?_);refine gL (some 62) Try.func92 #[.int .i64 a1_1, .int .i64 0, .int .i64 10] ?_;(with_reducible refine (jH.calls a1_1 0 10 true _ A56.out).mono ?_);rintro e w' ⟨rfl,⟨nd,rfl⟩⟩;refine ⟨_,rfl,?_⟩))
          go_ret
          exact ⟨Y0,Y24⟩
        ·replace c57:=Bool.eq_false_iff.mpr c57
         subst c57
         have H1:(some false)=some r:=by rw [if_neg (show ¬ (false=true) by decide)] at H;exact H
         clear H
         have H:=H1
         clear H1
         obtain rfl:=Option.some.inj H
         have hnb63:=NB583_582.out
         have hnc63:=NB582_583.out
         have hcz64_0:=bc0 BK583.out
         have hcz64_1:=bc1 BK583.out
         have hcz64_2:=bc2 BK583.out
         have hcz64_3:=bc3 BK583.out
         have hfz64_0:=ja BK583.out 0
         have hfz64_1:=ja BK583.out 1
         have hfz64_2:=ja BK583.out 2
         have hfz64_3:=ja BK583.out 3
         go_wp2_with (first |((with_reducible refine jd (f:=92) rfl ?_);refine gL (some 62) Try.func92 #[.int .i64 a1_1, .int .i64 0, .int .i64 10] ?_;(with_reducible refine (jH.calls a1_1 0 10 false _ A56.out).mono ?_);rintro e w' ⟨rfl,⟨nd,rfl⟩⟩;refine ⟨_,rfl,?_⟩))
         go_ret
         exact ⟨Y0,Y24⟩
def jDc.f (a0 : Int) : Option (Bool) := (jH.f a0 7 12).bind fun t592 => (some t592)
set_option maxHeartbeats 8000000 in
set_option maxRecDepth 100000 in
theorem jDc.calls (a0 : Int) (r : Bool) (w : World) (h : jDc.f a0 = some r) :
  Calls Try.prog 105 #[.int .i64 a0] w fun e w'=>e=.returned (.bool r)∧jjb w w':=by
 have H:((jH.f a0 7 12).bind fun t592=>(some t592))=some r:=h
 clear h
 replace H:=bzS H
 obtain ⟨t592,A20,H⟩:=H
 replace H:(some t592)=some r:=H
 have A2:=am A20
 clear A20
 obtain rfl:=Option.some.inj H
 go_enter Try.func105,Try.ntmps105
 go_wp2_with (first |((with_reducible refine jd (f:=92) rfl ?_);refine gL (some 4) Try.func92 #[.int .i64 a0, .int .i64 7, .int .i64 12] ?_;(with_reducible refine (jH.calls a0 7 12 t592 _ A2.out).mono ?_);rintro e w' ⟨rfl,⟨nd,rfl⟩⟩;refine ⟨_,rfl,?_⟩))
 go_ret
 exact ⟨sq,Y5⟩
mutual
def jG.l0 : Nat → List (S52) → List Int → Int → Int → Option (Bool)
 | 0,_,_,_,_=>none
 | k+1,x0,x5,x6,x7=>if x7<(x5.length:Int) then (if 0≤x7 then (if 0≤(rd x5 x7) then (if (rd x5 x7)<(x0.length:Int) then (if ((jc x0 (rd x5 x7)).f1)=8 then (jG.j1 k x0 x5 (wrap64 (x6+1)) x7 ((jc x0 (rd x5 x7)).f1)) else (jG.j1 k x0 x5 x6 x7 ((jc x0 (rd x5 x7)).f1))) else (none)) else (none)) else (none)) else (if (x5.length:Int) > 1 then (some (decide (x6≤6))) else (some false))
def jG.j1 : Nat → List (S52) → List Int → Int → Int → Int → Option (Bool)
 | 0,_,_,_,_,_=>none
 | k+1,x0,x5,x6,x7,x8=>if x7 > 1 then (if 0≤(wrap64 (x7 - 1)) then (if (wrap64 (x7 - 1))<(x5.length:Int) then (if 0≤(rd x5 (wrap64 (x7 - 1))) then (if (rd x5 (wrap64 (x7 - 1)))<(x0.length:Int) then (if x8<((jc x0 (rd x5 (wrap64 (x7 - 1)))).f1) then (jG.j2 k x0 x5 x6 x7 true) else (if x8=((jc x0 (rd x5 (wrap64 (x7 - 1)))).f1) then (if x8=8 then (if x8=9 then (jG.j2 k x0 x5 x6 x7 (x6 == 0)) else (jG.j2 k x0 x5 x6 x7 false)) else (jG.j2 k x0 x5 x6 x7 true)) else (if x8=9 then (jG.j2 k x0 x5 x6 x7 (x6 == 0)) else (jG.j2 k x0 x5 x6 x7 false)))) else (none)) else (none)) else (none)) else (none)) else (if x8=9 then (jG.j2 k x0 x5 x6 x7 (x6 == 0)) else (jG.j2 k x0 x5 x6 x7 false))
def jG.j2 : Nat → List (S52) → List Int → Int → Int → Bool → Option (Bool)
 | 0,_,_,_,_,_=>none
 | k+1,x0,x5,x6,x7,x69=>if x69=true then (some false) else (jG.l0 k x0 x5 x6 (wrap64 (x7+1)))
end
def jG.f (k : Nat) (l0 : List (S52)) (a1 : Int) : Option (Bool) := (jra.f k l0 a1).bind fun t593 => (jG.l0 k l0 t593 0 1)
set_option maxHeartbeats 8000000 in
set_option maxRecDepth 100000 in
theorem jG.calls (k : Nat) (A0 : Option Addr) (c0 : Nat) (l0 : List (S52)) (a1 : Int) (r : Bool) (w : World) (hr0 : Kd.C k52 w A0 l0.length l0) (hc0 : l0.length ≤ c0) (h : jG.f k l0 a1 = some r) :
  Calls Try.prog 106 #[.slice A0 l0.length c0, .int .i64 a1] w fun e w'=>e=.returned (.bool r)∧Below w.heap.size w w':=by
 have HR0:=am hr0
 have HC0:=am hc0
 clear hr0 hc0
 have HB:=am (Below.refl w.heap.size w)
 have H:((jra.f k l0 a1).bind fun t593=>(jG.l0 k l0 t593 0 1))=some r:=h
 clear h
 replace H:=bzS H
 obtain ⟨t593,A30,H⟩:=H
 replace H:(jG.l0 k l0 t593 0 1)=some r:=H
 have A3:=am A30
 clear A30
 have H':=am H
 clear H
 go_enter Try.func106,Try.ntmps106
 go_wp2_with (first |((with_reducible refine jd (f:=73) rfl ?_);refine gL (some 11) Try.func73 #[.slice A0 l0.length c0, .int .i64 a1] ?_;(with_reducible refine (jra.calls k _ _ l0 a1 t593 _ ?side1 ?side2 A3.out).mono ?_);(case side1=>exact Y32);(case side2=>exact HC0.out);rintro e w4 ⟨v594,rfl,ho0,hb⟩;refine ⟨_,rfl,?_⟩;have HO595:=am (Kd.jQ ho0 (jN (bq)));replace HB:=am (je (bq) hb);(try clear hb);(try clear hb2);(try clear hk);(try clear hi);(try clear ho0)))
 go_loopg [6,7] k (fun kq v6 v7 w'=>∃ (x6_1:Int) (x7_1:Int),v6=.int .i64 x6_1∧v7=.int .i64 x7_1∧jq (jG.l0 kq l0 t593 x6_1 x7_1=some r)∧jq (kq≤k)∧jq (Kd.R (Kd.int .i64) 3 w' w.heap.size (fun _=>True) v594 t593)∧jq (Below w.heap.size w w'))
 case atStart=>exact ⟨(0),(1),(sq),(sq),H',⟨Nat.le_refl _⟩,⟨rq HO595.out⟩,⟨bq⟩⟩
 case round =>
  clear H'
  try clear c1
  try clear p2
  obtain ⟨x6_1,x7_1,rfl,rfl,HA,HK1,HO_5,HB⟩:=hrel
  cases gk with
  | zero=>exact absurd HA.out (by simp [jG.l0])
  | succ k1 =>
   have H:=HA.out
   clear HA
   simp only [jG.l0] at H
   by_cases c5:x7_1<(t593.length:Int)
   ·rw [if_pos c5] at H
    have c5b0:decide (x7_1<(t593.length:Int))=true:=dzT c5
    clear c5
    by_cases c6:0≤x7_1
    ·rw [if_pos c6] at H
     have c6b0:decide (0≤x7_1)=true:=dzT c6
     clear c6
     by_cases c7:0≤(rd t593 x7_1)
     ·rw [if_pos c7] at H
      have c7b0:decide (0≤(rd t593 x7_1))=true:=dzT c7
      clear c7
      by_cases c8:(rd t593 x7_1)<(l0.length:Int)
      ·rw [if_pos c8] at H
       have c8b0:decide ((rd t593 x7_1)<(l0.length:Int))=true:=dzT c8
       clear c8
       have HC9:=am H
       clear H
       obtain ⟨Ao10,co10,eo10⟩:=Kd.jU HO_5.out
       subst eo10
       have p596:0≤(x7_1:Int):=ozD (uq)
       have q596:x7_1<(t593.length:Int):=ozD (uq)
       obtain ⟨ad596,e596,hx596_0⟩:=Kd.jgb (Kd.jh HO_5.out).2.2 x7_1 p596 q596
       cases e596
       replace p596:=ezT p596
       replace q596:=ezT q596
       have p597:0≤((rd t593 x7_1):Int):=ozD (uq)
       have q597:(rd t593 x7_1)<(l0.length:Int):=ozD (uq)
       obtain ⟨ad597,e597,hx597_0,hx597_1,hx597_2,hx597_3⟩:=jta HR0.out (rd t593 x7_1) p597 q597
       cases e597
       replace hx597_0:=cb HB.out hx597_0
       replace hx597_1:=cb HB.out hx597_1
       replace hx597_2:=cb HB.out hx597_2
       replace hx597_3:=cb HB.out hx597_3
       replace p597:=ezT p597
       replace q597:=ezT q597
       go_upto_if 27 with (fail)
       go_cut [6] (fun v6 wc=>∃ (kq:Nat) (x6_8:Int),v6=.int .i64 x6_8∧jq (jG.j1 kq l0 t593 x6_8 x7_1 ((jc l0 (rd t593 x7_1)).f1)=some r)∧jq (kq≤k1)∧jq (Kd.R (Kd.int .i64) 3 wc w.heap.size (fun _=>True) (.slice (some ad596) t593.length co10) t593)∧jq (Below w.heap.size w wc))
       case first =>
        have H:=HC9.out
        clear HC9
        by_cases c11:((jc l0 (rd t593 x7_1)).f1)=8
        ·rw [if_pos c11] at H
         have c11b0:(((jc l0 (rd t593 x7_1)).f1) == 8)=true:=beq_iff_eq.mpr c11
         have c11b1:(((jc l0 (rd t593 x7_1)).f1) != 8)=false:=bne_eq_false_iff_eq.mpr c11
         clear c11
         (first | rw [c11b0] |(simp only [jhb,jpb];rw [c11b0]) | skip)
         have H':=am H
         clear H
         go_wp2
         go_meet
         case rel=>exact ⟨_,(wrap64 (x6_1+1)),(sq),H',⟨by have:=HK1.out;first | omega | exact Nat.le_refl _⟩,⟨rq HO_5.out⟩,⟨bq⟩⟩
        ·rw [if_neg c11] at H
         have c11b0:(((jc l0 (rd t593 x7_1)).f1) == 8)=false:=beq_eq_false_iff_ne.mpr c11
         have c11b1:(((jc l0 (rd t593 x7_1)).f1) != 8)=true:=bne_iff_ne.mpr c11
         (first | rw [c11b0] |(simp only [jhb,jpb];rw [c11b0]) | skip)
         have H':=am H
         clear H
         go_wp2
         go_meet
         case rel=>exact ⟨_,(x6_1),(sq),H',⟨by have:=HK1.out;first | omega | exact Nat.le_refl _⟩,⟨rq HO_5.out⟩,⟨bq⟩⟩
       case rest =>
        clear HC9
        try clear c1
        try clear p2
        try clear c5
        try clear c5b0
        try clear p5
        try clear q5
        try clear hx5
        try clear c6
        try clear c6b0
        try clear p6
        try clear c7
        try clear c7b0
        try clear c8
        try clear c8b0
        try clear c10
        try clear c11
        try clear c11b0
        try clear c11b1
        try clear hx596_0
        try clear hx597_0
        try clear hx597_1
        try clear hx597_2
        try clear hx597_3
        try clear p2
        try clear p596
        try clear p597
        try clear q596
        try clear q597
        obtain ⟨kq,x6_8,rfl,HA,HJ8,HO_5,HB⟩:=hcut
        cases kq with
        | zero=>exact absurd HA.out (by simp [jG.j1])
        | succ kj8 =>
         have H:=HA.out
         clear HA
         simp only [jG.j1] at H
         have HC12:=am H
         clear H
         go_upto_region 9 with (fail)
         go_cut [69] (fun v69 wc=>∃ (kq:Nat) (x69_11:Bool),v69=.bool x69_11∧jq (jG.j2 kq l0 t593 x6_8 x7_1 x69_11=some r)∧jq (kq≤kj8)∧jq (Kd.R (Kd.int .i64) 3 wc w.heap.size (fun _=>True) (.slice (some ad596) t593.length co10) t593)∧jq (Below w.heap.size w wc))
         case first =>
          have H:=HC12.out
          clear HC12
          by_cases c13:x7_1 > 1
          ·rw [if_pos c13] at H
           have c13b0:decide (1<x7_1)=true:=dzT c13
           clear c13
           (first | rw [c13b0] |(simp only [jhb,jpb];rw [c13b0]) | skip)
           obtain ⟨ji14,hji14⟩:∃ j_:Int,(wrap64 (x7_1 - 1))=j_:=⟨_,rfl⟩
           replace H:(if 0≤(ji14) then (if (ji14)<(t593.length:Int) then (if 0≤(rd t593 (ji14)) then (if (rd t593 (ji14))<(l0.length:Int) then (if ((jc l0 (rd t593 x7_1)).f1)<((jc l0 (rd t593 (ji14))).f1) then (jG.j2 kj8 l0 t593 x6_8 x7_1 true) else (if ((jc l0 (rd t593 x7_1)).f1)=((jc l0 (rd t593 (ji14))).f1) then (if ((jc l0 (rd t593 x7_1)).f1)=8 then (if ((jc l0 (rd t593 x7_1)).f1)=9 then (jG.j2 kj8 l0 t593 x6_8 x7_1 (x6_8 == 0)) else (jG.j2 kj8 l0 t593 x6_8 x7_1 false)) else (jG.j2 kj8 l0 t593 x6_8 x7_1 true)) else (if ((jc l0 (rd t593 x7_1)).f1)=9 then (jG.j2 kj8 l0 t593 x6_8 x7_1 (x6_8 == 0)) else (jG.j2 kj8 l0 t593 x6_8 x7_1 false)))) else (none)) else (none)) else (none)) else (none))=some r:=by first |(rw [hji14] at H;exact H) |(simp only [hji14] at H ⊢;exact H)
           have hji14w:(IntKind.i64.wrap (x7_1 - 1))=ji14:=(jhb _).trans hji14
           by_cases c15:0≤(ji14)
           ·rw [if_pos c15] at H
            have c15b0:decide (0≤(ji14))=true:=dzT c15
            clear c15
            by_cases c16:(ji14)<(t593.length:Int)
            ·rw [if_pos c16] at H
             have c16b0:decide ((ji14)<(t593.length:Int))=true:=dzT c16
             clear c16
             by_cases c17:0≤(rd t593 (ji14))
             ·rw [if_pos c17] at H
              have c17b0:decide (0≤(rd t593 (ji14)))=true:=dzT c17
              clear c17
              by_cases c18:(rd t593 (ji14))<(l0.length:Int)
              ·rw [if_pos c18] at H
               have c18b0:decide ((rd t593 (ji14))<(l0.length:Int))=true:=dzT c18
               clear c18
               by_cases c19:((jc l0 (rd t593 x7_1)).f1)<((jc l0 (rd t593 (ji14))).f1)
               ·rw [if_pos c19] at H
                have c19b0:decide (((jc l0 (rd t593 x7_1)).f1)<((jc l0 (rd t593 (ji14))).f1))=true:=dzT c19
                clear c19
                have H':=am H
                clear H
                have p598:0≤((ji14):Int):=ozD (uq)
                have q598:(ji14)<(t593.length:Int):=ozD (uq)
                obtain ⟨ad598,e598,hx598_0⟩:=Kd.jgb (Kd.jh HO_5.out).2.2 (ji14) p598 q598
                obtain rfl:ad596=ad598:=(by injection e598)
                replace p598:=ezT p598
                replace q598:=ezT q598
                have p599:0≤((rd t593 (ji14)):Int):=ozD (uq)
                have q599:(rd t593 (ji14))<(l0.length:Int):=ozD (uq)
                obtain ⟨ad599,e599,hx599_0,hx599_1,hx599_2,hx599_3⟩:=jta HR0.out (rd t593 (ji14)) p599 q599
                obtain rfl:ad597=ad599:=(by injection e599)
                replace hx599_0:=cb HB.out hx599_0
                replace hx599_1:=cb HB.out hx599_1
                replace hx599_2:=cb HB.out hx599_2
                replace hx599_3:=cb HB.out hx599_3
                replace p599:=ezT p599
                replace q599:=ezT q599
                go_wp2
                go_meet
                case rel=>exact ⟨_,(true),(sq),H',⟨by have:=HK1.out;have:=HJ8.out;first | omega | exact Nat.le_refl _⟩,⟨rq HO_5.out⟩,⟨bq⟩⟩
               ·rw [if_neg c19] at H
                have c19b0:decide (((jc l0 (rd t593 x7_1)).f1)<((jc l0 (rd t593 (ji14))).f1))=false:=dzF c19
                clear c19
                by_cases c20:((jc l0 (rd t593 x7_1)).f1)=((jc l0 (rd t593 (ji14))).f1)
                ·rw [if_pos c20] at H
                 have c20b0:(((jc l0 (rd t593 x7_1)).f1) == ((jc l0 (rd t593 (ji14))).f1))=true:=beq_iff_eq.mpr c20
                 have c20b1:(((jc l0 (rd t593 x7_1)).f1) != ((jc l0 (rd t593 (ji14))).f1))=false:=bne_eq_false_iff_eq.mpr c20
                 clear c20
                 by_cases c21:((jc l0 (rd t593 x7_1)).f1)=8
                 ·rw [if_pos c21] at H
                  have c21b0:(((jc l0 (rd t593 x7_1)).f1) == 8)=true:=beq_iff_eq.mpr c21
                  have c21b1:(((jc l0 (rd t593 x7_1)).f1) != 8)=false:=bne_eq_false_iff_eq.mpr c21
                  clear c21
                  by_cases c22:((jc l0 (rd t593 x7_1)).f1)=9
                  ·rw [if_pos c22] at H
                   have c22b0:(((jc l0 (rd t593 x7_1)).f1) == 9)=true:=beq_iff_eq.mpr c22
                   have c22b1:(((jc l0 (rd t593 x7_1)).f1) != 9)=false:=bne_eq_false_iff_eq.mpr c22
                   clear c22
                   have H':=am H
                   clear H
                   have p598:0≤((ji14):Int):=ozD (uq)
                   have q598:(ji14)<(t593.length:Int):=ozD (uq)
                   obtain ⟨ad598,e598,hx598_0⟩:=Kd.jgb (Kd.jh HO_5.out).2.2 (ji14) p598 q598
                   obtain rfl:ad596=ad598:=(by injection e598)
                   replace p598:=ezT p598
                   replace q598:=ezT q598
                   have p599:0≤((rd t593 (ji14)):Int):=ozD (uq)
                   have q599:(rd t593 (ji14))<(l0.length:Int):=ozD (uq)
                   obtain ⟨ad599,e599,hx599_0,hx599_1,hx599_2,hx599_3⟩:=jta HR0.out (rd t593 (ji14)) p599 q599
                   obtain rfl:ad597=ad599:=(by injection e599)
                   replace hx599_0:=cb HB.out hx599_0
                   replace hx599_1:=cb HB.out hx599_1
                   replace hx599_2:=cb HB.out hx599_2
                   replace hx599_3:=cb HB.out hx599_3
                   replace p599:=ezT p599
                   replace q599:=ezT q599
                   have p600:0≤((ji14):Int):=ozD (uq)
                   have q600:(ji14)<(t593.length:Int):=ozD (uq)
                   obtain ⟨ad600,e600,hx600_0⟩:=Kd.jgb (Kd.jh HO_5.out).2.2 (ji14) p600 q600
                   obtain rfl:ad596=ad600:=(by injection e600)
                   replace p600:=ezT p600
                   replace q600:=ezT q600
                   have p601:0≤((rd t593 (ji14)):Int):=ozD (uq)
                   have q601:(rd t593 (ji14))<(l0.length:Int):=ozD (uq)
                   obtain ⟨ad601,e601,hx601_0,hx601_1,hx601_2,hx601_3⟩:=jta HR0.out (rd t593 (ji14)) p601 q601
                   obtain rfl:ad597=ad601:=(by injection e601)
                   replace hx601_0:=cb HB.out hx601_0
                   replace hx601_1:=cb HB.out hx601_1
                   replace hx601_2:=cb HB.out hx601_2
                   replace hx601_3:=cb HB.out hx601_3
                   replace p601:=ezT p601
                   replace q601:=ezT q601
                   go_wp2
                   go_meet
                   case rel=>exact ⟨_,((x6_8 == 0)),(sq),H',⟨by have:=HK1.out;have:=HJ8.out;first | omega | exact Nat.le_refl _⟩,⟨rq HO_5.out⟩,⟨bq⟩⟩
                  ·rw [if_neg c22] at H
                   have c22b0:(((jc l0 (rd t593 x7_1)).f1) == 9)=false:=beq_eq_false_iff_ne.mpr c22
                   have c22b1:(((jc l0 (rd t593 x7_1)).f1) != 9)=true:=bne_iff_ne.mpr c22
                   have H':=am H
                   clear H
                   have p598:0≤((ji14):Int):=ozD (uq)
                   have q598:(ji14)<(t593.length:Int):=ozD (uq)
                   obtain ⟨ad598,e598,hx598_0⟩:=Kd.jgb (Kd.jh HO_5.out).2.2 (ji14) p598 q598
                   obtain rfl:ad596=ad598:=(by injection e598)
                   replace p598:=ezT p598
                   replace q598:=ezT q598
                   have p599:0≤((rd t593 (ji14)):Int):=ozD (uq)
                   have q599:(rd t593 (ji14))<(l0.length:Int):=ozD (uq)
                   obtain ⟨ad599,e599,hx599_0,hx599_1,hx599_2,hx599_3⟩:=jta HR0.out (rd t593 (ji14)) p599 q599
                   obtain rfl:ad597=ad599:=(by injection e599)
                   replace hx599_0:=cb HB.out hx599_0
                   replace hx599_1:=cb HB.out hx599_1
                   replace hx599_2:=cb HB.out hx599_2
                   replace hx599_3:=cb HB.out hx599_3
                   replace p599:=ezT p599
                   replace q599:=ezT q599
                   have p600:0≤((ji14):Int):=ozD (uq)
                   have q600:(ji14)<(t593.length:Int):=ozD (uq)
                   obtain ⟨ad600,e600,hx600_0⟩:=Kd.jgb (Kd.jh HO_5.out).2.2 (ji14) p600 q600
                   obtain rfl:ad596=ad600:=(by injection e600)
                   replace p600:=ezT p600
                   replace q600:=ezT q600
                   have p601:0≤((rd t593 (ji14)):Int):=ozD (uq)
                   have q601:(rd t593 (ji14))<(l0.length:Int):=ozD (uq)
                   obtain ⟨ad601,e601,hx601_0,hx601_1,hx601_2,hx601_3⟩:=jta HR0.out (rd t593 (ji14)) p601 q601
                   obtain rfl:ad597=ad601:=(by injection e601)
                   replace hx601_0:=cb HB.out hx601_0
                   replace hx601_1:=cb HB.out hx601_1
                   replace hx601_2:=cb HB.out hx601_2
                   replace hx601_3:=cb HB.out hx601_3
                   replace p601:=ezT p601
                   replace q601:=ezT q601
                   go_wp2
                   go_meet
                   case rel=>exact ⟨_,(false),(sq),H',⟨by have:=HK1.out;have:=HJ8.out;first | omega | exact Nat.le_refl _⟩,⟨rq HO_5.out⟩,⟨bq⟩⟩
                 ·rw [if_neg c21] at H
                  have c21b0:(((jc l0 (rd t593 x7_1)).f1) == 8)=false:=beq_eq_false_iff_ne.mpr c21
                  have c21b1:(((jc l0 (rd t593 x7_1)).f1) != 8)=true:=bne_iff_ne.mpr c21
                  have H':=am H
                  clear H
                  have p598:0≤((ji14):Int):=ozD (uq)
                  have q598:(ji14)<(t593.length:Int):=ozD (uq)
                  obtain ⟨ad598,e598,hx598_0⟩:=Kd.jgb (Kd.jh HO_5.out).2.2 (ji14) p598 q598
                  obtain rfl:ad596=ad598:=(by injection e598)
                  replace p598:=ezT p598
                  replace q598:=ezT q598
                  have p599:0≤((rd t593 (ji14)):Int):=ozD (uq)
                  have q599:(rd t593 (ji14))<(l0.length:Int):=ozD (uq)
                  obtain ⟨ad599,e599,hx599_0,hx599_1,hx599_2,hx599_3⟩:=jta HR0.out (rd t593 (ji14)) p599 q599
                  obtain rfl:ad597=ad599:=(by injection e599)
                  replace hx599_0:=cb HB.out hx599_0
                  replace hx599_1:=cb HB.out hx599_1
                  replace hx599_2:=cb HB.out hx599_2
                  replace hx599_3:=cb HB.out hx599_3
                  replace p599:=ezT p599
                  replace q599:=ezT q599
                  have p600:0≤((ji14):Int):=ozD (uq)
                  have q600:(ji14)<(t593.length:Int):=ozD (uq)
                  obtain ⟨ad600,e600,hx600_0⟩:=Kd.jgb (Kd.jh HO_5.out).2.2 (ji14) p600 q600
                  obtain rfl:ad596=ad600:=(by injection e600)
                  replace p600:=ezT p600
                  replace q600:=ezT q600
                  have p601:0≤((rd t593 (ji14)):Int):=ozD (uq)
                  have q601:(rd t593 (ji14))<(l0.length:Int):=ozD (uq)
                  obtain ⟨ad601,e601,hx601_0,hx601_1,hx601_2,hx601_3⟩:=jta HR0.out (rd t593 (ji14)) p601 q601
                  obtain rfl:ad597=ad601:=(by injection e601)
                  replace hx601_0:=cb HB.out hx601_0
                  replace hx601_1:=cb HB.out hx601_1
                  replace hx601_2:=cb HB.out hx601_2
                  replace hx601_3:=cb HB.out hx601_3
                  replace p601:=ezT p601
                  replace q601:=ezT q601
                  go_wp2
                  go_meet
                  case rel=>exact ⟨_,(true),(sq),H',⟨by have:=HK1.out;have:=HJ8.out;first | omega | exact Nat.le_refl _⟩,⟨rq HO_5.out⟩,⟨bq⟩⟩
                ·rw [if_neg c20] at H
                 have c20b0:(((jc l0 (rd t593 x7_1)).f1) == ((jc l0 (rd t593 (ji14))).f1))=false:=beq_eq_false_iff_ne.mpr c20
                 have c20b1:(((jc l0 (rd t593 x7_1)).f1) != ((jc l0 (rd t593 (ji14))).f1))=true:=bne_iff_ne.mpr c20
                 by_cases c23:((jc l0 (rd t593 x7_1)).f1)=9
                 ·rw [if_pos c23] at H
                  have c23b0:(((jc l0 (rd t593 x7_1)).f1) == 9)=true:=beq_iff_eq.mpr c23
                  have c23b1:(((jc l0 (rd t593 x7_1)).f1) != 9)=false:=bne_eq_false_iff_eq.mpr c23
                  clear c23
                  have H':=am H
                  clear H
                  have p598:0≤((ji14):Int):=ozD (uq)
                  have q598:(ji14)<(t593.length:Int):=ozD (uq)
                  obtain ⟨ad598,e598,hx598_0⟩:=Kd.jgb (Kd.jh HO_5.out).2.2 (ji14) p598 q598
                  obtain rfl:ad596=ad598:=(by injection e598)
                  replace p598:=ezT p598
                  replace q598:=ezT q598
                  have p599:0≤((rd t593 (ji14)):Int):=ozD (uq)
                  have q599:(rd t593 (ji14))<(l0.length:Int):=ozD (uq)
                  obtain ⟨ad599,e599,hx599_0,hx599_1,hx599_2,hx599_3⟩:=jta HR0.out (rd t593 (ji14)) p599 q599
                  obtain rfl:ad597=ad599:=(by injection e599)
                  replace hx599_0:=cb HB.out hx599_0
                  replace hx599_1:=cb HB.out hx599_1
                  replace hx599_2:=cb HB.out hx599_2
                  replace hx599_3:=cb HB.out hx599_3
                  replace p599:=ezT p599
                  replace q599:=ezT q599
                  have p600:0≤((ji14):Int):=ozD (uq)
                  have q600:(ji14)<(t593.length:Int):=ozD (uq)
                  obtain ⟨ad600,e600,hx600_0⟩:=Kd.jgb (Kd.jh HO_5.out).2.2 (ji14) p600 q600
                  obtain rfl:ad596=ad600:=(by injection e600)
                  replace p600:=ezT p600
                  replace q600:=ezT q600
                  have p601:0≤((rd t593 (ji14)):Int):=ozD (uq)
                  have q601:(rd t593 (ji14))<(l0.length:Int):=ozD (uq)
                  obtain ⟨ad601,e601,hx601_0,hx601_1,hx601_2,hx601_3⟩:=jta HR0.out (rd t593 (ji14)) p601 q601
                  obtain rfl:ad597=ad601:=(by injection e601)
                  replace hx601_0:=cb HB.out hx601_0
                  replace hx601_1:=cb HB.out hx601_1
                  replace hx601_2:=cb HB.out hx601_2
                  replace hx601_3:=cb HB.out hx601_3
                  replace p601:=ezT p601
                  replace q601:=ezT q601
                  go_wp2
                  go_meet
                  case rel=>exact ⟨_,((x6_8 == 0)),(sq),H',⟨by have:=HK1.out;have:=HJ8.out;first | omega | exact Nat.le_refl _⟩,⟨rq HO_5.out⟩,⟨bq⟩⟩
                 ·rw [if_neg c23] at H
                  have c23b0:(((jc l0 (rd t593 x7_1)).f1) == 9)=false:=beq_eq_false_iff_ne.mpr c23
                  have c23b1:(((jc l0 (rd t593 x7_1)).f1) != 9)=true:=bne_iff_ne.mpr c23
                  have H':=am H
                  clear H
                  have p598:0≤((ji14):Int):=ozD (uq)
                  have q598:(ji14)<(t593.length:Int):=ozD (uq)
                  obtain ⟨ad598,e598,hx598_0⟩:=Kd.jgb (Kd.jh HO_5.out).2.2 (ji14) p598 q598
                  obtain rfl:ad596=ad598:=(by injection e598)
                  replace p598:=ezT p598
                  replace q598:=ezT q598
                  have p599:0≤((rd t593 (ji14)):Int):=ozD (uq)
                  have q599:(rd t593 (ji14))<(l0.length:Int):=ozD (uq)
                  obtain ⟨ad599,e599,hx599_0,hx599_1,hx599_2,hx599_3⟩:=jta HR0.out (rd t593 (ji14)) p599 q599
                  obtain rfl:ad597=ad599:=(by injection e599)
                  replace hx599_0:=cb HB.out hx599_0
                  replace hx599_1:=cb HB.out hx599_1
                  replace hx599_2:=cb HB.out hx599_2
                  replace hx599_3:=cb HB.out hx599_3
                  replace p599:=ezT p599
                  replace q599:=ezT q599
                  have p600:0≤((ji14):Int):=ozD (uq)
                  have q600:(ji14)<(t593.length:Int):=ozD (uq)
                  obtain ⟨ad600,e600,hx600_0⟩:=Kd.jgb (Kd.jh HO_5.out).2.2 (ji14) p600 q600
                  obtain rfl:ad596=ad600:=(by injection e600)
                  replace p600:=ezT p600
                  replace q600:=ezT q600
                  have p601:0≤((rd t593 (ji14)):Int):=ozD (uq)
                  have q601:(rd t593 (ji14))<(l0.length:Int):=ozD (uq)
                  obtain ⟨ad601,e601,hx601_0,hx601_1,hx601_2,hx601_3⟩:=jta HR0.out (rd t593 (ji14)) p601 q601
                  obtain rfl:ad597=ad601:=(by injection e601)
                  replace hx601_0:=cb HB.out hx601_0
                  replace hx601_1:=cb HB.out hx601_1
                  replace hx601_2:=cb HB.out hx601_2
                  replace hx601_3:=cb HB.out hx601_3
                  replace p601:=ezT p601
                  replace q601:=ezT q601
                  go_wp2
                  go_meet
                  case rel=>exact ⟨_,(false),(sq),H',⟨by have:=HK1.out;have:=HJ8.out;first | omega | exact Nat.le_refl _⟩,⟨rq HO_5.out⟩,⟨bq⟩⟩
              ·rw [if_neg c18] at H
               exact absurd H (by simp)
             ·rw [if_neg c17] at H
              exact absurd H (by simp)
            ·rw [if_neg c16] at H
             exact absurd H (by simp)
           ·rw [if_neg c15] at H
            exact absurd H (by simp)
          ·rw [if_neg c13] at H
           have c13b0:decide (1<x7_1)=false:=dzF c13
           clear c13
           (first | rw [c13b0] |(simp only [jhb,jpb];rw [c13b0]) | skip)
           by_cases c24:((jc l0 (rd t593 x7_1)).f1)=9
           ·rw [if_pos c24] at H
            have c24b0:(((jc l0 (rd t593 x7_1)).f1) == 9)=true:=beq_iff_eq.mpr c24
            have c24b1:(((jc l0 (rd t593 x7_1)).f1) != 9)=false:=bne_eq_false_iff_eq.mpr c24
            clear c24
            have H':=am H
            clear H
            go_wp2
            go_meet
            case rel=>exact ⟨_,((x6_8 == 0)),(sq),H',⟨by have:=HK1.out;have:=HJ8.out;first | omega | exact Nat.le_refl _⟩,⟨rq HO_5.out⟩,⟨bq⟩⟩
           ·rw [if_neg c24] at H
            have c24b0:(((jc l0 (rd t593 x7_1)).f1) == 9)=false:=beq_eq_false_iff_ne.mpr c24
            have c24b1:(((jc l0 (rd t593 x7_1)).f1) != 9)=true:=bne_iff_ne.mpr c24
            have H':=am H
            clear H
            go_wp2
            go_meet
            case rel=>exact ⟨_,(false),(sq),H',⟨by have:=HK1.out;have:=HJ8.out;first | omega | exact Nat.le_refl _⟩,⟨rq HO_5.out⟩,⟨bq⟩⟩
         case rest =>
          clear HC12
          try clear c1
          try clear c2
          try clear p2
          try clear c5
          try clear c5b0
          try clear p5
          try clear q5
          try clear hx5
          try clear c6
          try clear c6b0
          try clear p6
          try clear q6
          try clear hx6
          try clear c7
          try clear c7b0
          try clear c8
          try clear c8b0
          try clear c10
          try clear c11
          try clear c11b0
          try clear c11b1
          try clear c13
          try clear c13b0
          try clear c15
          try clear c15b0
          try clear c16
          try clear c16b0
          try clear c17
          try clear c17b0
          try clear c18
          try clear c18b0
          try clear c19
          try clear c19b0
          try clear c20
          try clear c20b0
          try clear c20b1
          try clear c21
          try clear c21b0
          try clear c21b1
          try clear c22
          try clear c22b0
          try clear c22b1
          try clear c23
          try clear c23b0
          try clear c23b1
          try clear c24
          try clear c24b0
          try clear c24b1
          try clear hx596_0
          try clear hx597_0
          try clear hx597_1
          try clear hx597_2
          try clear hx597_3
          try clear hx598_0
          try clear hx599_0
          try clear hx599_1
          try clear hx599_2
          try clear hx599_3
          try clear hx600_0
          try clear hx601_0
          try clear hx601_1
          try clear hx601_2
          try clear hx601_3
          try clear p2
          try clear p5
          try clear p596
          try clear p597
          try clear p598
          try clear p599
          try clear p6
          try clear p600
          try clear p601
          try clear q5
          try clear q596
          try clear q597
          try clear q598
          try clear q599
          try clear q600
          try clear q601
          obtain ⟨kq,x69_11,rfl,HA,HJ11,HO_5,HB⟩:=hcut
          cases kq with
          | zero=>exact absurd HA.out (by simp [jG.j2])
          | succ kj11 =>
           have H:=HA.out
           clear HA
           simp only [jG.j2] at H
           by_cases c25:x69_11=true
           ·subst c25
            have H1:(some false)=some r:=by rw [if_pos rfl] at H;exact H
            clear H
            have H:=H1
            clear H1
            obtain rfl:=Option.some.inj H
            go_wp2
            go_ret
            exact ⟨Y0,bq⟩
           ·replace c25:=Bool.eq_false_iff.mpr c25
            subst c25
            have H1:(jG.l0 kj11 l0 t593 x6_8 (wrap64 (x7_1+1)))=some r:=by rw [if_neg (show ¬ (false=true) by decide)] at H;exact H
            clear H
            have H:=H1
            clear H1
            have H':=am H
            clear H
            go_wp2
            go_roundg kj11
            case measure=>have:=HK1.out;have:=HJ8.out;have:=HJ11.out;omega
            case rel=>exact ⟨(x6_8),(wrap64 (x7_1+1)),(sq),(sq),H',⟨by have:=HK1.out;have:=HJ8.out;have:=HJ11.out;omega⟩,⟨rq HO_5.out⟩,⟨bq⟩⟩
      ·rw [if_neg c8] at H
       exact absurd H (by simp)
     ·rw [if_neg c7] at H
      exact absurd H (by simp)
    ·rw [if_neg c6] at H
     exact absurd H (by simp)
   ·rw [if_neg c5] at H
    have c5b0:decide (x7_1<(t593.length:Int))=false:=dzF c5
    clear c5
    by_cases c26:(t593.length:Int) > 1
    ·rw [if_pos c26] at H
     have c26b0:decide (1<(t593.length:Int))=true:=dzT c26
     have c26b1:decide (1<t593.length)=true:=dzT (by omega)
     clear c26
     obtain rfl:=Option.some.inj H
     obtain ⟨Ao27,co27,eo27⟩:=Kd.jU HO_5.out
     subst eo27
     go_wp2
     go_ret
     exact ⟨Y0,bq⟩
    ·rw [if_neg c26] at H
     have c26b0:decide (1<(t593.length:Int))=false:=dzF c26
     have c26b1:decide (1<t593.length)=false:=dzF (by omega)
     clear c26
     obtain rfl:=Option.some.inj H
     obtain ⟨Ao28,co28,eo28⟩:=Kd.jU HO_5.out
     subst eo28
     go_wp2
     go_ret
     exact ⟨Y0,bq⟩
def jUa.l0 : Nat → List (S52) → Int → Int → Option (Bool)
 | 0,_,_,_=>none
 | k+1,x0,x5,x6=>if x6≥0 then (if 0≤x6 then (if x6<(x0.length:Int) then (if ((jc x0 x6).f0)<x5 then (if ((jc x0 x6).f1)=12 then (some true) else (jUa.l0 k x0 ((jc x0 x6).f0) (wrap64 (x6 - 1)))) else (jUa.l0 k x0 x5 (wrap64 (x6 - 1)))) else (none)) else (none)) else (some false)
def jUa.f (k : Nat) (l0 : List (S52)) (a1 : Int) : Option (Bool) := if 0 ≤ a1 then (if a1 < (l0.length : Int) then (jUa.l0 k l0 ((jc l0 a1).f0) (wrap64 (a1 - 1))) else (none)) else (none)
set_option maxHeartbeats 8000000 in
set_option maxRecDepth 100000 in
theorem jUa.calls (k : Nat) (A0 : Option Addr) (c0 : Nat) (l0 : List (S52)) (a1 : Int) (r : Bool) (w : World) (hr0 : Kd.C k52 w A0 l0.length l0) (hc0 : l0.length ≤ c0) (h : jUa.f k l0 a1 = some r) :
  Calls Try.prog 107 #[.slice A0 l0.length c0, .int .i64 a1] w fun e w'=>e=.returned (.bool r)∧jjb w w':=by
 have HR0:=am hr0
 have HC0:=am hc0
 clear hr0 hc0
 have H:(if 0≤a1 then (if a1<(l0.length:Int) then (jUa.l0 k l0 ((jc l0 a1).f0) (wrap64 (a1 - 1))) else (none)) else (none))=some r:=h
 clear h
 by_cases c3:0≤a1
 ·rw [if_pos c3] at H
  have c3b0:decide (0≤a1)=true:=dzT c3
  clear c3
  by_cases c4:a1<(l0.length:Int)
  ·rw [if_pos c4] at H
   have c4b0:decide (a1<(l0.length:Int))=true:=dzT c4
   clear c4
   have H':=am H
   clear H
   have p602:0≤(a1:Int):=ozD (uq)
   have q602:a1<(l0.length:Int):=ozD (uq)
   obtain ⟨ad602,e602,hx602_0,hx602_1,hx602_2,hx602_3⟩:=jta HR0.out a1 p602 q602
   cases e602
   replace p602:=ezT p602
   replace q602:=ezT q602
   go_enter Try.func107,Try.ntmps107
   go_wp2
   go_loopg [5,6] k (fun kq v5 v6 w'=>∃ (x5_1:Int) (x6_1:Int),v5=.int .i64 x5_1∧v6=.int .i64 x6_1∧jq (jUa.l0 kq l0 x5_1 x6_1=some r)∧jq (kq≤k)∧jjb w w')
   case atStart=>exact ⟨((jc l0 a1).f0),(wrap64 (a1 - 1)),(sq),(sq),H',⟨Nat.le_refl _⟩,Y5⟩
   case round =>
    clear H'
    try clear c1
    try clear p2
    try clear c3
    try clear c3b0
    try clear c4
    try clear c4b0
    try clear hx602_0
    try clear hx602_1
    try clear hx602_2
    try clear hx602_3
    try clear p602
    try clear q602
    obtain ⟨x5_1,x6_1,rfl,rfl,HA,HK1,⟨m1,rfl⟩⟩:=hrel
    cases gk with
    | zero=>exact absurd HA.out (by simp [jUa.l0])
    | succ k1 =>
     have H:=HA.out
     clear HA
     simp only [jUa.l0] at H
     by_cases c5:x6_1≥0
     ·rw [if_pos c5] at H
      have c5b0:decide (0≤x6_1)=true:=dzT c5
      clear c5
      by_cases c6:0≤x6_1
      ·rw [if_pos c6] at H
       have c6b0:decide (0≤x6_1)=true:=dzT c6
       clear c6
       by_cases c7:x6_1<(l0.length:Int)
       ·rw [if_pos c7] at H
        have c7b0:decide (x6_1<(l0.length:Int))=true:=dzT c7
        clear c7
        by_cases c8:((jc l0 x6_1).f0)<x5_1
        ·rw [if_pos c8] at H
         have c8b0:decide (((jc l0 x6_1).f0)<x5_1)=true:=dzT c8
         clear c8
         by_cases c9:((jc l0 x6_1).f1)=12
         ·rw [if_pos c9] at H
          have c9b0:(((jc l0 x6_1).f1) == 12)=true:=beq_iff_eq.mpr c9
          have c9b1:(((jc l0 x6_1).f1) != 12)=false:=bne_eq_false_iff_eq.mpr c9
          clear c9
          obtain rfl:=Option.some.inj H
          have p603:0≤(x6_1:Int):=ozD (uq)
          have q603:x6_1<(l0.length:Int):=ozD (uq)
          obtain ⟨ad603,e603,hx603_0,hx603_1,hx603_2,hx603_3⟩:=jta HR0.out x6_1 p603 q603
          obtain rfl:ad602=ad603:=(by injection e603)
          replace p603:=ezT p603
          replace q603:=ezT q603
          have p604:0≤(x6_1:Int):=ozD (uq)
          have q604:x6_1<(l0.length:Int):=ozD (uq)
          obtain ⟨ad604,e604,hx604_0,hx604_1,hx604_2,hx604_3⟩:=jta HR0.out x6_1 p604 q604
          obtain rfl:ad602=ad604:=(by injection e604)
          replace p604:=ezT p604
          replace q604:=ezT q604
          have p605:0≤(x6_1:Int):=ozD (uq)
          have q605:x6_1<(l0.length:Int):=ozD (uq)
          obtain ⟨ad605,e605,hx605_0,hx605_1,hx605_2,hx605_3⟩:=jta HR0.out x6_1 p605 q605
          obtain rfl:ad602=ad605:=(by injection e605)
          replace p605:=ezT p605
          replace q605:=ezT q605
          go_wp2
          go_ret
          exact ⟨sq,Y5⟩
         ·rw [if_neg c9] at H
          have c9b0:(((jc l0 x6_1).f1) == 12)=false:=beq_eq_false_iff_ne.mpr c9
          have c9b1:(((jc l0 x6_1).f1) != 12)=true:=bne_iff_ne.mpr c9
          have H':=am H
          clear H
          have p603:0≤(x6_1:Int):=ozD (uq)
          have q603:x6_1<(l0.length:Int):=ozD (uq)
          obtain ⟨ad603,e603,hx603_0,hx603_1,hx603_2,hx603_3⟩:=jta HR0.out x6_1 p603 q603
          obtain rfl:ad602=ad603:=(by injection e603)
          replace p603:=ezT p603
          replace q603:=ezT q603
          have p604:0≤(x6_1:Int):=ozD (uq)
          have q604:x6_1<(l0.length:Int):=ozD (uq)
          obtain ⟨ad604,e604,hx604_0,hx604_1,hx604_2,hx604_3⟩:=jta HR0.out x6_1 p604 q604
          obtain rfl:ad602=ad604:=(by injection e604)
          replace p604:=ezT p604
          replace q604:=ezT q604
          have p605:0≤(x6_1:Int):=ozD (uq)
          have q605:x6_1<(l0.length:Int):=ozD (uq)
          obtain ⟨ad605,e605,hx605_0,hx605_1,hx605_2,hx605_3⟩:=jta HR0.out x6_1 p605 q605
          obtain rfl:ad602=ad605:=(by injection e605)
          replace p605:=ezT p605
          replace q605:=ezT q605
          go_wp2
          go_roundg k1
          case measure=>have:=HK1.out;omega
          case rel=>exact ⟨((jc l0 x6_1).f0),(wrap64 (x6_1 - 1)),(sq),(sq),H',⟨by have:=HK1.out;omega⟩,Y5⟩
        ·rw [if_neg c8] at H
         have c8b0:decide (((jc l0 x6_1).f0)<x5_1)=false:=dzF c8
         clear c8
         have H':=am H
         clear H
         have p603:0≤(x6_1:Int):=ozD (uq)
         have q603:x6_1<(l0.length:Int):=ozD (uq)
         obtain ⟨ad603,e603,hx603_0,hx603_1,hx603_2,hx603_3⟩:=jta HR0.out x6_1 p603 q603
         obtain rfl:ad602=ad603:=(by injection e603)
         replace p603:=ezT p603
         replace q603:=ezT q603
         go_wp2
         go_roundg k1
         case measure=>have:=HK1.out;omega
         case rel=>exact ⟨(x5_1),(wrap64 (x6_1 - 1)),(sq),(sq),H',⟨by have:=HK1.out;omega⟩,Y5⟩
       ·rw [if_neg c7] at H
        exact absurd H (by simp)
      ·rw [if_neg c6] at H
       exact absurd H (by simp)
     ·rw [if_neg c5] at H
      have c5b0:decide (0≤x6_1)=false:=dzF c5
      clear c5
      obtain rfl:=Option.some.inj H
      go_wp2
      go_ret
      exact ⟨sq,Y5⟩
  ·rw [if_neg c4] at H
   exact absurd H (by simp)
 ·rw [if_neg c3] at H
  exact absurd H (by simp)
def jv.inB (a lo hi : Int) : Bool := decide (lo ≤ a) && decide (a ≤ hi)
theorem jec (a lo hi : Int) : jH.f a lo hi = some (jv.inB a lo hi) := by
 unfold jH.f jv.inB
 by_cases h:lo≤a
 ·rw [if_pos h];simp [h]
 ·rw [if_neg h];simp [h]
theorem spec_opens_eq (a : Int) : jDc.f a = some (jv.inB a 7 12) := by
 unfold jDc.f
 rw [jec];rfl
theorem spec_follows_eq (a : Int) : jCb.f a = some (jv.inB a 8 10) := by
 unfold jCb.f
 rw [jec];rfl
def jv.off (p : List S52) (i : Int) (x : S52) : Bool :=
 if (if i=0 then decide (x.f0≠0) else if (wrap64 ((jc p (i - 1)).f0+1))<x.f0 then true else (jv.inB (jc p (i - 1)).f1 7 12 != (x.f0 == wrap64 ((jc p (i - 1)).f0+1)))) then true
 else decide (i+1=(p.length:Int)) && jv.inB x.f1 7 12
def jv.f (k : Nat) (l0_0 : List S87) (l1 : List S52) (a2 : Int) : Option Bool :=
 if 0≤a2 then if a2<(l1.length:Int) then
  (jva.f k l0_0 (jc l1 a2).f0 (jc l1 a2).f1 (jc l1 a2).f2 (jc l1 a2).f3).bind fun v =>
  if v=false then some false else if jv.inB (jc l1 a2).f0 0 5=false then some false else
  if jv.off l1 a2 (jc l1 a2) then some false else
  (if (jc l1 a2).f1=7 then jG.f k l1 a2 else some true).bind fun c1=>if c1=false then some false else
  (if (jc l1 a2).f1=5∨(jc l1 a2).f1=6 then jUa.f k l1 a2 else some true).bind fun c2=>if c2=false then some false else
  if jv.inB (jc l1 a2).f1 8 10=false then some true else
  (jVa.f k l1 a2).bind fun h=>if 0≤h then if h<(l1.length:Int) then some ((jc l1 h).f1 == 7 || jv.inB (jc l1 h).f1 8 10) else none else some false
 else none else none
def VX (W : World) (BX : Nat) (x : S52) : Prop := W.heap[BX]? = some (.cells #[.int .i64 x.f0, .int .i64 x.f1, .int .i64 x.f2, .int .i64 x.f3] 52 (0, 0))
theorem VX.below {W W' : World} {BX : Nat} {x : S52} (h : VX W BX x) (hb : Below W.heap.size W W') : VX W' BX x := (hb.block _ (jDb h)).trans h
theorem VX.cells {W : World} {BX : Nat} {x : S52} (h : VX W BX x) : W.cell? ⟨BX, 0, none⟩ = some (.int .i64 x.f0) ∧ W.cell? ⟨BX, 1, none⟩ = some (.int .i64 x.f1) ∧ W.cell? ⟨BX, 2, none⟩ = some (.int .i64 x.f2) ∧ W.cell? ⟨BX, 3, none⟩ = some (.int .i64 x.f3) :=
 ⟨(jK h 0).trans rfl,(jK h 1).trans rfl,(jK h 2).trans rfl,(jK h 3).trans rfl⟩
set_option maxHeartbeats 8000000 in
set_option maxRecDepth 100000 in
theorem jv.calls (k : Nat) (A0_0 : Option Addr) (c0_0 : Nat) (l0_0 : List S87) (A1 : Option Addr) (c1 : Nat) (l1 : List S52) (a2 : Int) (r : Bool) (w : World) (hr0_0 : Kd.C k87 w A0_0 l0_0.length l0_0) (hc0_0 : l0_0.length ≤ c0_0) (hr1 : Kd.C k52 w A1 l1.length l1) (hc1 : l1.length ≤ c1) (h : jv.f k l0_0 l1 a2 = some r) :
  Calls Try.prog 85 #[.agg #[.slice A0_0 l0_0.length c0_0], .slice A1 l1.length c1, .int .i64 a2] w fun e w'=>e=.returned (.bool r)∧Below w.heap.size w w':=by
 have hu32:=Try.underlying32
 have hu52:=Try.underlying52
 have hm:l1.length≤9223372036854775807:=Kd.C_max hr1
 unfold jv.f at h
 by_cases h0:0≤a2
 ·rw [if_pos h0] at h
  by_cases h1:a2<(l1.length:Int)
  ·rw [if_pos h1] at h
   obtain ⟨v,hv,h⟩:=bzS h
   have HN:=am (fun W (hb:Below w.heap.size w W)=>jva.calls k A0_0 c0_0 l0_0 _ _ _ _ v W (Kd.jba hr0_0 hb) hc0_0 hv)
   clear hv
   obtain ⟨ad,rfl,hx0,hx1,hx2,hx3⟩:=jta hr1 a2 h0 h1
   have HR1:=am hr1
   clear hr0_0 hr1
   generalize hgx:jc l1 a2=x at h HN hx0 hx1 hx2 hx3
   clear hgx
   have X1:=am (show VX ((w.alloc (.cells #[.slice A0_0 l0_0.length c0_0] 32)).alloc (.cells #[.int .i64 x.f0, .int .i64 x.f1, .int .i64 x.f2, .int .i64 x.f3] 52)) (w.heap.size+1) x by have:=heap_alloc_new (w.alloc (.cells #[.slice A0_0 l0_0.length c0_0] 32)) (.cells #[.int .i64 x.f0, .int .i64 x.f1, .int .i64 x.f2, .int .i64 x.f3] 52);simpa [VX] using this)
   have HB1:=am (((Below.refl w.heap.size w).alloc (Nat.le_refl _) (.cells #[.slice A0_0 l0_0.length c0_0] 32)).alloc (by simp) (.cells #[.int .i64 x.f0, .int .i64 x.f1, .int .i64 x.f2, .int .i64 x.f3] 52))
   have hbt:=(Below.refl w.heap.size w).alloc (Nat.le_refl _) (.cells #[.slice A0_0 l0_0.length c0_0] 32)
   replace hx0:=jwa hbt hx0
   replace hx1:=jwa hbt hx1
   replace hx2:=jwa hbt hx2
   replace hx3:=jwa hbt hx3
   clear hbt
   have p0:=ezT h0
   have p1:=ezT h1
   cases v with
   | false =>
    obtain rfl:false=r:=by simpa using h
    clear h
    go_enter Try.func85,Try.ntmps85
    go_wp2_with (first |(go_at_call 104;refine (HN.out _ HB1.out).mono ?_;rintro e w2 ⟨rfl,hb2⟩;have X2:=am (VX.below X1.out hb2);have HB2:=am (jha HB1.out HB1.out.size hb2);clear hb2;obtain ⟨e0,e1,e2,e3⟩:=VX.cells X2.out))
    go_ret
    exact ⟨rfl,HB2.out⟩
   | true =>
    simp only [Bool.true_eq_false,if_false] at h
    cases h5:jv.inB x.f0 0 5 with
    | false =>
     have H5:=am h5
     rw [h5,if_pos rfl] at h
     obtain rfl:false=r:=by simpa using h
     clear h h5
     go_enter Try.func85,Try.ntmps85
     go_wp2_with (first |(go_at_call 104;refine (HN.out _ HB1.out).mono ?_;rintro e w2 ⟨rfl,hb2⟩;have X2:=am (VX.below X1.out hb2);have HB2:=am (jha HB1.out HB1.out.size hb2);clear hb2;obtain ⟨e0,e1,e2,e3⟩:=VX.cells X2.out) |(go_at_call 92;refine (jH.calls _ _ _ _ _ (jec _ _ _)).mono ?_;rintro e w3 ⟨rfl,hd3⟩;have hb3:=hd3.below;clear hd3;have X3:=am (VX.below X2.out hb3);have HB3:=am (jha HB2.out HB2.out.size hb3);clear hb3 e0 e1 e2 e3;obtain ⟨e0,e1,e2,e3⟩:=VX.cells X3.out;rw [H5.out]))
     go_ret
     exact ⟨rfl,HB3.out⟩
    | true =>
     have H5:=am h5
     rw [h5] at h
     simp only [Bool.true_eq_false,if_false] at h
     clear h5
     have HH:=am h
     clear h
     go_enter Try.func85,Try.ntmps85
     go_upto_region 4 with (first |(go_at_call 104;refine (HN.out _ HB1.out).mono ?_;rintro e w2 ⟨rfl,hb2⟩;have X2:=am (VX.below X1.out hb2);have HB2:=am (jha HB1.out HB1.out.size hb2);clear hb2;obtain ⟨e0,e1,e2,e3⟩:=VX.cells X2.out) |(go_at_call 92;refine (jH.calls _ _ _ _ _ (jec _ _ _)).mono ?_;rintro e w3 ⟨rfl,hd3⟩;have hb3:=hd3.below;clear hd3;have X3:=am (VX.below X2.out hb3);have HB3:=am (jha HB2.out HB2.out.size hb3);clear hb3 e0 e1 e2 e3;obtain ⟨e0,e1,e2,e3⟩:=VX.cells X3.out;rw [H5.out]))
     go_cut [77] (fun v77 wc=>v77=.bool (jv.off l1 a2 x)∧jq (VX wc (w.heap.size+1) x)∧jq (Below w.heap.size w wc))
     case first =>
      clear HH
      have HO:=am (fun (a:Int) (b:Bool) (hb:jv.inB a 7 12=b) W=>(jDc.calls a b W (by rw [spec_opens_eq,hb])).mono fun e w' h=>(⟨h.1,h.2.out⟩:e=.returned (.bool b)∧∃ m,w'=W.drewN m))
      have hw2:IntKind.i64.wrap (a2+1)=a2+1:=IntWalk.i64_in _ (by omega)
      by_cases z0:a2=0
      ·have b0:(a2 == 0)=true:=beq_iff_eq.2 z0
       have b0':decide (0<a2)=false:=dzF (by omega)
       by_cases zx:x.f0=0
       ·have b1:(x.f0 != 0)=false:=by simpa using zx
        have HE:=am (by unfold jv.off;rw [if_pos z0];simp [zx]:jv.off l1 a2 x=(decide (a2+1=(l1.length:Int)) && jv.inB x.f1 7 12))
        clear z0
        clear zx
        by_cases zl:a2+1=(l1.length:Int)
        ·have b3:(a2+1 == (l1.length:Int))=true:=by rw [beq_iff_eq];omega
         cases hx:jv.inB x.f1 7 12 with
         | true =>
          have HX:=am hx
          have HF:=am (by rw [HE.out,hx,dzT zl];rfl:jv.off l1 a2 x=true)
          clear zl hx HE
          go_big_quiet ((go_at_call 105;exact Calls.quiet_of (HO.out x.f1 _ HX.out _)))
          go_wp2
          go_meet
          case rel=>exact ⟨by rw [HF.out],X3,⟨jw HB3.out _⟩⟩
         | false =>
          have HX:=am hx
          have HF:=am (by rw [HE.out,hx];simp:jv.off l1 a2 x=false)
          clear zl hx HE
          go_big_quiet ((go_at_call 105;exact Calls.quiet_of (HO.out x.f1 _ HX.out _)))
          go_wp2
          go_meet
          case rel=>exact ⟨by rw [HF.out],X3,⟨jw HB3.out _⟩⟩
        ·have b3:(a2+1 == (l1.length:Int))=false:=by rw [beq_eq_false_iff_ne];omega
         have HF:=am (by rw [HE.out,dzF zl];rfl:jv.off l1 a2 x=false)
         clear zl HE
         go_big_quiet (fail)
         go_wp2
         go_meet
         case rel=>exact ⟨by rw [HF.out],X3,⟨jw HB3.out _⟩⟩
       ·have b1:(x.f0 != 0)=true:=by simpa using zx
        have HF:=am (by unfold jv.off;rw [if_pos z0];simp [zx]:jv.off l1 a2 x=true)
        clear zx z0
        go_big_quiet (fail)
        go_wp2
        go_meet
        case rel=>exact ⟨by rw [HF.out],X3,⟨jw HB3.out _⟩⟩
      ·have b0:(a2 == 0)=false:=beq_eq_false_iff_ne.2 z0
       have b0':decide (0<a2)=true:=dzT (by omega)
       have q0:0≤a2 - 1:=by omega
       have q1:a2 - 1<(l1.length:Int):=by omega
       obtain ⟨j,hj⟩:∃ j,a2 - 1=j:=⟨_,rfl⟩
       rw [hj] at q0 q1
       obtain ⟨ad',he,y0,y1,y2,y3⟩:=jta HR1.out j q0 q1
       cases he
       replace y0:=jwa HB3.out y0
       replace y1:=jwa HB3.out y1
       clear y2 y3
       replace q0:=ezT q0
       replace q1:=ezT q1
       have HD:=am (by unfold jv.off;rw [if_neg z0]:jv.off l1 a2 x=if (if (wrap64 ((jc l1 (a2 - 1)).f0+1))<x.f0 then true else (jv.inB (jc l1 (a2 - 1)).f1 7 12 != (x.f0 == wrap64 ((jc l1 (a2 - 1)).f0+1)))) then true else decide (a2+1=(l1.length:Int)) && jv.inB x.f1 7 12)
       clear z0
       rw [hj] at HD
       generalize jc l1 j=y at HD y0 y1
       generalize hz:wrap64 (y.f0+1)=z at HD
       have HZ:=am hz
       by_cases zt:z<x.f0
       ·have b4:decide (z<x.f0)=true:=dzT zt
        have HF:=am (by rw [HD.out];simp [zt]:jv.off l1 a2 x=true)
        clear zt HD
        go_big_quiet (fail)
        go_wp2
        go_meet
        case rel=>exact ⟨by rw [HF.out],X3,⟨jw HB3.out _⟩⟩
       ·have b4:decide (z<x.f0)=false:=dzF zt
        cases hy:jv.inB y.f1 7 12 with
        | true =>
         have HY:=am hy
         by_cases ze:x.f0=z
         ·have b5:(x.f0 == z)=true:=beq_iff_eq.2 ze
          have HE:=am (by rw [HD.out,hy,b5];simp [zt]:jv.off l1 a2 x=(decide (a2+1=(l1.length:Int)) && jv.inB x.f1 7 12))
          clear zt HD hy ze
          by_cases zl:a2+1=(l1.length:Int)
          ·have b3:(a2+1 == (l1.length:Int))=true:=by rw [beq_iff_eq];omega
           cases hx:jv.inB x.f1 7 12 with
           | true =>
            have HX:=am hx
            have HF:=am (by rw [HE.out,hx,dzT zl];rfl:jv.off l1 a2 x=true)
            clear zl hx HE
            go_big_quiet (first |(go_at_call 105;exact Calls.quiet_of (HO.out y.f1 _ HY.out _)) |(go_at_call 105;exact Calls.quiet_of (HO.out x.f1 _ HX.out _)))
            go_wp2
            go_meet
            case rel=>exact ⟨by rw [HF.out],X3,⟨jw HB3.out _⟩⟩
           | false =>
            have HX:=am hx
            have HF:=am (by rw [HE.out,hx];simp:jv.off l1 a2 x=false)
            clear zl hx HE
            go_big_quiet (first |(go_at_call 105;exact Calls.quiet_of (HO.out y.f1 _ HY.out _)) |(go_at_call 105;exact Calls.quiet_of (HO.out x.f1 _ HX.out _)))
            go_wp2
            go_meet
            case rel=>exact ⟨by rw [HF.out],X3,⟨jw HB3.out _⟩⟩
          ·have b3:(a2+1 == (l1.length:Int))=false:=by rw [beq_eq_false_iff_ne];omega
           have HF:=am (by rw [HE.out,dzF zl];rfl:jv.off l1 a2 x=false)
           clear zl HE
           go_big_quiet ((go_at_call 105;exact Calls.quiet_of (HO.out y.f1 _ HY.out _)))
           go_wp2
           go_meet
           case rel=>exact ⟨by rw [HF.out],X3,⟨jw HB3.out _⟩⟩
         ·have b5:(x.f0 == z)=false:=beq_eq_false_iff_ne.2 ze
          have HF:=am (by rw [HD.out,hy,b5];simp:jv.off l1 a2 x=true)
          clear zt HD hy ze
          go_big_quiet ((go_at_call 105;exact Calls.quiet_of (HO.out y.f1 _ HY.out _)))
          go_wp2
          go_meet
          case rel=>exact ⟨by rw [HF.out],X3,⟨jw HB3.out _⟩⟩
        | false =>
         have HY:=am hy
         by_cases ze:x.f0=z
         ·have b5:(x.f0 == z)=true:=beq_iff_eq.2 ze
          have HF:=am (by rw [HD.out,hy,b5];simp:jv.off l1 a2 x=true)
          clear zt HD hy ze
          go_big_quiet ((go_at_call 105;exact Calls.quiet_of (HO.out y.f1 _ HY.out _)))
          go_wp2
          go_meet
          case rel=>exact ⟨by rw [HF.out],X3,⟨jw HB3.out _⟩⟩
         ·have b5:(x.f0 == z)=false:=beq_eq_false_iff_ne.2 ze
          have HE:=am (by rw [HD.out,hy,b5];simp [zt]:jv.off l1 a2 x=(decide (a2+1=(l1.length:Int)) && jv.inB x.f1 7 12))
          clear zt HD hy ze
          by_cases zl:a2+1=(l1.length:Int)
          ·have b3:(a2+1 == (l1.length:Int))=true:=by rw [beq_iff_eq];omega
           cases hx:jv.inB x.f1 7 12 with
           | true =>
            have HX:=am hx
            have HF:=am (by rw [HE.out,hx,dzT zl];rfl:jv.off l1 a2 x=true)
            clear zl hx HE
            go_big_quiet (first |(go_at_call 105;exact Calls.quiet_of (HO.out y.f1 _ HY.out _)) |(go_at_call 105;exact Calls.quiet_of (HO.out x.f1 _ HX.out _)))
            go_wp2
            go_meet
            case rel=>exact ⟨by rw [HF.out],X3,⟨jw HB3.out _⟩⟩
           | false =>
            have HX:=am hx
            have HF:=am (by rw [HE.out,hx];simp:jv.off l1 a2 x=false)
            clear zl hx HE
            go_big_quiet (first |(go_at_call 105;exact Calls.quiet_of (HO.out y.f1 _ HY.out _)) |(go_at_call 105;exact Calls.quiet_of (HO.out x.f1 _ HX.out _)))
            go_wp2
            go_meet
            case rel=>exact ⟨by rw [HF.out],X3,⟨jw HB3.out _⟩⟩
          ·have b3:(a2+1 == (l1.length:Int))=false:=by rw [beq_eq_false_iff_ne];omega
           have HF:=am (by rw [HE.out,dzF zl];rfl:jv.off l1 a2 x=false)
           clear zl HE
           go_big_quiet ((go_at_call 105;exact Calls.quiet_of (HO.out y.f1 _ HY.out _)))
           go_wp2
           go_meet
           case rel=>exact ⟨by rw [HF.out],X3,⟨jw HB3.out _⟩⟩
     case rest =>
      obtain ⟨rfl,X4,HB4⟩:=hcut
      clear X1 HB1
      have h:=HH.out
      clear HH
      obtain ⟨e0,e1,e2,e3⟩:=VX.cells X4.out
      have tok:True:=trivial
      have HO:=am (fun (a:Int) (b:Bool) (hb:jv.inB a 8 10=b) W=>jCb.calls a b W (by rw [spec_follows_eq,hb]))
      cases ho:jv.off l1 a2 x with
      | true =>
       rw [ho,if_pos rfl] at h
       obtain rfl:false=r:=by simpa using h
       clear h ho
       go_wp2
       go_ret
       exact ⟨rfl,HB4.out⟩
      | false =>
       rw [ho] at h
       simp only [Bool.false_eq_true,if_false] at h
       clear ho
       obtain ⟨c,hc,h⟩:=bzS h
       by_cases z7:x.f1=7
       ·rw [if_pos z7] at hc
        have HC:=am (fun W (hb:Below w.heap.size w W)=>jG.calls k _ c1 l1 a2 c W (Kd.jba HR1.out hb) hc1 hc)
        have b7:(x.f1 == 7)=true:=beq_iff_eq.2 z7
        have b5:(x.f1 == 5)=false:=beq_eq_false_iff_ne.2 (by omega)
        have b6:(x.f1 == 6)=false:=beq_eq_false_iff_ne.2 (by omega)
        cases c with
        | false =>
         obtain rfl:false=r:=by simpa using h
         clear h hc z7
         go_wp2_with (first |(go_at_call 106;refine (HC.out _ HB4.out).mono ?_;rintro e w5 ⟨rfl,hb5⟩;have X5:=am (VX.below X4.out hb5);have HB5:=am (jha HB4.out HB4.out.size hb5);clear hb5 e0 e1 e2 e3;obtain ⟨e0,e1,e2,e3⟩:=VX.cells X5.out))
         go_ret
         exact ⟨rfl,HB5.out⟩
        | true =>
         have hx:jv.inB x.f1 8 10=false:=by unfold jv.inB;rw [z7];rfl
         have HX:=am hx
         obtain rfl:true=r:=by simpa [z7,show jv.inB 7 8 10=false from rfl] using h
         clear h hc z7 hx
         go_wp2_with (first |(go_at_call 106;refine (HC.out _ HB4.out).mono ?_;rintro e w5 ⟨rfl,hb5⟩;have X5:=am (VX.below X4.out hb5);have HB5:=am (jha HB4.out HB4.out.size hb5);clear hb5 e0 e1 e2 e3;obtain ⟨e0,e1,e2,e3⟩:=VX.cells X5.out) |(go_at_call 70;have tk:=tok;clear tok;refine (HO.out x.f1 _ HX.out _).mono ?_;rintro e w6 ⟨rfl,hd6⟩;have hb6:=hd6.below;clear hd6;have X6:=am (VX.below X5.out hb6);have HB6:=am (jha HB5.out HB5.out.size hb6);clear hb6 e0 e1 e2 e3;obtain ⟨e0,e1,e2,e3⟩:=VX.cells X6.out))
         go_ret
         exact ⟨rfl,HB6.out⟩
       ·rw [if_neg z7] at hc
        obtain rfl:true=c:=by simpa using hc
        clear hc
        have b7:(x.f1 == 7)=false:=beq_eq_false_iff_ne.2 z7
        simp only [Bool.true_eq_false,if_false] at h
        obtain ⟨c,hc,h⟩:=bzS h
        by_cases z56:x.f1=5∨x.f1=6
        ·rw [if_pos z56] at hc
         have HC:=am (fun W (hb:Below w.heap.size w W)=>jUa.calls k _ c1 l1 a2 c W (Kd.jba HR1.out hb) hc1 hc)
         have hx:jv.inB x.f1 8 10=false:=by rcases z56 with z | z <;> (unfold jv.inB;rw [z];rfl)
         have HX:=am hx
         cases c with
         | false =>
          obtain rfl:false=r:=by simpa using h
          clear h hc hx
          rcases z56 with z | z
          ·have b5:(x.f1 == 5)=true:=beq_iff_eq.2 z
           clear z z7
           go_wp2_with (first |(go_at_call 107;refine (HC.out _ HB4.out).mono ?_;rintro e w5 ⟨rfl,hd5⟩;have hb5:=hd5.below;clear hd5;have X5:=am (VX.below X4.out hb5);have HB5:=am (jha HB4.out HB4.out.size hb5);clear hb5 e0 e1 e2 e3;obtain ⟨e0,e1,e2,e3⟩:=VX.cells X5.out))
           go_ret
           exact ⟨rfl,HB5.out⟩
          ·have b5:(x.f1 == 5)=false:=beq_eq_false_iff_ne.2 (by omega)
           have b6:(x.f1 == 6)=true:=beq_iff_eq.2 z
           clear z z7
           go_wp2_with (first |(go_at_call 107;refine (HC.out _ HB4.out).mono ?_;rintro e w5 ⟨rfl,hd5⟩;have hb5:=hd5.below;clear hd5;have X5:=am (VX.below X4.out hb5);have HB5:=am (jha HB4.out HB4.out.size hb5);clear hb5 e0 e1 e2 e3;obtain ⟨e0,e1,e2,e3⟩:=VX.cells X5.out))
           go_ret
           exact ⟨rfl,HB5.out⟩
         | true =>
          obtain rfl:true=r:=by simpa [hx] using h
          clear h hc hx
          rcases z56 with z | z
          ·have b5:(x.f1 == 5)=true:=beq_iff_eq.2 z
           clear z z7
           go_wp2_with (first |(go_at_call 107;refine (HC.out _ HB4.out).mono ?_;rintro e w5 ⟨rfl,hd5⟩;have hb5:=hd5.below;clear hd5;have X5:=am (VX.below X4.out hb5);have HB5:=am (jha HB4.out HB4.out.size hb5);clear hb5 e0 e1 e2 e3;obtain ⟨e0,e1,e2,e3⟩:=VX.cells X5.out) |(go_at_call 70;have tk:=tok;clear tok;refine (HO.out x.f1 _ HX.out _).mono ?_;rintro e w6 ⟨rfl,hd6⟩;have hb6:=hd6.below;clear hd6;have X6:=am (VX.below X5.out hb6);have HB6:=am (jha HB5.out HB5.out.size hb6);clear hb6 e0 e1 e2 e3;obtain ⟨e0,e1,e2,e3⟩:=VX.cells X6.out))
           go_ret
           exact ⟨rfl,HB6.out⟩
          ·have b5:(x.f1 == 5)=false:=beq_eq_false_iff_ne.2 (by omega)
           have b6:(x.f1 == 6)=true:=beq_iff_eq.2 z
           clear z z7
           go_wp2_with (first |(go_at_call 107;refine (HC.out _ HB4.out).mono ?_;rintro e w5 ⟨rfl,hd5⟩;have hb5:=hd5.below;clear hd5;have X5:=am (VX.below X4.out hb5);have HB5:=am (jha HB4.out HB4.out.size hb5);clear hb5 e0 e1 e2 e3;obtain ⟨e0,e1,e2,e3⟩:=VX.cells X5.out) |(go_at_call 70;have tk:=tok;clear tok;refine (HO.out x.f1 _ HX.out _).mono ?_;rintro e w6 ⟨rfl,hd6⟩;have hb6:=hd6.below;clear hd6;have X6:=am (VX.below X5.out hb6);have HB6:=am (jha HB5.out HB5.out.size hb6);clear hb6 e0 e1 e2 e3;obtain ⟨e0,e1,e2,e3⟩:=VX.cells X6.out))
           go_ret
           exact ⟨rfl,HB6.out⟩
        ·rw [if_neg z56] at hc
         obtain rfl:true=c:=by simpa using hc
         clear hc
         have b5:(x.f1 == 5)=false:=beq_eq_false_iff_ne.2 (fun z=>z56 (.inl z))
         have b6:(x.f1 == 6)=false:=beq_eq_false_iff_ne.2 (fun z=>z56 (.inr z))
         simp only [Bool.true_eq_false,if_false] at h
         clear z7 z56
         cases hx:jv.inB x.f1 8 10 with
         | false =>
          have HX:=am hx
          rw [hx,if_pos rfl] at h
          obtain rfl:true=r:=by simpa using h
          clear h hx
          go_wp2_with (first |(go_at_call 70;have tk:=tok;clear tok;refine (HO.out x.f1 _ HX.out _).mono ?_;rintro e w6 ⟨rfl,hd6⟩;have hb6:=hd6.below;clear hd6;have X6:=am (VX.below X4.out hb6);have HB6:=am (jha HB4.out HB4.out.size hb6);clear hb6 e0 e1 e2 e3;obtain ⟨e0,e1,e2,e3⟩:=VX.cells X6.out))
          go_ret
          exact ⟨rfl,HB6.out⟩
         | true =>
          have HX:=am hx
          rw [hx] at h
          simp only [Bool.true_eq_false,if_false] at h
          clear hx
          obtain ⟨q,hq,h⟩:=bzS h
          have HQ:=am (fun W (hb:Below w.heap.size w W)=>jVa.calls k _ c1 l1 a2 q W (Kd.jba HR1.out hb) hc1 hq)
          clear hq
          by_cases q0:0≤q
          ·rw [if_pos q0] at h
           have q0b:=dzT q0
           by_cases q1:q<(l1.length:Int)
           ·rw [if_pos q1] at h
            obtain ⟨ad',he,y0,y1,y2,y3⟩:=jta HR1.out q q0 q1
            cases he
            generalize jc l1 q=y at h y0 y1
            have HK:=am y1
            clear y0 y1 y2 y3
            have q0:=ezT q0
            have q1:=ezT q1
            by_cases zy:y.f1=7
            ·have by7:(y.f1 == 7)=true:=beq_iff_eq.2 zy
             obtain rfl:true=r:=by simpa [zy] using h
             clear h zy
             go_wp2_with (first |(go_at_call 70;have tk:=tok;clear tok;refine (HO.out x.f1 _ HX.out _).mono ?_;rintro e w6 ⟨rfl,hd6⟩;have hb6:=hd6.below;clear hd6;have X6:=am (VX.below X4.out hb6);have HB6:=am (jha HB4.out HB4.out.size hb6);clear hb6 e0 e1 e2 e3;obtain ⟨e0,e1,e2,e3⟩:=VX.cells X6.out) |(go_at_call 99;refine (HQ.out _ HB6.out).mono ?_;rintro e w7 ⟨rfl,hd7⟩;have hb7:=hd7.below;clear hd7;have X7:=am (VX.below X6.out hb7);have HB7:=am (jha HB6.out HB6.out.size hb7);clear hb7 e0 e1 e2 e3;obtain ⟨e0,e1,e2,e3⟩:=VX.cells X7.out;have y1:=jwa HB7.out HK.out))
             go_ret
             exact ⟨rfl,HB7.out⟩
            ·have by7:(y.f1 == 7)=false:=beq_eq_false_iff_ne.2 zy
             cases hy:jv.inB y.f1 8 10 with
             | true =>
              have HY:=am hy
              obtain rfl:true=r:=by rw [hy,by7] at h;simpa using h
              clear h hy zy
              go_wp2_with (first |(go_at_call 70;have tk:=tok;clear tok;refine (HO.out x.f1 _ HX.out _).mono ?_;rintro e w6 ⟨rfl,hd6⟩;have hb6:=hd6.below;clear hd6;have X6:=am (VX.below X4.out hb6);have HB6:=am (jha HB4.out HB4.out.size hb6);clear hb6 e0 e1 e2 e3;obtain ⟨e0,e1,e2,e3⟩:=VX.cells X6.out) |(go_at_call 99;refine (HQ.out _ HB6.out).mono ?_;rintro e w7 ⟨rfl,hd7⟩;have hb7:=hd7.below;clear hd7;have X7:=am (VX.below X6.out hb7);have HB7:=am (jha HB6.out HB6.out.size hb7);clear hb7 e0 e1 e2 e3;obtain ⟨e0,e1,e2,e3⟩:=VX.cells X7.out;have y1:=jwa HB7.out HK.out) |(go_at_call 70;refine (HO.out y.f1 _ HY.out _).mono ?_;rintro e w8 ⟨rfl,hd8⟩;have hb8:=hd8.below;clear hd8;have X8:=am (VX.below X7.out hb8);have HB8:=am (jha HB7.out HB7.out.size hb8);clear hb8 e0 e1 e2 e3;obtain ⟨e0,e1,e2,e3⟩:=VX.cells X8.out))
              go_ret
              exact ⟨rfl,HB8.out⟩
             | false =>
              have HY:=am hy
              obtain rfl:false=r:=by rw [hy,by7] at h;simpa using h
              clear h hy zy
              go_wp2_with (first |(go_at_call 70;have tk:=tok;clear tok;refine (HO.out x.f1 _ HX.out _).mono ?_;rintro e w6 ⟨rfl,hd6⟩;have hb6:=hd6.below;clear hd6;have X6:=am (VX.below X4.out hb6);have HB6:=am (jha HB4.out HB4.out.size hb6);clear hb6 e0 e1 e2 e3;obtain ⟨e0,e1,e2,e3⟩:=VX.cells X6.out) |(go_at_call 99;refine (HQ.out _ HB6.out).mono ?_;rintro e w7 ⟨rfl,hd7⟩;have hb7:=hd7.below;clear hd7;have X7:=am (VX.below X6.out hb7);have HB7:=am (jha HB6.out HB6.out.size hb7);clear hb7 e0 e1 e2 e3;obtain ⟨e0,e1,e2,e3⟩:=VX.cells X7.out;have y1:=jwa HB7.out HK.out) |(go_at_call 70;refine (HO.out y.f1 _ HY.out _).mono ?_;rintro e w8 ⟨rfl,hd8⟩;have hb8:=hd8.below;clear hd8;have X8:=am (VX.below X7.out hb8);have HB8:=am (jha HB7.out HB7.out.size hb8);clear hb8 e0 e1 e2 e3;obtain ⟨e0,e1,e2,e3⟩:=VX.cells X8.out))
              go_ret
              exact ⟨rfl,HB8.out⟩
           ·rw [if_neg q1] at h
            cases h
          ·rw [if_neg q0] at h
           have q0b:=dzF q0
           obtain rfl:false=r:=by simpa using h
           clear h q0
           go_wp2_with (first |(go_at_call 70;have tk:=tok;clear tok;refine (HO.out x.f1 _ HX.out _).mono ?_;rintro e w6 ⟨rfl,hd6⟩;have hb6:=hd6.below;clear hd6;have X6:=am (VX.below X4.out hb6);have HB6:=am (jha HB4.out HB4.out.size hb6);clear hb6 e0 e1 e2 e3;obtain ⟨e0,e1,e2,e3⟩:=VX.cells X6.out) |(go_at_call 99;refine (HQ.out _ HB6.out).mono ?_;rintro e w7 ⟨rfl,hd7⟩;have hb7:=hd7.below;clear hd7;have X7:=am (VX.below X6.out hb7);have HB7:=am (jha HB6.out HB6.out.size hb7);clear hb7 e0 e1 e2 e3;obtain ⟨e0,e1,e2,e3⟩:=VX.cells X7.out))
           go_ret
           exact ⟨rfl,HB7.out⟩
  ·rw [if_neg h1] at h
   cases h
 ·rw [if_neg h0] at h
  cases h
def jNa.l0 : Nat → ByteArray → Int → Option (Bool)
 | 0,_,_=>none
 | k+1,x0,x3=>if x3<(x0.size:Int) then (if 0≤x3 then (if (bt x0 x3)<97 then (some false) else (if (bt x0 x3) > 122 then (some false) else (jNa.l0 k x0 (wrap64 (x3+1))))) else (none)) else ((jH.f (x0.size:Int) 1 6).bind fun t606=>(some t606))
def jNa.f (k : Nat) (a0 : ByteArray) : Option (Bool) := jNa.l0 k a0 0
set_option maxHeartbeats 8000000 in
set_option maxRecDepth 100000 in
theorem jNa.calls (k : Nat) (a0 : ByteArray) (r : Bool) (w : World) (h : jNa.f k a0 = some r) :
  Calls Try.prog 108 #[.string a0] w fun e w'=>e=.returned (.bool r)∧jjb w w':=by
 have H:(jNa.l0 k a0 0)=some r:=h
 clear h
 have H':=am H
 clear H
 go_enter Try.func108,Try.ntmps108
 go_wp2
 go_loopg [3] k (fun kq v3 w'=>∃ (x3_1:Int),v3=.int .i64 x3_1∧jq (jNa.l0 kq a0 x3_1=some r)∧jq (kq≤k)∧jjb w w')
 case atStart=>exact ⟨(0),(sq),H',⟨Nat.le_refl _⟩,Y5⟩
 case round =>
  clear H'
  try clear c1
  obtain ⟨x3_1,rfl,HA,HK1,⟨m1,rfl⟩⟩:=hrel
  cases gk with
  | zero=>exact absurd HA.out (by simp [jNa.l0])
  | succ k1 =>
   have H:=HA.out
   clear HA
   simp only [jNa.l0] at H
   by_cases c2:x3_1<(a0.size:Int)
   ·rw [if_pos c2] at H
    have c2b0:decide (x3_1<(a0.size:Int))=true:=dzT c2
    clear c2
    by_cases c3:0≤x3_1
    ·rw [if_pos c3] at H
     have c3b0:decide (0≤x3_1)=true:=dzT c3
     clear c3
     by_cases c5:(bt a0 x3_1)<97
     ·rw [if_pos c5] at H
      have c5b0:decide ((bt a0 x3_1)<97)=true:=dzT c5
      clear c5
      obtain rfl:=Option.some.inj H
      have p4:0≤(x3_1:Int):=ozD (uq)
      have q4:x3_1<(a0.size:Int):=ozD (uq)
      have hx4:=bt_at a0 x3_1
      replace p4:=ezT p4
      replace q4:=ezT q4
      go_wp2
      go_ret
      exact ⟨sq,Y5⟩
     ·rw [if_neg c5] at H
      have c5b0:decide ((bt a0 x3_1)<97)=false:=dzF c5
      clear c5
      by_cases c7:(bt a0 x3_1) > 122
      ·rw [if_pos c7] at H
       have c7b0:decide (122<(bt a0 x3_1))=true:=dzT c7
       clear c7
       obtain rfl:=Option.some.inj H
       have p4:0≤(x3_1:Int):=ozD (uq)
       have q4:x3_1<(a0.size:Int):=ozD (uq)
       have hx4:=bt_at a0 x3_1
       replace p4:=ezT p4
       replace q4:=ezT q4
       have p6:0≤(x3_1:Int):=ozD (uq)
       have q6:x3_1<(a0.size:Int):=ozD (uq)
       have hx6:=bt_at a0 x3_1
       replace p6:=ezT p6
       replace q6:=ezT q6
       go_wp2
       go_ret
       exact ⟨sq,Y5⟩
      ·rw [if_neg c7] at H
       have c7b0:decide (122<(bt a0 x3_1))=false:=dzF c7
       clear c7
       have H':=am H
       clear H
       have p4:0≤(x3_1:Int):=ozD (uq)
       have q4:x3_1<(a0.size:Int):=ozD (uq)
       have hx4:=bt_at a0 x3_1
       replace p4:=ezT p4
       replace q4:=ezT q4
       have p6:0≤(x3_1:Int):=ozD (uq)
       have q6:x3_1<(a0.size:Int):=ozD (uq)
       have hx6:=bt_at a0 x3_1
       replace p6:=ezT p6
       replace q6:=ezT q6
       go_wp2
       go_roundg k1
       case measure=>have:=HK1.out;omega
       case rel=>exact ⟨(wrap64 (x3_1+1)),(sq),H',⟨by have:=HK1.out;omega⟩,Y5⟩
    ·rw [if_neg c3] at H
     exact absurd H (by simp)
   ·rw [if_neg c2] at H
    have c2b0:decide (x3_1<(a0.size:Int))=false:=dzF c2
    clear c2
    replace H:=bzS H
    obtain ⟨t606,A80,H⟩:=H
    replace H:(some t606)=some r:=H
    have A8:=am A80
    clear A80
    obtain rfl:=Option.some.inj H
    go_wp2_with (first |((with_reducible refine jd (f:=92) rfl ?_);refine gL (some 22) Try.func92 #[.int .i64 (a0.size:Int), .int .i64 1, .int .i64 6] ?_;(with_reducible refine (jH.calls (a0.size:Int) 1 6 t606 _ A8.out).mono ?_);rintro e w' ⟨rfl,⟨nd,rfl⟩⟩;refine ⟨_,rfl,?_⟩))
    go_ret
    exact ⟨sq,Y5⟩
def jHa.l0 : Nat → List (S87) → ByteArray → Int → Option (Int)
 | 0,_,_,_=>none
 | k+1,x0,x1,x5=>if x5<(x0.length:Int) then (if 0≤x5 then (if ((jda x0 x5).f0).toList=x1.toList then (some x5) else (jHa.l0 k x0 x1 (wrap64 (x5+1)))) else (none)) else (some (-1))
def jHa.f (k : Nat) (l0 : List (S87)) (a1 : ByteArray) : Option (Int) := jHa.l0 k l0 a1 0
set_option maxHeartbeats 8000000 in
set_option maxRecDepth 100000 in
theorem jHa.calls (k : Nat) (A0 : Option Addr) (c0 : Nat) (l0 : List (S87)) (a1 : ByteArray) (r : Int) (w : World) (hr0 : Kd.C k87 w A0 l0.length l0) (hc0 : l0.length ≤ c0) (h : jHa.f k l0 a1 = some r) :
  Calls Try.prog 109 #[.slice A0 l0.length c0, .string a1] w fun e w'=>e=.returned (.int .i64 r)∧jjb w w':=by
 have HR0:=am hr0
 have HC0:=am hc0
 clear hr0 hc0
 have H:(jHa.l0 k l0 a1 0)=some r:=h
 clear h
 have H':=am H
 clear H
 go_enter Try.func109,Try.ntmps109
 go_wp2
 go_loopg [5] k (fun kq v5 w'=>∃ (x5_1:Int),v5=.int .i64 x5_1∧jq (jHa.l0 kq l0 a1 x5_1=some r)∧jq (kq≤k)∧jjb w w')
 case atStart=>exact ⟨(0),(sq),H',⟨Nat.le_refl _⟩,Y5⟩
 case round =>
  clear H'
  try clear c1
  try clear p2
  obtain ⟨x5_1,rfl,HA,HK1,⟨m1,rfl⟩⟩:=hrel
  cases gk with
  | zero=>exact absurd HA.out (by simp [jHa.l0])
  | succ k1 =>
   have H:=HA.out
   clear HA
   simp only [jHa.l0] at H
   by_cases c3:x5_1<(l0.length:Int)
   ·rw [if_pos c3] at H
    have c3b0:decide (x5_1<(l0.length:Int))=true:=dzT c3
    clear c3
    by_cases c4:0≤x5_1
    ·rw [if_pos c4] at H
     have c4b0:decide (0≤x5_1)=true:=dzT c4
     clear c4
     by_cases c5:((jda l0 x5_1).f0).toList=a1.toList
     ·rw [if_pos c5] at H
      have c5b0:(((jda l0 x5_1).f0).toList == a1.toList)=true:=beq_iff_eq.mpr c5
      have c5b1:(((jda l0 x5_1).f0).toList != a1.toList)=false:=bne_eq_false_iff_eq.mpr c5
      clear c5
      obtain rfl:=Option.some.inj H
      have p607:0≤(x5_1:Int):=ozD (uq)
      have q607:x5_1<(l0.length:Int):=ozD (uq)
      obtain ⟨ad607,e607,hx607_0,hx607_1⟩:=at_T87 HR0.out x5_1 p607 q607
      cases e607
      replace p607:=ezT p607
      replace q607:=ezT q607
      go_wp2
      go_ret
      exact ⟨sq,Y5⟩
     ·rw [if_neg c5] at H
      have c5b0:(((jda l0 x5_1).f0).toList == a1.toList)=false:=beq_eq_false_iff_ne.mpr c5
      have c5b1:(((jda l0 x5_1).f0).toList != a1.toList)=true:=bne_iff_ne.mpr c5
      have H':=am H
      clear H
      have p607:0≤(x5_1:Int):=ozD (uq)
      have q607:x5_1<(l0.length:Int):=ozD (uq)
      obtain ⟨ad607,e607,hx607_0,hx607_1⟩:=at_T87 HR0.out x5_1 p607 q607
      cases e607
      replace p607:=ezT p607
      replace q607:=ezT q607
      go_wp2
      go_roundg k1
      case measure=>have:=HK1.out;omega
      case rel=>exact ⟨(wrap64 (x5_1+1)),(sq),H',⟨by have:=HK1.out;omega⟩,Y5⟩
    ·rw [if_neg c4] at H
     exact absurd H (by simp)
   ·rw [if_neg c3] at H
    have c3b0:decide (x5_1<(l0.length:Int))=false:=dzF c3
    clear c3
    obtain rfl:=Option.some.inj H
    go_wp2
    go_ret
    exact ⟨sq,Y5⟩
mutual
def jO.l0 : Nat → Int → List (S87) → Option (Bool)
 | 0,_,_=>none
 | k+1,x3,x155000=>if x3<(x155000.length:Int) then (if 0≤x3 then ((jNa.f k ((jda x155000 x3).f0)).bind fun t158=>(if t158=true then (if x3≤(x155000.length:Int) then ((jHa.f k (x155000.take (x3:Int).toNat) ((jda x155000 x3).f0)).bind fun t163=>(if t163≥0 then (jO.j1 k x3 true x155000) else (if x3=0 then (if ((jda x155000 x3).f1)=(-1) then (if x3 > 0 then ((jH.f ((jda x155000 x3).f1) 0 (wrap64 (x3 - 1))).bind fun t164=>(jO.j1 k x3 (!t164) x155000)) else (jO.j1 k x3 false x155000)) else (jO.j1 k x3 true x155000)) else (if x3 > 0 then ((jH.f ((jda x155000 x3).f1) 0 (wrap64 (x3 - 1))).bind fun t165=>(jO.j1 k x3 (!t165) x155000)) else (jO.j1 k x3 false x155000))))) else (none)) else (jO.j1 k x3 true x155000))) else (none)) else ((jH.f (x155000.length:Int) 1 8).bind fun t155=>(some t155))
def jO.j1 : Nat → Int → Bool → List (S87) → Option (Bool)
 | 0,_,_,_=>none
 | k+1,x3,x51,x155000=>if x51=true then (some false) else (jO.l0 k (wrap64 (x3+1)) x155000)
end
def jO.f (k : Nat) (l0_0 : List (S87)) : Option (Bool) := jO.l0 k 0 l0_0
set_option maxHeartbeats 8000000 in
set_option maxRecDepth 100000 in
theorem jO.calls (k : Nat) (A0_0 : Option Addr) (c0_0 : Nat) (l0_0 : List (S87)) (r : Bool) (w : World) (hr0_0 : Kd.C k87 w A0_0 l0_0.length l0_0) (hc0_0 : l0_0.length ≤ c0_0) (h : jO.f k l0_0 = some r) :
  Calls Try.prog 86 #[.agg #[.slice A0_0 l0_0.length c0_0]] w fun e w'=>e=.returned (.bool r)∧Below w.heap.size w w':=by
 have hu32:=Try.underlying32
 have hu87:=Try.underlying87
 have HR0_0:=am hr0_0
 have HC0_0:=am hc0_0
 clear hr0_0 hc0_0
 have HB:=am (Below.refl w.heap.size w)
 have H:(jO.l0 k 0 l0_0)=some r:=h
 clear h
 have H':=am H
 clear H
 go_enter Try.func86,Try.ntmps86
 go_wp2_with (first |((with_reducible refine jM (N:=1) rfl ?_);refine bE (N:=1) (cs:=#[.slice A0_0 l0_0.length c0_0]) (t:=32) ?_;intro gb154 hg w2 hbox hb;have BK154:=am (hbox);have GW154:=am ((Y10:w.heap.size≤gb154));have GE154:=am ((Y10:w.heap.size≤gb154));replace HB:=am (je (bq) hb);clear hb hbox hg))
 go_loopg [3] k (fun kq v3 w'=>∃ (x3_1:Int),v3=.int .i64 x3_1∧jq (jO.l0 kq x3_1 l0_0=some r)∧jq (kq≤k)∧jq (w'.heap[gb154]?=some (.cells #[(.slice A0_0 l0_0.length c0_0)] 32 (0,0)))∧jq (Below w.heap.size w w'))
 case atStart=>exact ⟨(0),(sq),H',⟨Nat.le_refl _⟩,⟨kq BK154.out⟩,⟨Y98⟩⟩
 case round =>
  clear H'
  try clear c1
  try clear p2
  obtain ⟨x3_1,rfl,HA,HK1,BK154,HB⟩:=hrel
  cases gk with
  | zero=>exact absurd HA.out (by simp [jO.l0])
  | succ k1 =>
   have H:=HA.out
   clear HA
   simp only [jO.l0] at H
   by_cases c3:x3_1<(l0_0.length:Int)
   ·rw [if_pos c3] at H
    have c3b0:decide (x3_1<(l0_0.length:Int))=true:=dzT c3
    clear c3
    by_cases c4:0≤x3_1
    ·rw [if_pos c4] at H
     have c4b0:decide (0≤x3_1)=true:=dzT c4
     clear c4
     have HC5:=am H
     clear H
     have hcz6_0:=bc0 BK154.out
     have hfz6_0:=ja BK154.out 0
     have p156:0≤(x3_1:Int):=ozD (uq)
     have q156:x3_1<(l0_0.length:Int):=ozD (uq)
     obtain ⟨ad156,e156,hx156_0,hx156_1⟩:=at_T87 HR0_0.out x3_1 p156 q156
     cases e156
     replace hx156_0:=cb HB.out hx156_0
     replace hx156_1:=cb HB.out hx156_1
     replace p156:=ezT p156
     replace q156:=ezT q156
     go_upto_region 5 with (first |((with_reducible refine jM (N:=4) rfl ?_);refine bE (N:=4) (cs:=#[.string (⟨#[]⟩:ByteArray), .int .i64 0]) (t:=87) ?_;intro gb157 hg w7 hbox hb;have BK157:=am (hbox);have GW157:=am ((Y121:w.heap.size≤gb157));have GE157:=am ((Y121:w.heap.size≤gb157));have NB154_157:=am ((by rw [hg];exact Nat.ne_of_lt (jDb (g:=gb154) (o:=.cells #[.slice (some ad156) l0_0.length c0_0] 32 (0,0)) (kq BK154.out)):gb154≠gb157));have NB157_154:=am ((by rw [hg];exact Nat.ne_of_gt (jDb (g:=gb154) (o:=.cells #[.slice (some ad156) l0_0.length c0_0] 32 (0,0)) (kq BK154.out)):gb157≠gb154));replace BK154:=am (jm (g:=gb154) (o:=.cells #[.slice (some ad156) l0_0.length c0_0] 32 (0,0)) (kq BK154.out) hb);replace HB:=am (je (Y98) hb);clear hb hbox hg;have hnb8:=NB157_154.out;have hnc8:=NB154_157.out;have hcz9_0:=bc0 BK157.out;have hcz9_1:=bc1 BK157.out;have hfz9_0:=ja BK157.out 0;have hfz9_1:=ja BK157.out 1))
     (try simp only [Act.put,List.setIfInBounds_toArray,List.set_cons_zero,List.set_cons_succ])
     go_cut [51] (fun v51 wc=>∃ (kq:Nat) (x51_4:Bool),v51=.bool x51_4∧jq (jO.j1 kq x3_1 x51_4 l0_0=some r)∧jq (kq≤k1)∧jq (wc.heap[gb154]?=some (.cells #[(.slice (some ad156) l0_0.length c0_0)] 32 (0,0)))∧jq (wc.heap[gb157]?=some (.cells #[.string ((jda l0_0 x3_1).f0), .int .i64 ((jda l0_0 x3_1).f1)] 87 (0,0)))∧jq (Below w.heap.size w wc))
     case first =>
      have n0_:jq (((w7.setCell ⟨gb157,0,none⟩ (.string ((jda l0_0 x3_1).f0))).setCell ⟨gb157,1,none⟩ (.int .i64 ((jda l0_0 x3_1).f1))).heap[gb154]?=some (.cells #[.slice (some ad156) l0_0.length c0_0] 32 (0,0))):=⟨by (with_reducible repeat (first | refine jy ?_ _ | refine jD ?_ | refine jB ?_ _));refine jlb ?_ NB154_157.out _;(with_reducible repeat (first | refine jy ?_ _ | refine jD ?_ | refine jB ?_ _));refine jlb ?_ NB154_157.out _;(with_reducible repeat (first | refine jy ?_ _ | refine jD ?_ | refine jB ?_ _));exact BK154.out⟩
      have n1_:jq (((w7.setCell ⟨gb157,0,none⟩ (.string ((jda l0_0 x3_1).f0))).setCell ⟨gb157,1,none⟩ (.int .i64 ((jda l0_0 x3_1).f1))).heap[gb157]?=some (.cells #[.string ((jda l0_0 x3_1).f0), .int .i64 ((jda l0_0 x3_1).f1)] 87 (0,0))):=⟨by (with_reducible repeat (first | refine jy ?_ _ | refine jD ?_ | refine jB ?_ _));refine jZa (cs:=#[.string ((jda l0_0 x3_1).f0), .int .i64 0]) ?_ 1 _ rfl;(with_reducible repeat (first | refine jy ?_ _ | refine jD ?_ | refine jB ?_ _));refine jZa (cs:=#[.string (⟨#[]⟩:ByteArray), .int .i64 0]) ?_ 0 _ rfl;(with_reducible repeat (first | refine jy ?_ _ | refine jD ?_ | refine jB ?_ _));exact BK157.out⟩
      have n2_:jq (Below w.heap.size w ((w7.setCell ⟨gb157,0,none⟩ (.string ((jda l0_0 x3_1).f0))).setCell ⟨gb157,1,none⟩ (.int .i64 ((jda l0_0 x3_1).f1)))):=⟨Y99⟩
      clear BK154 BK157 HB hcz9_0 hcz9_1 hfz9_0 hfz9_1
      generalize ((w7.setCell ⟨gb157,0,none⟩ (.string ((jda l0_0 x3_1).f0))).setCell ⟨gb157,1,none⟩ (.int .i64 ((jda l0_0 x3_1).f1)))=w16 at n0_ n1_ n2_ ⊢
      have BK154:=n0_
      have BK157:=n1_
      have HB:=n2_
      clear n0_ n1_ n2_
      have HRW:=am (Kd.jba HR0_0.out HB.out)
      have e0:w16.cell? ⟨gb157,0,none⟩=some (.string ((jda l0_0 x3_1).f0)):=(jK BK157.out 0).trans rfl
      have e1:w16.cell? ⟨gb157,1,none⟩=some (.int .i64 ((jda l0_0 x3_1).f1)):=(jK BK157.out 1).trans rfl
      have e2:w16.cell? ⟨gb154,0,none⟩=some (.slice (some ad156) l0_0.length c0_0):=(jK BK154.out 0).trans rfl
      have H:=HC5.out
      clear HC5
      obtain ⟨v,hv,H⟩:=bzS H
      have HN:=am (fun W=>(jNa.calls k1 _ v W hv).mono fun e w' h=>(⟨h.1,h.2.out⟩:e=.returned (.bool v)∧∃ m,w'=W.drewN m))
      clear hv hx156_0 hx156_1
      generalize hgx:jda l0_0 x3_1=x at H e0 e1 HN BK157
      have HGX:=am hgx
      clear hgx
      cases v with
      | false =>
       have H':=am (show jO.j1 k1 x3_1 true l0_0=some r from H)
       clear H
       go_big_quiet ((go_at_call 108;exact Calls.quiet_of (HN.out _)))
       go_wp2
       go_meet
       case rel=>exact ⟨_,_,rfl,H',⟨by have:=HK1.out;omega⟩,⟨jy BK154.out _⟩,⟨by rw [HGX.out];exact jy BK157.out _⟩,⟨jw HB.out _⟩⟩
      | true =>
       replace H:(if x3_1≤(l0_0.length:Int) then ((jHa.f k1 (l0_0.take (x3_1:Int).toNat) x.f0).bind fun t163=>(if t163≥0 then (jO.j1 k1 x3_1 true l0_0) else (if x3_1=0 then (if x.f1=(-1) then (if x3_1 > 0 then ((jH.f x.f1 0 (wrap64 (x3_1 - 1))).bind fun t164=>(jO.j1 k1 x3_1 (!t164) l0_0)) else (jO.j1 k1 x3_1 false l0_0)) else (jO.j1 k1 x3_1 true l0_0)) else (if x3_1 > 0 then ((jH.f x.f1 0 (wrap64 (x3_1 - 1))).bind fun t165=>(jO.j1 k1 x3_1 (!t165) l0_0)) else (jO.j1 k1 x3_1 false l0_0))))) else (none))=some r:=H
       have hle:x3_1≤(l0_0.length:Int):=by have:=ozD c3b0;omega
       have h0:0≤x3_1:=ozD c4b0
       rw [if_pos hle] at H
       obtain ⟨c,hc,H⟩:=bzS H
       obtain ⟨i0,hi0,_,_,_⟩:=info_parts info87
       have hcut:=cut_to (P:=Try.prog) 30 87 .i64 Try.underlying30 hi0 (some ad156) l0_0.length c0_0 x3_1 h0 hle HC0_0.out
       have hr18:=Kd.C_take (m:=(x3_1:Int).toNat) HRW.out (by omega)
       obtain ⟨y,hy⟩:∃ y:List S87,y=l0_0.take (x3_1:Int).toNat:=⟨_,rfl⟩
       have hyl:y.length=(x3_1:Int).toNat:=by rw [hy,List.length_take];omega
       have hyc:y.length≤c0_0:=by have:=HC0_0.out;omega
       rw [← hy] at hr18
       rw [← hyl] at hcut
       rw [← hy] at hc
       have HCN:=am (fun m=>(jHa.calls k1 _ _ y x.f0 c (w16.drewN m) (Kd.jic hr18 m) hyc hc).mono fun e w' h=>(⟨h.1,h.2.out⟩:e=.returned (.int .i64 c)∧∃ m',w'=(w16.drewN m).drewN m'))
       clear hr18 hc hy hyl hyc
       have b0:=ezT h0
       have b1:=ezT hle
       by_cases hc0:c≥0
       ·rw [if_pos hc0] at H
        have b2:decide (0≤c)=true:=dzT hc0
        have H':=am H
        clear H hc0 h0 hle
        go_big_quiet (first |(go_at_call 108;exact Calls.quiet_of (HN.out _)) |(go_at_call 109;exact Calls.quiet_of (HCN.out _)))
        go_wp2
        go_meet
        case rel=>exact ⟨_,_,rfl,H',⟨by have:=HK1.out;omega⟩,⟨jy BK154.out _⟩,⟨by rw [HGX.out];exact jy BK157.out _⟩,⟨jw HB.out _⟩⟩
       ·rw [if_neg hc0] at H
        have b2:decide (0≤c)=false:=dzF hc0
        clear hc0
        by_cases hz:x3_1=0
        ·rw [if_pos hz] at H
         have b3:(x3_1 == 0)=true:=beq_iff_eq.2 hz
         have b4:decide (0<x3_1)=false:=dzF (by omega)
         by_cases hf:x.f1 = -1
         ·rw [if_pos hf,if_neg (by omega)] at H
          have b5:(x.f1 != -1)=false:=by simpa using hf
          have H':=am H
          clear H hf h0 hle hz
          go_big_quiet (first |(go_at_call 108;exact Calls.quiet_of (HN.out _)) |(go_at_call 109;exact Calls.quiet_of (HCN.out _)))
          go_wp2
          go_meet
          case rel=>exact ⟨_,_,rfl,H',⟨by have:=HK1.out;omega⟩,⟨jy BK154.out _⟩,⟨by rw [HGX.out];exact jy BK157.out _⟩,⟨jw HB.out _⟩⟩
         ·rw [if_neg hf] at H
          have b5:(x.f1 != -1)=true:=by simpa using hf
          have H':=am H
          clear H hf h0 hle hz
          go_big_quiet (first |(go_at_call 108;exact Calls.quiet_of (HN.out _)) |(go_at_call 109;exact Calls.quiet_of (HCN.out _)))
          go_wp2
          go_meet
          case rel=>exact ⟨_,_,rfl,H',⟨by have:=HK1.out;omega⟩,⟨jy BK154.out _⟩,⟨by rw [HGX.out];exact jy BK157.out _⟩,⟨jw HB.out _⟩⟩
        ·rw [if_neg hz,if_pos (by omega)] at H
         have b3:(x3_1 == 0)=false:=beq_eq_false_iff_ne.2 hz
         have b4:decide (0<x3_1)=true:=dzT (by omega)
         obtain ⟨t,ht,H⟩:=bzS H
         have H':=am H
         have HI:=am (fun W=>(jH.calls _ _ _ t W ht).mono fun e w' h=>(⟨h.1,h.2.out⟩:e=.returned (.bool t)∧∃ m,w'=W.drewN m))
         clear H ht h0 hle hz
         go_big_quiet (first |(go_at_call 108;exact Calls.quiet_of (HN.out _)) |(go_at_call 109;exact Calls.quiet_of (HCN.out _)) |(go_at_call 92;exact Calls.quiet_of (HI.out _)))
         go_wp2
         go_meet
         case rel=>exact ⟨_,_,rfl,H',⟨by have:=HK1.out;omega⟩,⟨jy BK154.out _⟩,⟨by rw [HGX.out];exact jy BK157.out _⟩,⟨jw HB.out _⟩⟩
     case rest =>
      clear HC5
      try clear c1
      try clear c2
      try clear p2
      try clear c3
      try clear q3
      try clear p6
      try clear c11
      try clear c12
      try clear c13
      try clear c21
      try clear c32
      try clear c32b0
      try clear q39
      try clear q39
      obtain ⟨kq,x51_4,rfl,HA,HJ4,BK154,BK157,HB⟩:=hcut
      cases kq with
      | zero=>exact absurd HA.out (by simp [jO.j1])
      | succ kj4 =>
       have H:=HA.out
       clear HA
       simp only [jO.j1] at H
       by_cases c42:x51_4=true
       ·subst c42
        have H1:(some false)=some r:=by rw [if_pos rfl] at H;exact H
        clear H
        have H:=H1
        clear H1
        obtain rfl:=Option.some.inj H
        go_wp2
        go_ret
        exact ⟨Y0,Y99⟩
       ·replace c42:=Bool.eq_false_iff.mpr c42
        subst c42
        have H1:(jO.l0 kj4 (wrap64 (x3_1+1)) l0_0)=some r:=by rw [if_neg (show ¬ (false=true) by decide)] at H;exact H
        clear H
        have H:=H1
        clear H1
        have H':=am H
        clear H
        go_wp2
        go_roundg kj4
        case measure=>have:=HK1.out;have:=HJ4.out;omega
        case rel=>exact ⟨(wrap64 (x3_1+1)),(sq),H',⟨by have:=HK1.out;have:=HJ4.out;omega⟩,⟨kq BK154.out⟩,⟨Y99⟩⟩
    ·rw [if_neg c4] at H
     exact absurd H (by simp)
   ·rw [if_neg c3] at H
    have c3b0:decide (x3_1<(l0_0.length:Int))=false:=dzF c3
    clear c3
    replace H:=bzS H
    obtain ⟨t155,A430,H⟩:=H
    replace H:(some t155)=some r:=H
    have A43:=am A430
    clear A430
    obtain rfl:=Option.some.inj H
    have hcz44_0:=bc0 BK154.out
    have hfz44_0:=ja BK154.out 0
    go_wp2_with (first |((with_reducible refine jd (f:=92) rfl ?_);refine gL (some 55) Try.func92 #[.int .i64 (l0_0.length:Int), .int .i64 1, .int .i64 8] ?_;(with_reducible refine (jH.calls (l0_0.length:Int) 1 8 t155 _ A43.out).mono ?_);rintro e w' ⟨rfl,⟨nd,rfl⟩⟩;refine ⟨_,rfl,?_⟩))
    go_ret
    exact ⟨Y0,Y98⟩
def jaa.l0 : Nat → List (S52) → Int → List (S87) → Option (Bool)
 | 0,_,_,_=>none
 | k+1,x1,x5,x609000=>if x5<(x1.length:Int) then ((jv.f k x609000 x1 x5).bind fun t610=>(if t610=true then (jaa.l0 k x1 (wrap64 (x5+1)) x609000) else (some false))) else ((jO.f k x609000).bind fun t609=>(if t609=true then (some (decide ((x1.length:Int)≤24))) else (some false)))
def jaa.f (k : Nat) (l0_0 : List (S87)) (l1 : List (S52)) : Option (Bool) := jaa.l0 k l1 0 l0_0
set_option maxHeartbeats 8000000 in
set_option maxRecDepth 100000 in
theorem jaa.calls (k : Nat) (A0_0 : Option Addr) (c0_0 : Nat) (l0_0 : List (S87)) (A1 : Option Addr) (c1 : Nat) (l1 : List (S52)) (r : Bool) (w : World) (hr0_0 : Kd.C k87 w A0_0 l0_0.length l0_0) (hc0_0 : l0_0.length ≤ c0_0) (hr1 : Kd.C k52 w A1 l1.length l1) (hc1 : l1.length ≤ c1) (h : jaa.f k l0_0 l1 = some r) :
  Calls Try.prog 55 #[.agg #[.slice A0_0 l0_0.length c0_0], .slice A1 l1.length c1] w fun e w'=>e=.returned (.bool r)∧Below w.heap.size w w':=by
 have hu32:=Try.underlying32
 have HR0_0:=am hr0_0
 have HC0_0:=am hc0_0
 clear hr0_0 hc0_0
 have HR1:=am hr1
 have HC1:=am hc1
 clear hr1 hc1
 have HB:=am (Below.refl w.heap.size w)
 have H:(jaa.l0 k l1 0 l0_0)=some r:=h
 clear h
 have H':=am H
 clear H
 go_enter Try.func55,Try.ntmps55
 go_wp2_with (first |((with_reducible refine jM (N:=2) rfl ?_);(try (refine jcc (by rfl) ?_;dsimp only));refine jhc ?hg (N:=2) ?hd (cs:=#[.slice A0_0 l0_0.length c0_0]) (t:=32) ?hr ?_;(case hd=>rfl);(case hg=>rfl);(case hr=>exact Y7);intro gb608 hg w3 hbox hb;have BK608:=am (hbox);have GW608:=am ((Y10:w.heap.size≤gb608));have GE608:=am ((Y10:w.heap.size≤gb608));replace HB:=am (je (bq) hb);clear hb hbox hg))
 go_loopg [5] k (fun kq v5 w'=>∃ (x5_1:Int),v5=.int .i64 x5_1∧jq (jaa.l0 kq l1 x5_1 l0_0=some r)∧jq (kq≤k)∧jq (w'.heap[gb608]?=some (.cells #[(.slice A0_0 l0_0.length c0_0)] 32 (0,0)))∧jq (Below w.heap.size w w'))
 case atStart=>exact ⟨(0),(sq),H',⟨Nat.le_refl _⟩,⟨kq BK608.out⟩,⟨Y45⟩⟩
 case round =>
  clear H'
  try clear c1
  try clear p2
  obtain ⟨x5_1,rfl,HA,HK1,BK608,HB⟩:=hrel
  cases gk with
  | zero=>exact absurd HA.out (by simp [jaa.l0])
  | succ k1 =>
   have H:=HA.out
   clear HA
   simp only [jaa.l0] at H
   by_cases c4:x5_1<(l1.length:Int)
   ·rw [if_pos c4] at H
    have c4b0:decide (x5_1<(l1.length:Int))=true:=dzT c4
    clear c4
    replace H:=bzS H
    obtain ⟨t610,A50,H⟩:=H
    replace H:(if t610=true then (jaa.l0 k1 l1 (wrap64 (x5_1+1)) l0_0) else (some false))=some r:=H
    have A5:=am A50
    clear A50
    by_cases c6:t610=true
    ·subst c6
     have H1:(jaa.l0 k1 l1 (wrap64 (x5_1+1)) l0_0)=some r:=by rw [if_pos rfl] at H;exact H
     clear H
     have H:=H1
     clear H1
     have H':=am H
     clear H
     have hcz7_0:=bc0 BK608.out
     have hfz7_0:=ja BK608.out 0
     go_wp2_with (first |((with_reducible refine jd (f:=85) rfl ?_);refine gL (some 15) Try.func85 #[.agg #[.slice A0_0 l0_0.length c0_0], .slice A1 l1.length c1, .int .i64 x5_1] ?_;(with_reducible refine (jv.calls k1 _ _ l0_0 _ _ l1 x5_1 true _ ?side1 ?side2 ?side3 ?side4 A5.out).mono ?_);(case side1=>exact cq (Kd.jba HR0_0.out HB.out));(case side2=>exact HC0_0.out);(case side3=>exact cq (Kd.jba HR1.out HB.out));(case side4=>exact HC1.out);rintro e w8 ⟨rfl,hb⟩;refine ⟨_,rfl,?_⟩;replace BK608:=am (jm (g:=gb608) (o:=.cells #[.slice A0_0 l0_0.length c0_0] 32 (0,0)) (kq BK608.out) hb);replace HB:=am (je (Y45) hb);(try clear hb);(try clear hb2);(try clear hk);(try clear hi)))
     go_roundg k1
     case measure=>have:=HK1.out;omega
     case rel=>exact ⟨(wrap64 (x5_1+1)),(sq),H',⟨by have:=HK1.out;omega⟩,⟨kq BK608.out⟩,⟨Y45⟩⟩
    ·replace c6:=Bool.eq_false_iff.mpr c6
     subst c6
     have H1:(some false)=some r:=by rw [if_neg (show ¬ (false=true) by decide)] at H;exact H
     clear H
     have H:=H1
     clear H1
     obtain rfl:=Option.some.inj H
     have hcz9_0:=bc0 BK608.out
     have hfz9_0:=ja BK608.out 0
     go_wp2_with (first |((with_reducible refine jd (f:=85) rfl ?_);refine gL (some 15) Try.func85 #[.agg #[.slice A0_0 l0_0.length c0_0], .slice A1 l1.length c1, .int .i64 x5_1] ?_;(with_reducible refine (jv.calls k1 _ _ l0_0 _ _ l1 x5_1 false _ ?side1 ?side2 ?side3 ?side4 A5.out).mono ?_);(case side1=>exact cq (Kd.jba HR0_0.out HB.out));(case side2=>exact HC0_0.out);(case side3=>exact cq (Kd.jba HR1.out HB.out));(case side4=>exact HC1.out);rintro e w10 ⟨rfl,hb⟩;refine ⟨_,rfl,?_⟩;replace BK608:=am (jm (g:=gb608) (o:=.cells #[.slice A0_0 l0_0.length c0_0] 32 (0,0)) (kq BK608.out) hb);replace HB:=am (je (Y45) hb);(try clear hb);(try clear hb2);(try clear hk);(try clear hi)))
     go_ret
     exact ⟨Y0,Y45⟩
   ·rw [if_neg c4] at H
    have c4b0:decide (x5_1<(l1.length:Int))=false:=dzF c4
    clear c4
    replace H:=bzS H
    obtain ⟨t609,A110,H⟩:=H
    replace H:(if t609=true then (some (decide ((l1.length:Int)≤24))) else (some false))=some r:=H
    have A11:=am A110
    clear A110
    by_cases c12:t609=true
    ·subst c12
     have H1:(some (decide ((l1.length:Int)≤24)))=some r:=by rw [if_pos rfl] at H;exact H
     clear H
     have H:=H1
     clear H1
     obtain rfl:=Option.some.inj H
     have hcz13_0:=bc0 BK608.out
     have hfz13_0:=ja BK608.out 0
     go_wp2_with (first |((with_reducible refine jd (f:=86) rfl ?_);refine gL (some 18) Try.func86 #[.agg #[.slice A0_0 l0_0.length c0_0]] ?_;(with_reducible refine (jO.calls k1 _ _ l0_0 true _ ?side1 ?side2 A11.out).mono ?_);(case side1=>exact cq (Kd.jba HR0_0.out HB.out));(case side2=>exact HC0_0.out);rintro e w14 ⟨rfl,hb⟩;refine ⟨_,rfl,?_⟩;replace BK608:=am (jm (g:=gb608) (o:=.cells #[.slice A0_0 l0_0.length c0_0] 32 (0,0)) (kq BK608.out) hb);replace HB:=am (je (Y45) hb);(try clear hb);(try clear hb2);(try clear hk);(try clear hi)))
     go_ret
     exact ⟨Y0,Y45⟩
    ·replace c12:=Bool.eq_false_iff.mpr c12
     subst c12
     have H1:(some false)=some r:=by rw [if_neg (show ¬ (false=true) by decide)] at H;exact H
     clear H
     have H:=H1
     clear H1
     obtain rfl:=Option.some.inj H
     have hcz15_0:=bc0 BK608.out
     have hfz15_0:=ja BK608.out 0
     go_wp2_with (first |((with_reducible refine jd (f:=86) rfl ?_);refine gL (some 18) Try.func86 #[.agg #[.slice A0_0 l0_0.length c0_0]] ?_;(with_reducible refine (jO.calls k1 _ _ l0_0 false _ ?side1 ?side2 A11.out).mono ?_);(case side1=>exact cq (Kd.jba HR0_0.out HB.out));(case side2=>exact HC0_0.out);rintro e w16 ⟨rfl,hb⟩;refine ⟨_,rfl,?_⟩;replace BK608:=am (jm (g:=gb608) (o:=.cells #[.slice A0_0 l0_0.length c0_0] 32 (0,0)) (kq BK608.out) hb);replace HB:=am (je (Y45) hb);(try clear hb);(try clear hb2);(try clear hk);(try clear hi)))
     go_ret
     exact ⟨Y0,Y45⟩
def jFb.f (k : Nat) (l0_0 : List (S87)) (l1 : List (S52)) (a2 : Int) : Option (Bool) := (jaa.f k l0_0 l1).bind fun t612 => (if t612 = true then ((jH.f a2 0 (wrap64 ((l1.length : Int) - 1))).bind fun t613 => (some t613)) else (some false))
set_option maxHeartbeats 8000000 in
set_option maxRecDepth 100000 in
theorem jFb.calls (k : Nat) (A0_0 : Option Addr) (c0_0 : Nat) (l0_0 : List (S87)) (A1 : Option Addr) (c1 : Nat) (l1 : List (S52)) (a2 : Int) (r : Bool) (w : World) (hr0_0 : Kd.C k87 w A0_0 l0_0.length l0_0) (hc0_0 : l0_0.length ≤ c0_0) (hr1 : Kd.C k52 w A1 l1.length l1) (hc1 : l1.length ≤ c1) (h : jFb.f k l0_0 l1 a2 = some r) :
  Calls Try.prog 63 #[.agg #[.slice A0_0 l0_0.length c0_0], .slice A1 l1.length c1, .int .i64 a2] w fun e w'=>e=.returned (.bool r)∧Below w.heap.size w w':=by
 have hu32:=Try.underlying32
 have HR0_0:=am hr0_0
 have HC0_0:=am hc0_0
 clear hr0_0 hc0_0
 have HR1:=am hr1
 have HC1:=am hc1
 clear hr1 hc1
 have HB:=am (Below.refl w.heap.size w)
 have H:((jaa.f k l0_0 l1).bind fun t612=>(if t612=true then ((jH.f a2 0 (wrap64 ((l1.length:Int) - 1))).bind fun t613=>(some t613)) else (some false)))=some r:=h
 clear h
 replace H:=bzS H
 obtain ⟨t612,A40,H⟩:=H
 replace H:(if t612=true then ((jH.f a2 0 (wrap64 ((l1.length:Int) - 1))).bind fun t613=>(some t613)) else (some false))=some r:=H
 have A4:=am A40
 clear A40
 by_cases c5:t612=true
 ·subst c5
  have H1:((jH.f a2 0 (wrap64 ((l1.length:Int) - 1))).bind fun t613=>(some t613))=some r:=by rw [if_pos rfl] at H;exact H
  clear H
  have H:=H1
  clear H1
  replace H:=bzS H
  obtain ⟨t613,A60,H⟩:=H
  replace H:(some t613)=some r:=H
  have A6:=am A60
  clear A60
  obtain rfl:=Option.some.inj H
  go_enter Try.func63,Try.ntmps63
  go_wp2_with (first |((with_reducible refine jM (N:=3) rfl ?_);(try (refine jcc (by rfl) ?_;dsimp only));refine jhc ?hg (N:=3) ?hd (cs:=#[.slice A0_0 l0_0.length c0_0]) (t:=32) ?hr ?_;(case hd=>rfl);(case hg=>rfl);(case hr=>exact Y7);intro gb611 hg w7 hbox hb;have BK611:=am (hbox);have GW611:=am ((Y10:w.heap.size≤gb611));have GE611:=am ((Y10:w.heap.size≤gb611));replace HB:=am (je (bq) hb);clear hb hbox hg;have hcz8_0:=bc0 BK611.out;have hfz8_0:=ja BK611.out 0) |((with_reducible refine jd (f:=55) rfl ?_);refine gL (some 9) Try.func55 #[.agg #[.slice A0_0 l0_0.length c0_0], .slice A1 l1.length c1] ?_;(with_reducible refine (jaa.calls k _ _ l0_0 _ _ l1 true _ ?side1 ?side2 ?side3 ?side4 A4.out).mono ?_);(case side1=>exact cq (Kd.jba HR0_0.out HB.out));(case side2=>exact HC0_0.out);(case side3=>exact cq (Kd.jba HR1.out HB.out));(case side4=>exact HC1.out);rintro e w9 ⟨rfl,hb⟩;refine ⟨_,rfl,?_⟩;replace BK611:=am (jm (g:=gb611) (o:=.cells #[.slice A0_0 l0_0.length c0_0] 32 (0,0)) (kq BK611.out) hb);replace HB:=am (je (Y93) hb);(try clear hb);(try clear hb2);(try clear hk);(try clear hi)) |(go_at_call 92;(with_reducible refine (jH.calls a2 0 (wrap64 ((l1.length:Int) - 1)) t613 _ A6.out).mono ?_);rintro e w' ⟨rfl,⟨nd,rfl⟩⟩))
  go_ret
  exact ⟨Y0,Y93⟩
 ·replace c5:=Bool.eq_false_iff.mpr c5
  subst c5
  have H1:(some false)=some r:=by rw [if_neg (show ¬ (false=true) by decide)] at H;exact H
  clear H
  have H:=H1
  clear H1
  obtain rfl:=Option.some.inj H
  go_enter Try.func63,Try.ntmps63
  go_wp2_with (first |((with_reducible refine jM (N:=3) rfl ?_);(try (refine jcc (by rfl) ?_;dsimp only));refine jhc ?hg (N:=3) ?hd (cs:=#[.slice A0_0 l0_0.length c0_0]) (t:=32) ?hr ?_;(case hd=>rfl);(case hg=>rfl);(case hr=>exact Y7);intro gb611 hg w10 hbox hb;have BK611:=am (hbox);have GW611:=am ((Y10:w.heap.size≤gb611));have GE611:=am ((Y10:w.heap.size≤gb611));replace HB:=am (je (bq) hb);clear hb hbox hg;have hcz11_0:=bc0 BK611.out;have hfz11_0:=ja BK611.out 0) |((with_reducible refine jd (f:=55) rfl ?_);refine gL (some 9) Try.func55 #[.agg #[.slice A0_0 l0_0.length c0_0], .slice A1 l1.length c1] ?_;(with_reducible refine (jaa.calls k _ _ l0_0 _ _ l1 false _ ?side1 ?side2 ?side3 ?side4 A4.out).mono ?_);(case side1=>exact cq (Kd.jba HR0_0.out HB.out));(case side2=>exact HC0_0.out);(case side3=>exact cq (Kd.jba HR1.out HB.out));(case side4=>exact HC1.out);rintro e w12 ⟨rfl,hb⟩;refine ⟨_,rfl,?_⟩;replace BK611:=am (jm (g:=gb611) (o:=.cells #[.slice A0_0 l0_0.length c0_0] 32 (0,0)) (kq BK611.out) hb);replace HB:=am (je (Y93) hb);(try clear hb);(try clear hb2);(try clear hk);(try clear hi)))
  go_ret
  exact ⟨Y0,Y93⟩
def jGa.f (k : Nat) (l0_0 : List (S87)) (l1 : List (S52)) (a2 : Int) : Option (List Int) := (jFb.f k l0_0 l1 a2).bind fun t615 => (if t615 = true then ((jua.f k l1 a2).bind fun t616 => ((jIa.f k l1 t616).bind fun t619 => (some t619))) else (some ([] : List Int)))
set_option maxHeartbeats 8000000 in
set_option maxRecDepth 100000 in
theorem jGa.calls (k : Nat) (A0_0 : Option Addr) (c0_0 : Nat) (l0_0 : List (S87)) (A1 : Option Addr) (c1 : Nat) (l1 : List (S52)) (a2 : Int) (r : List Int) (w : World) (hr0_0 : Kd.C k87 w A0_0 l0_0.length l0_0) (hc0_0 : l0_0.length ≤ c0_0) (hr1 : Kd.C k52 w A1 l1.length l1) (hc1 : l1.length ≤ c1) (h : jGa.f k l0_0 l1 a2 = some r) :
  Calls Try.prog 40 #[.agg #[.slice A0_0 l0_0.length c0_0], .slice A1 l1.length c1, .int .i64 a2] w fun e w'=>∃ v0_:Value,e=.returned (v0_)∧Kd.R (Kd.int .i64) 3 w' w.heap.size (fun _=>True) v0_ r∧Below w.heap.size w w':=by
 have hu32:=Try.underlying32
 have HR0_0:=am hr0_0
 have HC0_0:=am hc0_0
 clear hr0_0 hc0_0
 have HR1:=am hr1
 have HC1:=am hc1
 clear hr1 hc1
 have HB:=am (Below.refl w.heap.size w)
 have H:((jFb.f k l0_0 l1 a2).bind fun t615=>(if t615=true then ((jua.f k l1 a2).bind fun t616=>((jIa.f k l1 t616).bind fun t619=>(some t619))) else (some ([]:List Int))))=some r:=h
 clear h
 replace H:=bzS H
 obtain ⟨t615,A40,H⟩:=H
 replace H:(if t615=true then ((jua.f k l1 a2).bind fun t616=>((jIa.f k l1 t616).bind fun t619=>(some t619))) else (some ([]:List Int)))=some r:=H
 have A4:=am A40
 clear A40
 by_cases c5:t615=true
 ·subst c5
  have H1:((jua.f k l1 a2).bind fun t616=>((jIa.f k l1 t616).bind fun t619=>(some t619)))=some r:=by rw [if_pos rfl] at H;exact H
  clear H
  have H:=H1
  clear H1
  replace H:=bzS H
  obtain ⟨t616,A60,H⟩:=H
  replace H:((jIa.f k l1 t616).bind fun t619=>(some t619))=some r:=H
  have A6:=am A60
  clear A60
  replace H:=bzS H
  obtain ⟨t619,A70,H⟩:=H
  replace H:(some t619)=some r:=H
  have A7:=am A70
  clear A70
  obtain rfl:=Option.some.inj H
  go_enter Try.func40,Try.ntmps40
  go_wp2_with (first |((with_reducible refine jM (N:=3) rfl ?_);refine bE (N:=3) (cs:=#[.slice A0_0 l0_0.length c0_0]) (t:=32) ?_;intro gb614 hg w8 hbox hb;have BK614:=am (hbox);have GW614:=am ((Y10:w.heap.size≤gb614));have GE614:=am ((Y10:w.heap.size≤gb614));replace HB:=am (je (bq) hb);clear hb hbox hg;have hcz9_0:=bc0 BK614.out;have hfz9_0:=ja BK614.out 0) |((with_reducible refine jd (f:=63) rfl ?_);refine gL (some 10) Try.func63 #[.agg #[.slice A0_0 l0_0.length c0_0], .slice A1 l1.length c1, .int .i64 a2] ?_;(with_reducible refine (jFb.calls k _ _ l0_0 _ _ l1 a2 true _ ?side1 ?side2 ?side3 ?side4 A4.out).mono ?_);(case side1=>exact cq (Kd.jba HR0_0.out HB.out));(case side2=>exact HC0_0.out);(case side3=>exact cq (Kd.jba HR1.out HB.out));(case side4=>exact HC1.out);rintro e w10 ⟨rfl,hb⟩;refine ⟨_,rfl,?_⟩;replace BK614:=am (jm (g:=gb614) (o:=.cells #[.slice A0_0 l0_0.length c0_0] 32 (0,0)) (kq BK614.out) hb);replace HB:=am (je (Y56) hb);(try clear hb);(try clear hb2);(try clear hk);(try clear hi)) |((with_reducible refine jd (f:=43) rfl ?_);refine gL (some 15) Try.func43 #[.slice A1 l1.length c1, .int .i64 a2] ?_;(with_reducible refine (jua.calls k _ _ l1 a2 t616 _ ?side1 ?side2 A6.out).mono ?_);(case side1=>exact cq (Kd.jba HR1.out HB.out));(case side2=>exact HC1.out);rintro e w11 ⟨v617,rfl,ho0,hb⟩;refine ⟨_,rfl,?_⟩;have HO618:=am (Kd.jQ ho0 (jN (Y56)));replace BK614:=am (jm (g:=gb614) (o:=.cells #[.slice A0_0 l0_0.length c0_0] 32 (0,0)) (kq BK614.out) hb);replace HB:=am (je (Y56) hb);(try clear hb);(try clear hb2);(try clear hk);(try clear hi);(try clear ho0);obtain ⟨Ao12,co12,eo12⟩:=Kd.jU HO618.out;subst eo12) |((with_reducible refine jd (f:=45) rfl ?_);refine gL (some 16) Try.func45 #[.slice A1 l1.length c1, .slice Ao12 t616.length co12] ?_;(with_reducible refine (jIa.calls k _ _ l1 _ _ t616 t619 _ ?side1 ?side2 ?side3 ?side4 A7.out).mono ?_);(case side1=>exact cq (Kd.jba HR1.out HB.out));(case side2=>exact HC1.out);(case side3=>exact cq (Kd.jh HO618.out).2.2);(case side4=>exact (Kd.jh HO618.out).2.1);rintro e w13 ⟨v620,rfl,ho0,hb⟩;refine ⟨_,rfl,?_⟩;have HO621:=am (Kd.jQ (Kd.jxb ho0 (Kd.R_lt (rq HO618.out))) (jN (Y56)));replace HO618:=am (Kd.job (rq HO618.out) (Kd.jyb ho0) hb);replace BK614:=am (jm (g:=gb614) (o:=.cells #[.slice A0_0 l0_0.length c0_0] 32 (0,0)) (kq BK614.out) hb);replace HB:=am (je (Y56) hb);(try clear hb);(try clear hb2);(try clear hk);(try clear hi);(try clear ho0)))
  go_ret
  exact ⟨_,Y0,by (with_reducible repeat (first | apply Kd.jY | apply Kd.jX | apply Kd.jia));exact Kd.jE HO621.out (fun _ hk=>trivial),Y56⟩
 ·replace c5:=Bool.eq_false_iff.mpr c5
  subst c5
  have H1:(some ([]:List Int))=some r:=by rw [if_neg (show ¬ (false=true) by decide)] at H;exact H
  clear H
  have H:=H1
  clear H1
  obtain rfl:=Option.some.inj H
  go_enter Try.func40,Try.ntmps40
  go_wp2_with (first |((with_reducible refine jM (N:=3) rfl ?_);refine bE (N:=3) (cs:=#[.slice A0_0 l0_0.length c0_0]) (t:=32) ?_;intro gb614 hg w14 hbox hb;have BK614:=am (hbox);have GW614:=am ((Y10:w.heap.size≤gb614));have GE614:=am ((Y10:w.heap.size≤gb614));replace HB:=am (je (bq) hb);clear hb hbox hg;have hcz15_0:=bc0 BK614.out;have hfz15_0:=ja BK614.out 0) |((with_reducible refine jd (f:=63) rfl ?_);refine gL (some 10) Try.func63 #[.agg #[.slice A0_0 l0_0.length c0_0], .slice A1 l1.length c1, .int .i64 a2] ?_;(with_reducible refine (jFb.calls k _ _ l0_0 _ _ l1 a2 false _ ?side1 ?side2 ?side3 ?side4 A4.out).mono ?_);(case side1=>exact cq (Kd.jba HR0_0.out HB.out));(case side2=>exact HC0_0.out);(case side3=>exact cq (Kd.jba HR1.out HB.out));(case side4=>exact HC1.out);rintro e w16 ⟨rfl,hb⟩;refine ⟨_,rfl,?_⟩;replace BK614:=am (jm (g:=gb614) (o:=.cells #[.slice A0_0 l0_0.length c0_0] 32 (0,0)) (kq BK614.out) hb);replace HB:=am (je (Y56) hb);(try clear hb);(try clear hb2);(try clear hk);(try clear hi)))
  go_ret
  exact ⟨_,Y0,Y81,Y56⟩
end Go.Proofs.Ytkokajljeebgdaa.P
end
