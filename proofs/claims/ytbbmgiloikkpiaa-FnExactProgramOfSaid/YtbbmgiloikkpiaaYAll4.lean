/- One part of the proofs on this program: functions of the program as plain functions, that the code comes to them, and facts on them. -/
import Derived.Test.YtbbmgiloikkpiaaYAll1
import Derived.Test.YtbbmgiloikkpiaaYAll3
import Derived.Test.YtbbmgiloikkpiaaYWAuto
section
namespace Go.Proofs.Ytbbmgiloikkpiaa.P
open Go.RowKit Go.Proofs.YtbbmgiloikkpiaaW.PrintWords Go.Proofs.YtbbmgiloikkpiaaW.PrintLast Go.Proofs.YtbbmgiloikkpiaaW.PrintMore
attribute [local go_sem] jaa jY joa jna jR jQ jZ jX jh
set_option linter.unusedVariables false
set_option linter.unusedSimpArgs false
def jla.f (l0_0 : List (S75)) (a1 : Int) : Option (Bool) := (jI.f a1 0 (wrap64 ((l0_0.length : Int) - 1))).bind fun t292 => (some t292)
set_option maxHeartbeats 8000000 in
set_option maxRecDepth 100000 in
theorem jla.calls (A0_0 : Option Addr) (c0_0 : Nat) (l0_0 : List (S75)) (a1 : Int) (r : Bool) (w : World) (hr0_0 : Kd.C k75 w A0_0 l0_0.length l0_0) (hc0_0 : l0_0.length ≤ c0_0) (h : jla.f l0_0 a1 = some r) :
  Calls Try.prog 43 #[.agg #[.slice A0_0 l0_0.length c0_0], .int .i64 a1] w fun e w'=>e=.returned (.bool r)∧Below w.heap.size w w':=by
 have hu35:=Try.underlying35
 have HR0_0:=am hr0_0
 have HC0_0:=am hc0_0
 clear hr0_0 hc0_0
 have HB:=am (Below.refl w.heap.size w)
 have H:((jI.f a1 0 (wrap64 ((l0_0.length:Int) - 1))).bind fun t292=>(some t292))=some r:=h
 clear h
 replace H:=bzS H
 obtain ⟨t292,A30,H⟩:=H
 replace H:(some t292)=some r:=H
 have A3:=am A30
 clear A30
 obtain rfl:=Option.some.inj H
 go_enter Try.func43,Try.ntmps43
 go_wp2_with (first |((with_reducible refine jB (N:=2) rfl ?_);refine bE (N:=2) (cs:=#[.slice A0_0 l0_0.length c0_0]) (t:=35) ?_;intro gb291 hg w4 hbox hb;have BK291:=am (hbox);have GW291:=am ((Y1:w.heap.size≤gb291));have GE291:=am ((Y1:w.heap.size≤gb291));replace HB:=am (jc (bq) hb);clear hb hbox hg;have hcz5_0:=bc0 BK291.out;have hfz5_0:=ja BK291.out 0) |((with_reducible refine jg (f:=60) rfl ?_);refine gL (some 10) Try.func60 #[.int .i64 a1, .int .i64 0, .int .i64 (wrap64 ((l0_0.length:Int) - 1))] ?_;(with_reducible refine (jI.calls a1 0 (wrap64 ((l0_0.length:Int) - 1)) t292 _ A3.out).mono ?_);rintro e w' ⟨rfl,⟨nd,rfl⟩⟩;refine ⟨_,rfl,?_⟩))
 go_ret
 exact ⟨Y0,by repeat (first |(with_reducible first | exact HB.out | apply jk | apply jf | apply jm | refine jl ?_ GE291.out) | exact HB.out)⟩
def jqa.f (a0 : Int) : Option (Bool) := (jI.f a0 0 99).bind fun t293 => (some t293)
set_option maxHeartbeats 8000000 in
set_option maxRecDepth 100000 in
theorem jqa.calls (a0 : Int) (r : Bool) (w : World) (h : jqa.f a0 = some r) :
  Calls Try.prog 44 #[.int .i64 a0] w fun e w'=>e=.returned (.bool r)∧jZa w w':=by
 have H:((jI.f a0 0 99).bind fun t293=>(some t293))=some r:=h
 clear h
 replace H:=bzS H
 obtain ⟨t293,A20,H⟩:=H
 replace H:(some t293)=some r:=H
 have A2:=am A20
 clear A20
 obtain rfl:=Option.some.inj H
 go_enter Try.func44,Try.ntmps44
 go_wp2_with (first |((with_reducible refine jg (f:=60) rfl ?_);refine gL (some 4) Try.func60 #[.int .i64 a0, .int .i64 0, .int .i64 99] ?_;(with_reducible refine (jI.calls a0 0 99 t293 _ A2.out).mono ?_);rintro e w' ⟨rfl,⟨nd,rfl⟩⟩;refine ⟨_,rfl,?_⟩))
 go_ret
 exact ⟨sq,Y2⟩
def jxa.j0 : Nat → Int → Bool → Int → Int → Int → List (S75) → Option (Bool)
 | 0,_,_,_,_,_,_=>none
 | k+1,x6,x7,x295000,x295001,x295002,x296000=>if x7=true then ((jqa.f x295001).bind fun t296=>(if t296=true then (some (x295002 == 0)) else (some false))) else (if x6=2 then ((jla.f x296000 x295001).bind fun t297=>(if t297=true then (some (x295002 == 0)) else (some false))) else (if x6=3 then ((jla.f x296000 x295001).bind fun t298=>(if t298=true then ((jqa.f x295002).bind fun t299=>(some t299)) else (some false))) else (some false)))
def jxa.f (k : Nat) (a0_0 : Int) (a0_1 : Int) (a0_2 : Int) (l1_0 : List (S75)) : Option (Bool) := if a0_0 = 0 then (jxa.j0 k a0_0 (a0_0 == 0) a0_0 a0_1 a0_2 l1_0) else (jxa.j0 k a0_0 (a0_0 == 1) a0_0 a0_1 a0_2 l1_0)
set_option maxHeartbeats 8000000 in
set_option maxRecDepth 100000 in
theorem jxa.calls (k : Nat) (a0_0 : Int) (a0_1 : Int) (a0_2 : Int) (A1_0 : Option Addr) (c1_0 : Nat) (l1_0 : List (S75)) (r : Bool) (w : World) (hr1_0 : Kd.C k75 w A1_0 l1_0.length l1_0) (hc1_0 : l1_0.length ≤ c1_0) (h : jxa.f k a0_0 a0_1 a0_2 l1_0 = some r) :
  Calls Try.prog 42 #[.agg #[.int .i64 a0_0, .int .i64 a0_1, .int .i64 a0_2], .agg #[.slice A1_0 l1_0.length c1_0]] w fun e w'=>e=.returned (.bool r)∧Below w.heap.size w w':=by
 have hu54:=Try.underlying54
 have hu35:=Try.underlying35
 have HR1_0:=am hr1_0
 have HC1_0:=am hc1_0
 clear hr1_0 hc1_0
 have HB:=am (Below.refl w.heap.size w)
 have H:(if a0_0=0 then (jxa.j0 k a0_0 (a0_0 == 0) a0_0 a0_1 a0_2 l1_0) else (jxa.j0 k a0_0 (a0_0 == 1) a0_0 a0_1 a0_2 l1_0))=some r:=h
 clear h
 have HC3:=am H
 clear H
 go_enter Try.func42,Try.ntmps42
 go_upto_if 7 with (first |((with_reducible refine jB (N:=2) rfl ?_);refine bE (N:=2) (cs:=#[.int .i64 a0_0, .int .i64 a0_1, .int .i64 a0_2]) (t:=54) ?_;intro gb294 hg w4 hbox hb;have BK294:=am (hbox);have GW294:=am ((Y1:w.heap.size≤gb294));have GE294:=am ((Y1:w.heap.size≤gb294));replace HB:=am (jc (bq) hb);clear hb hbox hg) |((with_reducible refine jB (N:=3) rfl ?_);refine bE (N:=3) (cs:=#[.slice A1_0 l1_0.length c1_0]) (t:=35) ?_;intro gb295 hg w5 hbox hb;have BK295:=am (hbox);have GW295:=am ((Y86:w.heap.size≤gb295));have GE295:=am ((Y86:w.heap.size≤gb295));have NB294_295:=am ((by rw [hg];exact Nat.ne_of_lt (jza (g:=gb294) (o:=.cells #[.int .i64 a0_0, .int .i64 a0_1, .int .i64 a0_2] 54 (0,0)) (kq BK294.out)):gb294≠gb295));have NB295_294:=am ((by rw [hg];exact Nat.ne_of_gt (jza (g:=gb294) (o:=.cells #[.int .i64 a0_0, .int .i64 a0_1, .int .i64 a0_2] 54 (0,0)) (kq BK294.out)):gb295≠gb294));replace BK294:=am (je (g:=gb294) (o:=.cells #[.int .i64 a0_0, .int .i64 a0_1, .int .i64 a0_2] 54 (0,0)) (kq BK294.out) hb);replace HB:=am (jc (by repeat (first |(with_reducible first | exact HB.out | apply jk | apply jf | apply jm | refine jl ?_ GE294.out) | exact HB.out)) hb);clear hb hbox hg;have hnb6:=NB294_295.out;have hnc6:=NB295_294.out;have hcz7_0:=bc0 BK294.out;have hcz7_1:=bc1 BK294.out;have hcz7_2:=bc2 BK294.out;have hfz7_0:=ja BK294.out 0;have hfz7_1:=ja BK294.out 1;have hfz7_2:=ja BK294.out 2))
 (try simp only [Act.put,List.setIfInBounds_toArray,List.set_cons_zero,List.set_cons_succ])
 go_cut [7] (fun v7 wc=>∃ (kq:Nat) (x7_2:Bool),v7=.bool x7_2∧jq (jxa.j0 kq a0_0 x7_2 a0_0 a0_1 a0_2 l1_0=some r)∧jq (kq≤k)∧jq (wc.heap[gb294]?=some (.cells #[.int .i64 a0_0, .int .i64 a0_1, .int .i64 a0_2] 54 (0,0)))∧jq (wc.heap[gb295]?=some (.cells #[(.slice A1_0 l1_0.length c1_0)] 35 (0,0)))∧jq (Below w.heap.size w wc))
 case first =>
  have H:=HC3.out
  clear HC3
  by_cases c8:a0_0=0
  ·rw [if_pos c8] at H
   have c8b0:(a0_0 == 0)=true:=beq_iff_eq.mpr c8
   have c8b1:(a0_0 != 0)=false:=bne_eq_false_iff_eq.mpr c8
   clear c8
   (first | rw [c8b0] |(simp only [jcb,jdb];rw [c8b0]) | skip)
   have H':=am H
   clear H
   go_wp2
   go_meet
   case rel=>exact ⟨_,((a0_0 == 0)),(sq),H',⟨Y15⟩,⟨kq BK294.out⟩,⟨kq BK295.out⟩,⟨Y14⟩⟩
  ·rw [if_neg c8] at H
   have c8b0:(a0_0 == 0)=false:=beq_eq_false_iff_ne.mpr c8
   have c8b1:(a0_0 != 0)=true:=bne_iff_ne.mpr c8
   (first | rw [c8b0] |(simp only [jcb,jdb];rw [c8b0]) | skip)
   have H':=am H
   clear H
   go_wp2
   go_meet
   case rel=>exact ⟨_,((a0_0 == 1)),(sq),H',⟨Y15⟩,⟨kq BK294.out⟩,⟨kq BK295.out⟩,⟨Y14⟩⟩
 case rest =>
  clear HC3
  try clear c1
  try clear p2
  try clear c4
  try clear c6
  try clear c8
  try clear c8b0
  try clear c8b1
  try clear hcz7_0
  try clear hcz7_1
  try clear hcz7_2
  try clear hfz7_0
  try clear hfz7_1
  try clear hfz7_2
  obtain ⟨kq,x7_2,rfl,HA,HJ2,BK294,BK295,HB⟩:=hcut
  cases kq with
  | zero=>exact absurd HA.out (by simp [jxa.j0])
  | succ kj2 =>
   have H:=HA.out
   clear HA
   simp only [jxa.j0] at H
   by_cases c9:x7_2=true
   ·subst c9
    have H1:((jqa.f a0_1).bind fun t296=>(if t296=true then (some (a0_2 == 0)) else (some false)))=some r:=by rw [if_pos rfl] at H;exact H
    clear H
    have H:=H1
    clear H1
    replace H:=bzS H
    obtain ⟨t296,A100,H⟩:=H
    replace H:(if t296=true then (some (a0_2 == 0)) else (some false))=some r:=H
    have A10:=am A100
    clear A100
    by_cases c11:t296=true
    ·subst c11
     have H1:(some (a0_2 == 0))=some r:=by rw [if_pos rfl] at H;exact H
     clear H
     have H:=H1
     clear H1
     obtain rfl:=Option.some.inj H
     have hnb12:=NB294_295.out
     have hnc12:=NB295_294.out
     have hcz13_0:=bc0 BK294.out
     have hcz13_1:=bc1 BK294.out
     have hcz13_2:=bc2 BK294.out
     have hfz13_0:=ja BK294.out 0
     have hfz13_1:=ja BK294.out 1
     have hfz13_2:=ja BK294.out 2
     go_wp2_with (first |((with_reducible refine jg (f:=44) rfl ?_);refine gL (some 12) Try.func44 #[.int .i64 a0_1] ?_;(with_reducible refine (jqa.calls a0_1 true _ A10.out).mono ?_);rintro e w' ⟨rfl,⟨nd,rfl⟩⟩;refine ⟨_,rfl,?_⟩))
     go_ret
     exact ⟨Y0,Y14⟩
    ·replace c11:=Bool.eq_false_iff.mpr c11
     subst c11
     have H1:(some false)=some r:=by rw [if_neg (show ¬ (false=true) by decide)] at H;exact H
     clear H
     have H:=H1
     clear H1
     obtain rfl:=Option.some.inj H
     have hnb14:=NB294_295.out
     have hnc14:=NB295_294.out
     have hcz15_0:=bc0 BK294.out
     have hcz15_1:=bc1 BK294.out
     have hcz15_2:=bc2 BK294.out
     have hfz15_0:=ja BK294.out 0
     have hfz15_1:=ja BK294.out 1
     have hfz15_2:=ja BK294.out 2
     go_wp2_with (first |((with_reducible refine jg (f:=44) rfl ?_);refine gL (some 12) Try.func44 #[.int .i64 a0_1] ?_;(with_reducible refine (jqa.calls a0_1 false _ A10.out).mono ?_);rintro e w' ⟨rfl,⟨nd,rfl⟩⟩;refine ⟨_,rfl,?_⟩))
     go_ret
     exact ⟨Y0,Y14⟩
   ·replace c9:=Bool.eq_false_iff.mpr c9
    subst c9
    have H1:(if a0_0=2 then ((jla.f l1_0 a0_1).bind fun t297=>(if t297=true then (some (a0_2 == 0)) else (some false))) else (if a0_0=3 then ((jla.f l1_0 a0_1).bind fun t298=>(if t298=true then ((jqa.f a0_2).bind fun t299=>(some t299)) else (some false))) else (some false)))=some r:=by rw [if_neg (show ¬ (false=true) by decide)] at H;exact H
    clear H
    have H:=H1
    clear H1
    by_cases c16:a0_0=2
    ·rw [if_pos c16] at H
     have c16b0:(a0_0 == 2)=true:=beq_iff_eq.mpr c16
     have c16b1:(a0_0 != 2)=false:=bne_eq_false_iff_eq.mpr c16
     clear c16
     replace H:=bzS H
     obtain ⟨t297,A170,H⟩:=H
     replace H:(if t297=true then (some (a0_2 == 0)) else (some false))=some r:=H
     have A17:=am A170
     clear A170
     by_cases c18:t297=true
     ·subst c18
      have H1:(some (a0_2 == 0))=some r:=by rw [if_pos rfl] at H;exact H
      clear H
      have H:=H1
      clear H1
      obtain rfl:=Option.some.inj H
      have hnb19:=NB295_294.out
      have hnc19:=NB294_295.out
      have hcz20_0:=bc0 BK295.out
      have hfz20_0:=ja BK295.out 0
      have hcz21_0:=bc0 BK294.out
      have hcz21_1:=bc1 BK294.out
      have hcz21_2:=bc2 BK294.out
      have hfz21_0:=ja BK294.out 0
      have hfz21_1:=ja BK294.out 1
      have hfz21_2:=ja BK294.out 2
      go_wp2_with (first |((with_reducible refine jg (f:=43) rfl ?_);refine gL (some 23) Try.func43 #[.agg #[.slice A1_0 l1_0.length c1_0], .int .i64 a0_1] ?_;(with_reducible refine (jla.calls _ _ l1_0 a0_1 true _ ?side1 ?side2 A17.out).mono ?_);(case side1=>exact cq (Kd.jF HR1_0.out HB.out));(case side2=>exact HC1_0.out);rintro e w22 ⟨rfl,hb⟩;refine ⟨_,rfl,?_⟩;replace BK294:=am (je (g:=gb294) (o:=.cells #[.int .i64 a0_0, .int .i64 a0_1, .int .i64 a0_2] 54 (0,0)) (kq BK294.out) hb);replace BK295:=am (je (g:=gb295) (o:=.cells #[.slice A1_0 l1_0.length c1_0] 35 (0,0)) (kq BK295.out) hb);replace HB:=am (jc (Y14) hb);(try clear hb);(try clear hb2);(try clear hk);(try clear hi);have hcz23_0:=bc0 BK294.out;have hcz23_1:=bc1 BK294.out;have hcz23_2:=bc2 BK294.out;have hfz23_0:=ja BK294.out 0;have hfz23_1:=ja BK294.out 1;have hfz23_2:=ja BK294.out 2))
      go_ret
      exact ⟨Y0,Y14⟩
     ·replace c18:=Bool.eq_false_iff.mpr c18
      subst c18
      have H1:(some false)=some r:=by rw [if_neg (show ¬ (false=true) by decide)] at H;exact H
      clear H
      have H:=H1
      clear H1
      obtain rfl:=Option.some.inj H
      have hnb24:=NB295_294.out
      have hnc24:=NB294_295.out
      have hcz25_0:=bc0 BK295.out
      have hfz25_0:=ja BK295.out 0
      have hcz26_0:=bc0 BK294.out
      have hcz26_1:=bc1 BK294.out
      have hcz26_2:=bc2 BK294.out
      have hfz26_0:=ja BK294.out 0
      have hfz26_1:=ja BK294.out 1
      have hfz26_2:=ja BK294.out 2
      go_wp2_with (first |((with_reducible refine jg (f:=43) rfl ?_);refine gL (some 23) Try.func43 #[.agg #[.slice A1_0 l1_0.length c1_0], .int .i64 a0_1] ?_;(with_reducible refine (jla.calls _ _ l1_0 a0_1 false _ ?side1 ?side2 A17.out).mono ?_);(case side1=>exact cq (Kd.jF HR1_0.out HB.out));(case side2=>exact HC1_0.out);rintro e w27 ⟨rfl,hb⟩;refine ⟨_,rfl,?_⟩;replace BK294:=am (je (g:=gb294) (o:=.cells #[.int .i64 a0_0, .int .i64 a0_1, .int .i64 a0_2] 54 (0,0)) (kq BK294.out) hb);replace BK295:=am (je (g:=gb295) (o:=.cells #[.slice A1_0 l1_0.length c1_0] 35 (0,0)) (kq BK295.out) hb);replace HB:=am (jc (Y14) hb);(try clear hb);(try clear hb2);(try clear hk);(try clear hi)))
      go_ret
      exact ⟨Y0,Y14⟩
    ·rw [if_neg c16] at H
     have c16b0:(a0_0 == 2)=false:=beq_eq_false_iff_ne.mpr c16
     have c16b1:(a0_0 != 2)=true:=bne_iff_ne.mpr c16
     by_cases c28:a0_0=3
     ·rw [if_pos c28] at H
      have c28b0:(a0_0 == 3)=true:=beq_iff_eq.mpr c28
      have c28b1:(a0_0 != 3)=false:=bne_eq_false_iff_eq.mpr c28
      clear c28
      replace H:=bzS H
      obtain ⟨t298,A290,H⟩:=H
      replace H:(if t298=true then ((jqa.f a0_2).bind fun t299=>(some t299)) else (some false))=some r:=H
      have A29:=am A290
      clear A290
      by_cases c30:t298=true
      ·subst c30
       have H1:((jqa.f a0_2).bind fun t299=>(some t299))=some r:=by rw [if_pos rfl] at H;exact H
       clear H
       have H:=H1
       clear H1
       replace H:=bzS H
       obtain ⟨t299,A310,H⟩:=H
       replace H:(some t299)=some r:=H
       have A31:=am A310
       clear A310
       obtain rfl:=Option.some.inj H
       have hnb32:=NB295_294.out
       have hnc32:=NB294_295.out
       have hcz33_0:=bc0 BK295.out
       have hfz33_0:=ja BK295.out 0
       have hcz34_0:=bc0 BK294.out
       have hcz34_1:=bc1 BK294.out
       have hcz34_2:=bc2 BK294.out
       have hfz34_0:=ja BK294.out 0
       have hfz34_1:=ja BK294.out 1
       have hfz34_2:=ja BK294.out 2
       go_wp2_with (first |((with_reducible refine jg (f:=43) rfl ?_);refine gL (some 34) Try.func43 #[.agg #[.slice A1_0 l1_0.length c1_0], .int .i64 a0_1] ?_;(with_reducible refine (jla.calls _ _ l1_0 a0_1 true _ ?side1 ?side2 A29.out).mono ?_);(case side1=>exact cq (Kd.jF HR1_0.out HB.out));(case side2=>exact HC1_0.out);rintro e w35 ⟨rfl,hb⟩;refine ⟨_,rfl,?_⟩;replace BK294:=am (je (g:=gb294) (o:=.cells #[.int .i64 a0_0, .int .i64 a0_1, .int .i64 a0_2] 54 (0,0)) (kq BK294.out) hb);replace BK295:=am (je (g:=gb295) (o:=.cells #[.slice A1_0 l1_0.length c1_0] 35 (0,0)) (kq BK295.out) hb);replace HB:=am (jc (Y14) hb);(try clear hb);(try clear hb2);(try clear hk);(try clear hi);have hcz36_0:=bc0 BK294.out;have hcz36_1:=bc1 BK294.out;have hcz36_2:=bc2 BK294.out;have hfz36_0:=ja BK294.out 0;have hfz36_1:=ja BK294.out 1;have hfz36_2:=ja BK294.out 2) |(go_at_call 44;(with_reducible refine (jqa.calls a0_2 t299 _ A31.out).mono ?_);rintro e w' ⟨rfl,⟨nd,rfl⟩⟩))
       go_ret
       exact ⟨Y0,Y14⟩
      ·replace c30:=Bool.eq_false_iff.mpr c30
       subst c30
       have H1:(some false)=some r:=by rw [if_neg (show ¬ (false=true) by decide)] at H;exact H
       clear H
       have H:=H1
       clear H1
       obtain rfl:=Option.some.inj H
       have hnb37:=NB295_294.out
       have hnc37:=NB294_295.out
       have hcz38_0:=bc0 BK295.out
       have hfz38_0:=ja BK295.out 0
       have hcz39_0:=bc0 BK294.out
       have hcz39_1:=bc1 BK294.out
       have hcz39_2:=bc2 BK294.out
       have hfz39_0:=ja BK294.out 0
       have hfz39_1:=ja BK294.out 1
       have hfz39_2:=ja BK294.out 2
       go_wp2_with (first |((with_reducible refine jg (f:=43) rfl ?_);refine gL (some 34) Try.func43 #[.agg #[.slice A1_0 l1_0.length c1_0], .int .i64 a0_1] ?_;(with_reducible refine (jla.calls _ _ l1_0 a0_1 false _ ?side1 ?side2 A29.out).mono ?_);(case side1=>exact cq (Kd.jF HR1_0.out HB.out));(case side2=>exact HC1_0.out);rintro e w40 ⟨rfl,hb⟩;refine ⟨_,rfl,?_⟩;replace BK294:=am (je (g:=gb294) (o:=.cells #[.int .i64 a0_0, .int .i64 a0_1, .int .i64 a0_2] 54 (0,0)) (kq BK294.out) hb);replace BK295:=am (je (g:=gb295) (o:=.cells #[.slice A1_0 l1_0.length c1_0] 35 (0,0)) (kq BK295.out) hb);replace HB:=am (jc (Y14) hb);(try clear hb);(try clear hb2);(try clear hk);(try clear hi)))
       go_ret
       exact ⟨Y0,Y14⟩
     ·rw [if_neg c28] at H
      have c28b0:(a0_0 == 3)=false:=beq_eq_false_iff_ne.mpr c28
      have c28b1:(a0_0 != 3)=true:=bne_iff_ne.mpr c28
      obtain rfl:=Option.some.inj H
      go_wp2
      go_ret
      exact ⟨Y0,Y14⟩
theorem impl_ValidExits1_calls (k : Nat) (l : List S75) (A_ : Option Addr) (c_ : Nat) (x : S54) (b : Bool) (B : Nat) (w : World) (hr : Kd.C k75 w A_ l.length l) (hcc : l.length ≤ c_) (hc : w.cell? ⟨B, 0, none⟩ = some (.slice A_ l.length c_)) (h : ((jxa.f k x.f0 x.f1 x.f2 l).bind fun b => some (!b)) = some b) :
  Calls Try.prog 41 #[.agg #[.int .i64 x.f0, .int .i64 x.f1, .int .i64 x.f2], .pointer (some ⟨B,0,none⟩)] w fun e w'=>e=.returned (.bool b)∧Below w.heap.size w w':=by
 obtain ⟨b0,h0,h1⟩:=bzS h
 obtain rfl:=Option.some.inj h1
 have hB:B<w.heap.size:=World.block_lt_of_cell? w ⟨B,0,none⟩ hc
 have HF:=am (fun W (hb:Below w.heap.size w W)=>jxa.calls k x.f0 x.f1 x.f2 A_ c_ l b0 W (Kd.jF hr hb) hcc h0)
 have HB:=am (Below.refl w.heap.size w)
 clear h h0 h1 hr
 have hu35:=Try.underlying35
 have hu54:=Try.underlying54
 have hne:B≠w.heap.size:=by omega
 go_enter Try.func41,Try.ntmps41
 go_wp2_with (go_at_call 42;refine (HF.out _ (bq)).mono ?_;rintro e w' ⟨rfl,hb2⟩)
 go_ret
 exact ⟨rfl,jc (bq) hb2⟩
set_option maxHeartbeats 8000000 in
set_option maxRecDepth 100000 in
theorem impl_ValidExits_idx (A_ : Option Addr) (c_ : Nat) (l : List (S54)) (B0_ : Nat) (p : S54 → Option Bool) (r : Int) (w : World) (hr : Kd.C k54 w A_ l.length l) (h : idxFrom p l 0 = some r)
  (hp:∀ W,Below w.heap.size w W→∀ (x:S54) (b:Bool),p x=some b→Calls Try.prog 41 #[.agg #[.int .i64 x.f0, .int .i64 x.f1, .int .i64 x.f2], .pointer (some ⟨B0_,0,none⟩)] W fun e w'=>e=.returned (.bool b)∧Below W.heap.size W w') :
  Calls Try.prog 61 #[.slice A_ l.length c_, .func (.func 41) #[] #[.pointer (some ⟨B0_,0,none⟩)]] w fun e w'=>e=.returned (.int .i64 r)∧Below w.heap.size w w':=by
 have hm:l.length≤9223372036854775807:=Kd.C_max hr
 have HR:=am hr
 have HP:=am hp
 have H0:=am h
 clear hr hp h
 go_enter Try.func61,Try.ntmps61
 go_wp2
 go_loopw [5,8] (fun i5 i8 wr=>∃ k:Nat,k≤l.length∧i8=.int .i64 k∧jq (idxFrom p (l.drop k) k=some r)∧Below w.heap.size w wr) (fun _ i8 _=>l.length - (intOf i8).toNat)
 case atStart=>exact ⟨0,Nat.zero_le _,rfl,H0,Below.refl _ _⟩
 case round =>
  clear H0
  obtain ⟨k,hk,rfl,HA,hb⟩:=hrel
  by_cases hlt:k<l.length
  ·have HB:=am (idxFrom_step hlt HA.out)
   clear HA
   obtain ⟨ad,rfl,hx0,hx1,hx2⟩:=at_T54 HR.out (k:Int) (by omega) (by omega)
   have hrd:jN l (k:Int)=l[k]:=by simp [jN,List.getD_eq_getElem?_getD,hlt]
   replace hx0:=jha hb hx0
   replace hx1:=jha hb hx1
   replace hx2:=jha hb hx2
   rw [hrd] at hx0 hx1 hx2
   simp only [Int.toNat_natCast] at hx0 hx1 hx2
   clear hrd
   obtain ⟨b,hb1,hb0⟩:=HB.out
   have HQ:=am hb1
   clear hb1 HB
   cases b with
   | true =>
    have HZ:=am (by simpa using hb0:(k:Int)=r)
    clear hb0
    go_wp2_with (go_at_call 41;refine (HP.out _ hb _ _ HQ.out).mono ?_;rintro e w' ⟨rfl,hb2⟩)
    go_ret
    exact ⟨by rw [← HZ.out];rfl,jU hb hb.size hb2⟩
   | false =>
    have HZ:=am (by simpa using hb0:idxFrom p (l.drop (k+1)) (k+1)=some r)
    clear hb0
    go_wp2_with (go_at_call 41;refine (HP.out _ hb _ _ HQ.out).mono ?_;rintro e w' ⟨rfl,hb2⟩)
    go_roundw
    case rel=>exact ⟨k+1,hlt,by go_num,HZ,jU hb hb.size hb2⟩
    case measure=>simp [intOf];omega
  ·have HZ:=am (idxFrom_end (by omega) HA.out)
   clear HA
   go_wp2
   go_ret
   exact ⟨by rw [HZ.out];rfl,hb⟩
set_option maxHeartbeats 8000000 in
set_option maxRecDepth 100000 in
theorem impl_ValidExits_any (A_ : Option Addr) (c_ : Nat) (l : List S54) (B0_ : Nat) (p : S54 → Option Bool) (r : Int) (w : World) (hr : Kd.C k54 w A_ l.length l) (h : idxFrom p l 0 = some r)
  (hp:∀ W,Below w.heap.size w W→∀ (x:S54) (b:Bool),p x=some b→Calls Try.prog 41 #[.agg #[.int .i64 x.f0, .int .i64 x.f1, .int .i64 x.f2], .pointer (some ⟨B0_,0,none⟩)] W fun e w'=>e=.returned (.bool b)∧Below W.heap.size W w') :
  Calls Try.prog 40 #[.slice A_ l.length c_, .func (.func 41) #[] #[.pointer (some ⟨B0_,0,none⟩)]] w fun e w'=>e=.returned (.bool (decide (0≤r)))∧Below w.heap.size w w':=by
 have HF:=am (impl_ValidExits_idx A_ c_ l B0_ p r w hr h hp)
 clear hr h hp
 go_enter Try.func40,Try.ntmps40
 go_wp2_with (go_at_call 61;refine HF.out.mono ?_;rintro e w' ⟨rfl,hb2⟩)
 go_ret
 exact ⟨rfl,hb2⟩
def jxb.f (k : Nat) (l0_0 : List S75) (l1 : List S54) : Option Bool := (jA.f k l0_0).bind fun v => if v = true then (if (l1.length : Int) ≤ 8 then (idxFrom (fun x => (jxa.f k x.f0 x.f1 x.f2 l0_0).bind fun b => some (!b)) l1 0).bind fun r => some (!decide (0 ≤ r)) else some false) else some false
set_option maxHeartbeats 8000000 in
set_option maxRecDepth 100000 in
theorem jxb.calls (k : Nat) (A0_0 : Option Addr) (c0_0 : Nat) (l0_0 : List (S75)) (A1 : Option Addr) (c1 : Nat) (l1 : List (S54)) (r : Bool) (w : World) (hr0_0 : Kd.C k75 w A0_0 l0_0.length l0_0) (hc0_0 : l0_0.length ≤ c0_0) (hr1 : Kd.C k54 w A1 l1.length l1) (hc1 : l1.length ≤ c1) (h : jxb.f k l0_0 l1 = some r) :
  Calls Try.prog 24 #[.agg #[.slice A0_0 l0_0.length c0_0], .slice A1 l1.length c1] w fun e w'=>e=.returned (.bool r)∧Below w.heap.size w w':=by
 obtain ⟨v,hv,h⟩:=bzS h
 have hu35:=Try.underlying35
 have HV:=am (fun W (hb:Below w.heap.size w W)=>jA.calls k A0_0 c0_0 l0_0 v W (Kd.jF hr0_0 hb) hc0_0 hv)
 cases v with
 | false =>
  obtain rfl:false=r:=by simpa using h
  clear hv h hr0_0 hr1
  go_enter Try.func24,Try.ntmps24
  go_wp2_with (go_at_call 39;refine (HV.out _ ((Below.refl _ _).alloc (Nat.le_refl _) _)).mono ?_;rintro e w' ⟨rfl,hb2⟩)
  go_ret
  exact ⟨rfl,((Below.refl _ _).alloc (Nat.le_refl _) _).trans (hb2.mono (by simp))⟩
 | true =>
  rw [if_pos rfl] at h
  by_cases hlen:(l1.length:Int)≤8
  ·rw [if_pos hlen] at h
   have hlb:=dzT hlen
   obtain ⟨q,hq,h⟩:=bzS h
   have HZ:=am (Option.some.inj h)
   have HF:=am (fun W (hb:Below w.heap.size w W) (B:Nat) (hc:W.cell? ⟨B,0,none⟩=some (.slice A0_0 l0_0.length c0_0))=>impl_ValidExits_any A1 c1 l1 B (fun x=>(jxa.f k x.f0 x.f1 x.f2 l0_0).bind fun b=>some (!b)) q W (Kd.jF hr1 hb) hq (fun W' hb' x b hx =>
    impl_ValidExits1_calls k l0_0 A0_0 c0_0 x b B W' (Kd.jF (Kd.jF hr0_0 hb) hb') hc0_0 (jha hb' hc) hx))
   clear hv h hq hr0_0 hr1 hlen
   go_enter Try.func24,Try.ntmps24
   go_wp2_with (first |(go_at_call 39;refine (HV.out _ ((Below.refl _ _).alloc (Nat.le_refl _) _)).mono ?_;rintro e w1 ⟨rfl,hb2⟩;have hb1:=((Below.refl w.heap.size w).alloc (Nat.le_refl _) (.cells #[.slice A0_0 l0_0.length c0_0] 35)).trans (hb2.mono (by simp));have hcell:=jha hb2 (show (w.alloc (.cells #[.slice A0_0 l0_0.length c0_0] 35)).cell? ⟨w.heap.size,0,none⟩=some (.slice A0_0 l0_0.length c0_0) by simp)) |(go_at_call 40;refine (HF.out _ hb1 _ hcell).mono ?_;rintro e w2 ⟨rfl,hb3⟩))
   go_ret
   exact ⟨by rw [← HZ.out];rfl,jU hb1 hb1.size hb3⟩
  ·rw [if_neg hlen] at h
   obtain rfl:=Option.some.inj h
   have hlb:=dzF hlen
   clear hv hr0_0 hr1 hlen
   go_enter Try.func24,Try.ntmps24
   go_wp2_with (go_at_call 39;refine (HV.out _ ((Below.refl _ _).alloc (Nat.le_refl _) _)).mono ?_;rintro e w' ⟨rfl,hb2⟩)
   go_ret
   exact ⟨rfl,((Below.refl _ _).alloc (Nat.le_refl _) _).trans (hb2.mono (by simp))⟩
theorem eqA39 (d : Nat) (w : World) (x0 y0 : Bool) (x1 y1 : Int) (x2 y2 : Int) :
  (Op.equalIn (d+2) 39 (.agg #[.bool x0, .int .i64 x1, .int .i64 x2]) (.agg #[.bool y0, .int .i64 y1, .int .i64 y2])).run Try.prog w=.ok (x0 == y0 && (x1 == y1 && (x2 == y2))) w:=by
 refine eqA_of Try.underlying39 (by kernel_rfl) ?_
 refine eqf_cons (by rfl) (by go_simp;rfl) (by go_simp;rfl) (by go_simp) ?_
 refine eqf_cons (by rfl) (by go_simp;rfl) (by go_simp;rfl) (by go_simp) ?_
 exact eqf_last (by rfl) (by go_simp;rfl) (by go_simp;rfl) (by go_simp)
attribute [local go_sem high] eqA39
def job.f (a0_0 : Bool) (a0_1 : Int) (a0_2 : Int) (l1_0 : List (S75)) : Option (Bool) := if a0_0 = true then ((jla.f l1_0 a0_1).bind fun t302 => (if t302 = true then ((jqa.f a0_2).bind fun t303 => (some t303)) else (some false))) else (some (!a0_0 && (a0_1 == 0 && (a0_2 == 0))))
set_option maxHeartbeats 8000000 in
set_option maxRecDepth 100000 in
theorem job.calls (a0_0 : Bool) (a0_1 : Int) (a0_2 : Int) (A1_0 : Option Addr) (c1_0 : Nat) (l1_0 : List (S75)) (r : Bool) (w : World) (hr1_0 : Kd.C k75 w A1_0 l1_0.length l1_0) (hc1_0 : l1_0.length ≤ c1_0) (h : job.f a0_0 a0_1 a0_2 l1_0 = some r) :
  Calls Try.prog 25 #[.agg #[.bool a0_0, .int .i64 a0_1, .int .i64 a0_2], .agg #[.slice A1_0 l1_0.length c1_0]] w fun e w'=>e=.returned (.bool r)∧Below w.heap.size w w':=by
 have hu39:=Try.underlying39
 have hu35:=Try.underlying35
 have HR1_0:=am hr1_0
 have HC1_0:=am hc1_0
 clear hr1_0 hc1_0
 have HB:=am (Below.refl w.heap.size w)
 have H:(if a0_0=true then ((jla.f l1_0 a0_1).bind fun t302=>(if t302=true then ((jqa.f a0_2).bind fun t303=>(some t303)) else (some false))) else (some (!a0_0 && (a0_1 == 0 && (a0_2 == 0)))))=some r:=h
 clear h
 by_cases c3:a0_0=true
 ·subst c3
  have H1:((jla.f l1_0 a0_1).bind fun t302=>(if t302=true then ((jqa.f a0_2).bind fun t303=>(some t303)) else (some false)))=some r:=by rw [if_pos rfl] at H;exact H
  clear H
  have H:=H1
  clear H1
  replace H:=bzS H
  obtain ⟨t302,A40,H⟩:=H
  replace H:(if t302=true then ((jqa.f a0_2).bind fun t303=>(some t303)) else (some false))=some r:=H
  have A4:=am A40
  clear A40
  by_cases c5:t302=true
  ·subst c5
   have H1:((jqa.f a0_2).bind fun t303=>(some t303))=some r:=by rw [if_pos rfl] at H;exact H
   clear H
   have H:=H1
   clear H1
   replace H:=bzS H
   obtain ⟨t303,A60,H⟩:=H
   replace H:(some t303)=some r:=H
   have A6:=am A60
   clear A60
   obtain rfl:=Option.some.inj H
   go_enter Try.func25,Try.ntmps25
   go_wp2_with (first |((with_reducible refine jB (N:=2) rfl ?_);refine bE (N:=2) (cs:=#[.bool true, .int .i64 a0_1, .int .i64 a0_2]) (t:=39) ?_;intro gb300 hg w7 hbox hb;have BK300:=am (hbox);have GW300:=am ((Y1:w.heap.size≤gb300));have GE300:=am ((Y1:w.heap.size≤gb300));replace HB:=am (jc (bq) hb);clear hb hbox hg) |((with_reducible refine jB (N:=3) rfl ?_);refine bE (N:=3) (cs:=#[.slice A1_0 l1_0.length c1_0]) (t:=35) ?_;intro gb301 hg w8 hbox hb;have BK301:=am (hbox);have GW301:=am ((Y27:w.heap.size≤gb301));have GE301:=am ((Y27:w.heap.size≤gb301));have NB300_301:=am ((Y87:gb300≠gb301));have NB301_300:=am ((Y88:gb301≠gb300));replace BK300:=am (je (g:=gb300) (o:=.cells #[.bool true, .int .i64 a0_1, .int .i64 a0_2] 39 (0,0)) (kq BK300.out) hb);replace HB:=am (jc (Y60) hb);clear hb hbox hg;have hnb9:=NB300_301.out;have hnc9:=NB301_300.out;have hcz10_0:=bc0 BK300.out;have hcz10_1:=bc1 BK300.out;have hcz10_2:=bc2 BK300.out;have hfz10_0:=ja BK300.out 0;have hfz10_1:=ja BK300.out 1;have hfz10_2:=ja BK300.out 2;have hcz11_0:=bc0 BK301.out;have hfz11_0:=ja BK301.out 0) |((with_reducible refine jg (f:=43) rfl ?_);refine gL (some 14) Try.func43 #[.agg #[.slice A1_0 l1_0.length c1_0], .int .i64 a0_1] ?_;(with_reducible refine (jla.calls _ _ l1_0 a0_1 true _ ?side1 ?side2 A4.out).mono ?_);(case side1=>exact cq (Kd.jF HR1_0.out HB.out));(case side2=>exact HC1_0.out);rintro e w12 ⟨rfl,hb⟩;refine ⟨_,rfl,?_⟩;replace BK300:=am (je (g:=gb300) (o:=.cells #[.bool true, .int .i64 a0_1, .int .i64 a0_2] 39 (0,0)) (kq BK300.out) hb);replace BK301:=am (je (g:=gb301) (o:=.cells #[.slice A1_0 l1_0.length c1_0] 35 (0,0)) (kq BK301.out) hb);replace HB:=am (jc (Y31) hb);(try clear hb);(try clear hb2);(try clear hk);(try clear hi);have hcz13_0:=bc0 BK300.out;have hcz13_1:=bc1 BK300.out;have hcz13_2:=bc2 BK300.out;have hfz13_0:=ja BK300.out 0;have hfz13_1:=ja BK300.out 1;have hfz13_2:=ja BK300.out 2) |(go_at_call 44;(with_reducible refine (jqa.calls a0_2 t303 _ A6.out).mono ?_);rintro e w' ⟨rfl,⟨nd,rfl⟩⟩))
   go_ret
   exact ⟨Y0,Y31⟩
  ·replace c5:=Bool.eq_false_iff.mpr c5
   subst c5
   have H1:(some false)=some r:=by rw [if_neg (show ¬ (false=true) by decide)] at H;exact H
   clear H
   have H:=H1
   clear H1
   obtain rfl:=Option.some.inj H
   go_enter Try.func25,Try.ntmps25
   go_wp2_with (first |((with_reducible refine jB (N:=2) rfl ?_);refine bE (N:=2) (cs:=#[.bool true, .int .i64 a0_1, .int .i64 a0_2]) (t:=39) ?_;intro gb300 hg w14 hbox hb;have BK300:=am (hbox);have GW300:=am ((Y1:w.heap.size≤gb300));have GE300:=am ((Y1:w.heap.size≤gb300));replace HB:=am (jc (bq) hb);clear hb hbox hg) |((with_reducible refine jB (N:=3) rfl ?_);refine bE (N:=3) (cs:=#[.slice A1_0 l1_0.length c1_0]) (t:=35) ?_;intro gb301 hg w15 hbox hb;have BK301:=am (hbox);have GW301:=am ((Y27:w.heap.size≤gb301));have GE301:=am ((Y27:w.heap.size≤gb301));have NB300_301:=am ((Y87:gb300≠gb301));have NB301_300:=am ((Y88:gb301≠gb300));replace BK300:=am (je (g:=gb300) (o:=.cells #[.bool true, .int .i64 a0_1, .int .i64 a0_2] 39 (0,0)) (kq BK300.out) hb);replace HB:=am (jc (Y60) hb);clear hb hbox hg;have hnb16:=NB300_301.out;have hnc16:=NB301_300.out;have hcz17_0:=bc0 BK300.out;have hcz17_1:=bc1 BK300.out;have hcz17_2:=bc2 BK300.out;have hfz17_0:=ja BK300.out 0;have hfz17_1:=ja BK300.out 1;have hfz17_2:=ja BK300.out 2;have hcz18_0:=bc0 BK301.out;have hfz18_0:=ja BK301.out 0) |((with_reducible refine jg (f:=43) rfl ?_);refine gL (some 14) Try.func43 #[.agg #[.slice A1_0 l1_0.length c1_0], .int .i64 a0_1] ?_;(with_reducible refine (jla.calls _ _ l1_0 a0_1 false _ ?side1 ?side2 A4.out).mono ?_);(case side1=>exact cq (Kd.jF HR1_0.out HB.out));(case side2=>exact HC1_0.out);rintro e w19 ⟨rfl,hb⟩;refine ⟨_,rfl,?_⟩;replace BK300:=am (je (g:=gb300) (o:=.cells #[.bool true, .int .i64 a0_1, .int .i64 a0_2] 39 (0,0)) (kq BK300.out) hb);replace BK301:=am (je (g:=gb301) (o:=.cells #[.slice A1_0 l1_0.length c1_0] 35 (0,0)) (kq BK301.out) hb);replace HB:=am (jc (Y31) hb);(try clear hb);(try clear hb2);(try clear hk);(try clear hi)))
   go_ret
   exact ⟨Y0,Y31⟩
 ·replace c3:=Bool.eq_false_iff.mpr c3
  subst c3
  have H1:(some (!false && (a0_1 == 0 && (a0_2 == 0))))=some r:=by rw [if_neg (show ¬ (false=true) by decide)] at H;exact H
  clear H
  have H:=H1
  clear H1
  obtain rfl:=Option.some.inj H
  go_enter Try.func25,Try.ntmps25
  go_wp2_with (first |((with_reducible refine jB (N:=2) rfl ?_);refine bE (N:=2) (cs:=#[.bool false, .int .i64 a0_1, .int .i64 a0_2]) (t:=39) ?_;intro gb300 hg w20 hbox hb;have BK300:=am (hbox);have GW300:=am ((Y1:w.heap.size≤gb300));have GE300:=am ((Y1:w.heap.size≤gb300));replace HB:=am (jc (bq) hb);clear hb hbox hg) |((with_reducible refine jB (N:=3) rfl ?_);refine bE (N:=3) (cs:=#[.slice A1_0 l1_0.length c1_0]) (t:=35) ?_;intro gb301 hg w21 hbox hb;have BK301:=am (hbox);have GW301:=am ((Y27:w.heap.size≤gb301));have GE301:=am ((Y27:w.heap.size≤gb301));have NB300_301:=am ((by rw [hg];exact Nat.ne_of_lt (jza (g:=gb300) (o:=.cells #[.bool false, .int .i64 a0_1, .int .i64 a0_2] 39 (0,0)) (kq BK300.out)):gb300≠gb301));have NB301_300:=am ((by rw [hg];exact Nat.ne_of_gt (jza (g:=gb300) (o:=.cells #[.bool false, .int .i64 a0_1, .int .i64 a0_2] 39 (0,0)) (kq BK300.out)):gb301≠gb300));replace BK300:=am (je (g:=gb300) (o:=.cells #[.bool false, .int .i64 a0_1, .int .i64 a0_2] 39 (0,0)) (kq BK300.out) hb);replace HB:=am (jc (Y60) hb);clear hb hbox hg;have hnb22:=NB300_301.out;have hnc22:=NB301_300.out;have hcz23_0:=bc0 BK300.out;have hcz23_1:=bc1 BK300.out;have hcz23_2:=bc2 BK300.out;have hfz23_0:=ja BK300.out 0;have hfz23_1:=ja BK300.out 1;have hfz23_2:=ja BK300.out 2))
  go_ret
  exact ⟨Y0,Y31⟩

set_option maxHeartbeats 8000000 in
set_option maxRecDepth 100000 in
theorem slices_Grow_Line.calls (n : Nat) (w : World) (hn : n < 4398046511104) :
  Calls Try.prog 62 #[.slice none 0 0, .int .i64 n] w fun e w'=>∃ v,e=.returned v∧Kd.R k51 51 w' w.heap.size (fun _=>True) v []∧Below w.heap.size w w':=by
 have hn0:¬ ((n:Int)<0):=by omega
 have hn0b:=dzF hn0
 have hw:wrap64 ((n:Int) - 0)=n:=by unfold wrap64;omega
 by_cases h0:n=0
 ·subst h0
  go_enter Try.func62,Try.ntmps62
  go_wp2
  go_ret
  exact ⟨_,rfl,Kd.R_nil _ _ _ _ _,Below.refl _ _⟩
 ·have hp:(n:Int) > 0:=by omega
  have hpb:=dzT hp
  go_enter Try.func62,Try.ntmps62
  go_wp2_with (at_builtin;refine Kd.R_append_zeros k51 (w0:=w) w.heap.size rfl (.tmp 20) (.tmp 21) 30 3 51 (.agg #[(.int .i64 0),(.int .i64 0),(.int .i64 0),(.int .i64 0)]) 32 rfl Try.underlying30 Try.underlying3 info51 rfl (by decide) (by omega) (.slice none 0 0) [] (⟨0,0,0,0⟩:S51) (kx:=.i64) (n:Int) (fun _=>True) rfl rfl (jfb _ _ _ (⟨0,0,0,0⟩:S51)) (fun _ _=>trivial) (Kd.R_nil _ _ _ _ _) (by omega) (Below.refl _ _) (Nat.le_refl _) (by simp;omega) ?_;intro v1 w1 ho hb hg hat;obtain ⟨ad,c,rfl⟩:=Kd.R_slice1 ho (by simp;omega);simp only [List.nil_append,List.length_replicate,Int.toNat_natCast] at ho ⊢;have hz:=Kd.R_take (m:=0) ho (by simp))
  go_ret
  exact ⟨_,rfl,by simpa using hz,hb⟩
theorem jrc {α : Type} {l : List (List α)} {i : Nat} (h : i < l.length) : (l.take (i + 1)).flatten = (l.take i).flatten ++ l[i] := by
 rw [List.take_succ_eq_append_getElem h,List.flatten_append];simp
theorem flat_leLine {α : Type} (l : List (List α)) (i : Nat) : (l.take i).flatten.length ≤ l.flatten.length := by
 conv=>rhs;rw [← List.take_append_drop i l,List.flatten_append]
 rw [List.length_append];omega
theorem at_rowsLine {α : Type} {e : Nat} {d : Kd α} {w : World} {A : Option Addr} {l : List (List α)} (h : Kd.C (Kd.slice e d) w A l.length l) {i : Nat} (hi : i < l.length) :
  ∃ ad,A=some ad∧∃ B c,w.cell? (ad.add i)=some (.slice B l[i].length c)∧l[i].length≤c∧Kd.C d w B l[i].length l[i]:=by
 obtain ⟨ad,e,hc⟩:=h.2.2 (by omega)
 obtain ⟨c,hs,⟨B,c2,rfl,h1,h2⟩,hcell⟩:=hc i _ (List.getElem?_eq_getElem hi)
 refine ⟨ad,e,B,c2,?_,h1,h2⟩
 have:=hcell 0 _ rfl
 simpa [Kd.slice] using this
def jQa.f (l0 : List (List S51)) : Option (List S51) := if l0.flatten.length < 4398046511104 then some l0.flatten else none
set_option maxHeartbeats 8000000 in
set_option maxRecDepth 100000 in
theorem jQa.calls (A0 : Option Addr) (c0 : Nat) (l0 : List (List S51)) (r : List S51) (w : World) (hr0 : Kd.C (Kd.slice 51 k51) w A0 l0.length l0) (hc0 : l0.length ≤ c0) (h : jQa.f l0 = some r) :
  Calls Try.prog 46 #[.slice A0 l0.length c0] w fun e w'=>∃ v0_:Value,e=.returned v0_∧Kd.R k51 51 w' w.heap.size (fun _=>True) v0_ r∧Below w.heap.size w w':=by
 unfold jQa.f at h
 by_cases hlen:l0.flatten.length<4398046511104
 case neg=>rw [if_neg hlen] at h;cases h
 rw [if_pos hlen] at h
 obtain rfl:=Option.some.inj h
 clear h
 have hm:l0.length≤9223372036854775807:=Kd.C_max hr0
 have HR:=am hr0
 have HL:=am hlen
 clear hr0 hlen
 go_enter Try.func46,Try.ntmps46
 go_wp2
 go_loopw [3,11] (fun v3 v11 wr=>∃ i s:Nat,i≤l0.length∧v11=.int .i64 i∧v3=.int .i64 (s:Nat)∧w=wr∧jq ((l0.take i).flatten.length=s)) (fun _ v11 _=>l0.length - (intOf v11).toNat)
 case atStart=>exact ⟨0,0,Nat.zero_le _,rfl,rfl,rfl,⟨rfl⟩⟩
 case round =>
  obtain ⟨i,s,hi,rfl,rfl,rfl,HS⟩:=hrel
  by_cases hlt:i<l0.length
  ·obtain ⟨ad,rfl,B,cB,hcell,hcl,hC⟩:=at_rowsLine HR.out hlt
   have hb1:s+l0[i].length<4398046511104:=by
    have h1:=flat_leLine l0 (i+1)
    have h2:=HL.out
    have h3:=HS.out
    rw [jrc hlt,List.length_append] at h1
    omega
   have HS2:=am (show (l0.take (i+1)).flatten.length=s+l0[i].length by rw [jrc hlt,List.length_append,HS.out])
   clear hC HS
   obtain ⟨m,hmm⟩:∃ m,l0[i].length=m:=⟨_,rfl⟩
   rw [hmm] at hcell hb1 HS2 hcl
   clear hmm hcl
   have e1:wrap64 ((s:Int)+(m:Int))=(s:Int)+(m:Int):=by unfold wrap64;omega
   have n1:¬ ((s:Int)+(m:Int)<0):=by omega
   have n1b:=dzF n1
   go_wp2
   go_roundw
   case rel=>exact ⟨i+1,s+m,hlt,by go_num,by go_num,by first | trivial | rfl,HS2⟩
   case measure=>simp [intOf];omega
  ·obtain rfl:i=l0.length:=by omega
   have e0:l0.flatten.length=s:=by rw [← HS.out,List.take_of_length_le (Nat.le_refl _)]
   have HG:=am (slices_Grow_Line.calls s w (by rw [← e0];exact HL.out))
   have HE:=am e0
   clear e0 HS
   go_wp2_with (go_at_call 62;refine HG.out.mono ?_;rintro e w1 ⟨vg,rfl,hR,hB⟩;have HV:=am hR;have HB:=am hB;clear hR hB)
   go_loopw [6,27] (fun v6 v27 wr=>∃ i:Nat,i≤l0.length∧v27=.int .i64 i∧jq (Kd.R k51 51 wr w.heap.size (fun _=>True) v6 (l0.take i).flatten)∧jq (Below w.heap.size w wr)) (fun _ v27 _=>l0.length - (intOf v27).toNat)
   case atStart=>exact ⟨0,Nat.zero_le _,rfl,⟨HV.out⟩,HB⟩
   case round =>
    clear HV HB
    obtain ⟨i,hi,rfl,HV,HB⟩:=hrel
    by_cases hlt:i<l0.length
    ·obtain ⟨ad,rfl,B,cB,hcell,hcl,hC⟩:=at_rowsLine HR.out hlt
     have HC:=am (Kd.jF hC HB.out)
     replace hcell:=(HB.out.cell (World.block_lt_of_cell? w _ hcell)).trans hcell
     have hl:(l0.take i).flatten.length+l0[i].length≤4398046511104:=by
      have h1:=flat_leLine l0 (i+1)
      have h2:=HL.out
      rw [jrc hlt,List.length_append] at h1
      omega
     have HLE:=am hl
     have HF:=am (jrc hlt)
     obtain ⟨x,hx⟩:∃ x,l0[i]=x:=⟨_,rfl⟩
     obtain ⟨y,hy⟩:∃ y,(l0.take i).flatten=y:=⟨_,rfl⟩
     rw [hx] at hcell HC HLE HF
     rw [hy] at HV HLE HF
     clear hC hcl hl hx hy
     go_wp2_with (at_builtin;refine Kd.jPb k51 (w0:=w) w.heap.size rfl (.tmp 31) (.tmp 32) 30 51 (.agg #[(.int .i64 0),(.int .i64 0),(.int .i64 0),(.int .i64 0)]) 32 rfl Try.underlying30 info51 rfl (by decide) (by omega) _ y x _ _ _ (fun _=>True) (fun _=>False) rfl rfl HV.out HC.out (fun _ _ h=>h) (fun _ h=>h.elim) (fun _ _=>trivial) HB.out (jv HB.out) (by have:=HLE.out;omega) ?_;intro v1 w2 ho hb hg hat;have HV2:=am ho;have HB2:=am hb;clear ho hb hg hat)
     go_roundw
     case rel=>exact ⟨i+1,hlt,by go_num,⟨by rw [HF.out];exact HV2.out⟩,HB2⟩
     case measure=>simp [intOf];omega
    ·obtain rfl:i=l0.length:=by omega
     have HV2:=am (show Kd.R k51 51 wr w.heap.size (fun _=>True) _ l0.flatten by have:=HV.out;rw [List.take_of_length_le (Nat.le_refl _)] at this;exact this)
     clear HV
     go_wp2
     go_ret
     exact ⟨_,rfl,HV2.out,HB.out⟩
def jTa.l0 : Nat → List (S51) → List (S51) → Int → Int → Option ((List (S51)))
 | 0,_,_,_,_=>none
 | k+1,x3,x14,x15,x16=>if x16<x15 then (if 0≤x16 then (if x16<(x14.length:Int) then (if x3.length<4398046511104 then (jTa.l0 k (x3 ++ [(⟨wrap64 (((jd x14 x16).f0)+1),(jd x14 x16).f1,(jd x14 x16).f2,(jd x14 x16).f3⟩:S51)]) x14 x15 (wrap64 (x16+1))) else (none)) else (none)) else (none)) else (some x3)
def jTa.f (k : Nat) (l0 : List (S51)) : Option ((List (S51))) := if (l0.length : Int) = 0 then (some (([(⟨1, 0, 0, 0⟩ : S51)] : List (S51)))) else (if 0 ≤ (l0.length : Int) then (if ((l0.length : Int) : Int).toNat ≤ 8796093022208 then (jTa.l0 k (([] : List (S51))) l0 (l0.length : Int) 0) else (none)) else (none))
set_option maxHeartbeats 8000000 in
set_option maxRecDepth 100000 in
theorem jTa.calls (k : Nat) (A0 : Option Addr) (c0 : Nat) (l0 : List (S51)) (r : List (S51)) (w : World) (hr0 : Kd.C k51 w A0 l0.length l0) (hc0 : l0.length ≤ c0) (h : jTa.f k l0 = some r) :
  Calls Try.prog 47 #[.slice A0 l0.length c0] w fun e w'=>∃ v0_:Value,e=.returned (v0_)∧Kd.R k51 51 w' w.heap.size (fun _=>True) v0_ r∧Below w.heap.size w w':=by
 have hu51:=Try.underlying51
 have HR0:=am hr0
 have HC0:=am hc0
 clear hr0 hc0
 have HB:=am (Below.refl w.heap.size w)
 have H:(if (l0.length:Int)=0 then (some (([(⟨1,0,0,0⟩:S51)]:List (S51)))) else (if 0≤(l0.length:Int) then (if ((l0.length:Int):Int).toNat≤8796093022208 then (jTa.l0 k (([]:List (S51))) l0 (l0.length:Int) 0) else (none)) else (none)))=some r:=h
 clear h
 by_cases c2:(l0.length:Int)=0
 ·rw [if_pos c2] at H
  have c2b0:((l0.length:Int) == 0)=true:=beq_iff_eq.mpr c2
  have c2b1:((l0.length:Int) != 0)=false:=bne_eq_false_iff_eq.mpr c2
  clear c2
  obtain ⟨y304,hy304⟩:∃ y_:List (S51),y_=(([(⟨1,0,0,0⟩:S51)]:List (S51))):=⟨_,rfl⟩
  replace H:(some y304)=some r:=by first |(rw [hy304];with_reducible exact H) |(have H2_:=(Option.bind_some _ _).symm.trans H;rw [hy304];with_reducible exact H2_) |(have H2_:=(Option.bind_some _ _).symm.trans H;with_reducible exact H2_) | with_reducible exact H |(rw [hy304];exact H) | exact H
  have Ny304:=am hy304
  clear hy304
  obtain rfl:=Option.some.inj H
  go_enter Try.func47,Try.ntmps47
  go_wp2_with (first |((with_reducible refine jB (N:=10) rfl ?_);refine Kd.R_lit k51 _ 51 ?hg (N:=10) ?hd (xs:=([(⟨1,0,0,0⟩:S51)]:List (S51))) (inner:=[.int .i64 1, .int .i64 0, .int .i64 0, .int .i64 0]) (ok:=fun _=>True) (okp:=fun _=>True) ?hr ?hp (fun _ hk=>hk) trivial (Below.refl _ _) (Nat.le_refl _) (by simp) ?_;(case hd=>rfl);(case hg=>rfl);(case hr=>exact Y4);(case hp=>exact (Reps.c4 (show Kd.M k51 _ _ _ (⟨1,0,0,0⟩:S51) [.int .i64 1, .int .i64 0, .int .i64 0, .int .i64 0] from (jfb _ _ _ (⟨1,0,0,0⟩:S51) )) (Reps.none _ _)));intro v305 w3 ho4 hb hg_ hnew_;clear hg_ hnew_;(first | rw [← Ny304.out] at ho4 |(simp only [Int.reduceToNat] at ho4;rw [← Ny304.out] at ho4));have HO306:=am (Kd.jra ho4 (jv (bq)));replace HB:=am (jc (bq) hb);clear hb ho4))
  go_ret
  exact ⟨_,Y0,rq HO306.out,bq⟩
 ·rw [if_neg c2] at H
  have c2b0:((l0.length:Int) == 0)=false:=beq_eq_false_iff_ne.mpr c2
  have c2b1:((l0.length:Int) != 0)=true:=bne_iff_ne.mpr c2
  have c2b2:¬ (l0=[]):=fun h_=>c2 (by rw [h_];rfl)
  by_cases c5:0≤(l0.length:Int)
  ·rw [if_pos c5] at H
   have c5b0:=ezT c5
   have c5b1:decide (0≤(l0.length:Int))=true:=dzT c5
   clear c5
   by_cases c6:((l0.length:Int):Int).toNat≤8796093022208
   ·rw [if_pos c6] at H
    have c6b0:=ezT c6
    have c6b1:decide (((l0.length:Int):Int).toNat≤8796093022208)=true:=dzT c6
    clear c6
    obtain ⟨y307,hy307⟩:∃ y_:List (S51),y_=(([]:List (S51))):=⟨_,rfl⟩
    replace H:(jTa.l0 k y307 l0 (l0.length:Int) 0)=some r:=by first |(rw [hy307];with_reducible exact H) |(have H2_:=(Option.bind_some _ _).symm.trans H;rw [hy307];with_reducible exact H2_) |(have H2_:=(Option.bind_some _ _).symm.trans H;with_reducible exact H2_) | with_reducible exact H |(rw [hy307];exact H) | exact H
    have Ny307:=am hy307
    clear hy307
    have H':=am H
    clear H
    go_enter Try.func47,Try.ntmps47
    go_wp2_with (first |((with_reducible refine jB (N:=13) rfl ?_);refine Kd.R_mkcap k51 _ 51 rfl (N:=13) rfl 30 _ _ rfl (l0.length:Int) rfl rfl Try.underlying30 (.agg #[(.int .i64 0),(.int .i64 0),(.int .i64 0),(.int .i64 0)]) 32 info51 rfl (by decide) (by omega) (ok:=fun _=>True) trivial (ozD (uq)) (Nat.le_trans (Nat.mul_le_mul_right _ (ozD (uq):(l0.length:Int).toNat≤8796093022208)) (by omega)) (Below.refl _ _) (Nat.le_refl _) ?_;intro v308 w7 ho8 hb hg_ hnew_;clear hg_ hnew_;(first | rw [← Ny307.out] at ho8 |(simp only [Int.reduceToNat] at ho8;rw [← Ny307.out] at ho8));have HO309:=am (Kd.jra ho8 (jv (bq)));replace HB:=am (jc (bq) hb);clear hb ho8))
    go_loopg [3,16] k (fun kq v3 v16 w'=>∃ (x3_1:List (S51)) (x16_1:Int),v16=.int .i64 x16_1∧jq (jTa.l0 kq x3_1 l0 (l0.length:Int) x16_1=some r)∧jq (kq≤k)∧jq (Kd.R k51 51 w' w.heap.size (fun _=>True) v3 x3_1)∧jq (Below w.heap.size w w'))
    case atStart=>exact ⟨(y307),(0),(sq),H',⟨Nat.le_refl _⟩,⟨rq HO309.out⟩,⟨bq⟩⟩
    case round =>
     clear H'
     try clear c2
     try clear c2b0
     try clear c2b1
     try clear c2b2
     try clear p2
     try clear c4
     try clear c5
     try clear c5b0
     try clear c5b1
     try clear c6
     try clear c6b0
     try clear c6b1
     obtain ⟨x3_1,x16_1,rfl,HA,HK1,HO_3,HB⟩:=hrel
     cases gk with
     | zero=>exact absurd HA.out (by simp [jTa.l0])
     | succ k1 =>
      have H:=HA.out
      clear HA
      simp only [jTa.l0] at H
      by_cases c9:x16_1<(l0.length:Int)
      ·rw [if_pos c9] at H
       have c9b0:decide (x16_1<(l0.length:Int))=true:=dzT c9
       clear c9
       by_cases c10:0≤x16_1
       ·rw [if_pos c10] at H
        have c10b0:decide (0≤x16_1)=true:=dzT c10
        clear c10
        by_cases c11:x16_1<(l0.length:Int)
        ·rw [if_pos c11] at H
         have c11b0:decide (x16_1<(l0.length:Int))=true:=dzT c11
         clear c11
         by_cases c12:x3_1.length<4398046511104
         ·rw [if_pos c12] at H
          have LMc12:=am c12
          clear c12
          obtain ⟨y312,hy312⟩:∃ y_:List (S51),y_=(x3_1 ++ [(⟨wrap64 (((jd l0 x16_1).f0)+1),(jd l0 x16_1).f1,(jd l0 x16_1).f2,(jd l0 x16_1).f3⟩:S51)]):=⟨_,rfl⟩
          replace H:(jTa.l0 k1 y312 l0 (l0.length:Int) (wrap64 (x16_1+1)))=some r:=by first |(rw [hy312];with_reducible exact H) |(have H2_:=(Option.bind_some _ _).symm.trans H;rw [hy312];with_reducible exact H2_) |(have H2_:=(Option.bind_some _ _).symm.trans H;with_reducible exact H2_) | with_reducible exact H |(rw [hy312];exact H) | exact H
          have Ny312:=am hy312
          clear hy312
          have H':=am H
          clear H
          have p310:0≤(x16_1:Int):=ozD (uq)
          have q310:x16_1<(l0.length:Int):=ozD (uq)
          obtain ⟨ad310,e310,hx310_0,hx310_1,hx310_2,hx310_3⟩:=jAa HR0.out x16_1 p310 q310
          cases e310
          replace hx310_0:=cb HB.out hx310_0
          replace hx310_1:=cb HB.out hx310_1
          replace hx310_2:=cb HB.out hx310_2
          replace hx310_3:=cb HB.out hx310_3
          replace p310:=ezT p310
          replace q310:=ezT q310
          go_wp2_with (first |((with_reducible refine jB (N:=5) rfl ?_);refine bE (N:=5) (cs:=#[.int .i64 0, .int .i64 0, .int .i64 0, .int .i64 0]) (t:=51) ?_;intro gb311 hg w13 hbox hb;have BK311:=am (hbox);have GW311:=am ((Y1:w.heap.size≤gb311));have GE311:=am ((Y1:w.heap.size≤gb311));replace HO_3:=am (Kd.jH (Kd.R_elderB (rq HO_3.out) gb311 (Nat.le_of_eq hg.symm)) hb);replace HB:=am (jc (bq) hb);clear hb hbox hg;have hcz14_0:=bc0 BK311.out;have hcz14_1:=bc1 BK311.out;have hcz14_2:=bc2 BK311.out;have hcz14_3:=bc3 BK311.out;have hfz14_0:=ja BK311.out 0;have hfz14_1:=ja BK311.out 1;have hfz14_2:=ja BK311.out 2;have hfz14_3:=ja BK311.out 3) |((with_reducible refine jgb (b:=.append) (xs:=#[.tmp 24, .tmp 26]) rfl ?_);at_builtin;refine Kd.R_append k51 (w0:=w) w.heap.size rfl (.tmp 24) (.tmp 26) 30 51 (.agg #[(.int .i64 0),(.int .i64 0),(.int .i64 0),(.int .i64 0)]) 32 rfl Try.underlying30 info51 rfl (by decide) (by omega) u3 x3_1 (⟨wrap64 (((jd l0 x16_1).f0)+1),(jd l0 x16_1).f1,(jd l0 x16_1).f2,(jd l0 x16_1).f3⟩:S51) [.int .i64 (wrap64 (((jd l0 x16_1).f0)+1)), .int .i64 ((jd l0 x16_1).f1), .int .i64 ((jd l0 x16_1).f2), .int .i64 ((jd l0 x16_1).f3)] (fun k_=>k_≠gb311) (fun _=>False) rfl (Y4) ?aP (fun _ hk=>hk.elim) ?aF ?aO ?aB ?aS ?aL ?_;(case aP=>exact jfb _ _ _ (⟨wrap64 (((jd l0 x16_1).f0)+1),(jd l0 x16_1).f1,(jd l0 x16_1).f2,(jd l0 x16_1).f3⟩:S51));(case aB=>exact (Y61));(case aF=>exact (fun k_ hk=>Kd.freshB (g:=gb311) (o:=.cells #[.int .i64 (wrap64 (((jd l0 x16_1).f0)+1)), .int .i64 ((jd l0 x16_1).f1), .int .i64 ((jd l0 x16_1).f2), .int .i64 ((jd l0 x16_1).f3)] 51 (0,0)) (Y89) k_ hk));(case aO=>exact (by (with_reducible repeat (first | apply Kd.jGa | apply Kd.jKa | apply Kd.jLa));exact Kd.jca (Kd.R_far (p:=⟨gb311,0,none⟩) (Kd.R_far (p:=⟨gb311,3,none⟩) (Kd.R_far (p:=⟨gb311,2,none⟩) (Kd.R_far (p:=⟨gb311,1,none⟩) (Kd.R_far (p:=⟨gb311,0,none⟩) (Kd.jca HO_3.out (fun k_ hk=>(⟨hk,hk.2⟩:_∧k_≠gb311))) (fun _ hk=>hk.2) (.int .i64 ((jd l0 x16_1).f0))) (fun _ hk=>hk.2) (.int .i64 ((jd l0 x16_1).f1))) (fun _ hk=>hk.2) (.int .i64 ((jd l0 x16_1).f2))) (fun _ hk=>hk.2) (.int .i64 ((jd l0 x16_1).f3))) (fun _ hk=>hk.2) (.int .i64 (wrap64 (((jd l0 x16_1).f0)+1)))) (fun _ hk=>hk.1.2)));(case aS=>exact (jv (Y61)));(case aL=>have:=LMc12.out;omega);intro v313 w15 ho hb hg hat;rw [← Ny312.out] at ho;have n0_:=am (jvc (g:=gb311) (o:=.cells #[.int .i64 (wrap64 (((jd l0 x16_1).f0)+1)), .int .i64 ((jd l0 x16_1).f1), .int .i64 ((jd l0 x16_1).f2), .int .i64 ((jd l0 x16_1).f3)] 51 (0,0)) (Y89) hg (Kd.R_away HO_3.out (fun _ hk=>hk.2)));have n1_:=am (hb);have n2_:=am (ho);clear BK311 HB HO_3;have BK311:=n0_;have HB:=n1_;have HO314:=n2_;clear n0_ n1_ n2_ ho hb hg hat))
          go_roundg k1
          case measure=>have:=HK1.out;omega
          case rel=>exact ⟨(y312),(wrap64 (x16_1+1)),(sq),H',⟨by have:=HK1.out;omega⟩,⟨by (with_reducible repeat (first | apply Kd.jGa | apply Kd.jKa | apply Kd.jLa));exact Kd.jca HO314.out (fun _ hk=>trivial)⟩,⟨Y61⟩⟩
         ·rw [if_neg c12] at H
          exact absurd H (by simp)
        ·rw [if_neg c11] at H
         exact absurd H (by simp)
       ·rw [if_neg c10] at H
        exact absurd H (by simp)
      ·rw [if_neg c9] at H
       have c9b0:decide (x16_1<(l0.length:Int))=false:=dzF c9
       clear c9
       obtain rfl:=Option.some.inj H
       go_wp2
       go_ret
       exact ⟨_,Y0,rq HO_3.out,bq⟩
   ·rw [if_neg c6] at H
    exact absurd H (by simp)
  ·rw [if_neg c5] at H
   exact absurd H (by simp)
def jic.f (k : Nat) (l0 : List (S51)) (l1 : List (S51)) : Option ((List (S51))) := (jTa.f k l0).bind fun t318 => ((jQa.f (([(([(⟨0, 7, 0, 0⟩ : S51)] : List (S51))), t318, l1] : List (List (S51))))).bind fun t324 => (some t324))
set_option maxHeartbeats 8000000 in
set_option maxRecDepth 100000 in
theorem jic.calls (k : Nat) (A0 : Option Addr) (c0 : Nat) (l0 : List (S51)) (P1_ : Nat → Prop) (A1 : Option Addr) (c1 : Nat) (l1 : List (S51)) (r : List (S51)) (w : World) (hr0 : Kd.C k51 w A0 l0.length l0) (hc0 : l0.length ≤ c0) (hs1 : Kd.V k51 51 w w.heap.size (fun k_ => P1_ k_) (.slice A1 l1.length c1) l1) (h : jic.f k l0 l1 = some r) :
  Calls Try.prog 27 #[.slice A0 l0.length c0, .slice A1 l1.length c1] w fun e w'=>∃ v0_:Value,e=.returned (v0_)∧Kd.R k51 51 w' w.heap.size (fun k_=>(w.heap.size≤k_)) v0_ r∧Below w.heap.size w w':=by
 have hu51:=Try.underlying51
 have HR0:=am hr0
 have HC0:=am hc0
 clear hr0 hc0
 have HO1:=am (show Kd.V k51 51 w w.heap.size (fun k_=>(P1_ k_∨w.heap.size≤k_)) (.slice A1 l1.length c1) l1 from Kd.V_mono hs1 (fun k_ hk=>.inl hk))
 have HB:=am (Below.refl w.heap.size w)
 have H:((jTa.f k l0).bind fun t318=>((jQa.f (([(([(⟨0,7,0,0⟩:S51)]:List (S51))),t318,l1]:List (List (S51))))).bind fun t324=>(some t324)))=some r:=h
 clear h
 obtain ⟨y315,hy315⟩:∃ y_:List (S51),y_=(([(⟨0,7,0,0⟩:S51)]:List (S51))):=⟨_,rfl⟩
 replace H:((jTa.f k l0).bind fun t318=>((jQa.f (([y315,t318,l1]:List (List (S51))))).bind fun t324=>(some t324)))=some r:=by first |(rw [hy315];with_reducible exact H) |(have H2_:=(Option.bind_some _ _).symm.trans H;rw [hy315];with_reducible exact H2_) |(have H2_:=(Option.bind_some _ _).symm.trans H;with_reducible exact H2_) | with_reducible exact H |(rw [hy315];exact H) | exact H
 have Ny315:=am hy315
 clear hy315
 replace H:=bzS H
 obtain ⟨t318,A30,H⟩:=H
 replace H:((jQa.f (([y315,t318,l1]:List (List (S51))))).bind fun t324=>(some t324))=some r:=H
 have A3:=am A30
 clear A30
 obtain ⟨y321,hy321⟩:∃ y_:List (List (S51)),y_=(([y315,t318,l1]:List (List (S51)))):=⟨_,rfl⟩
 replace H:((jQa.f y321).bind fun t324=>(some t324))=some r:=by first |(rw [hy321];with_reducible exact H) |(have H2_:=(Option.bind_some _ _).symm.trans H;rw [hy321];with_reducible exact H2_) |(have H2_:=(Option.bind_some _ _).symm.trans H;with_reducible exact H2_) | with_reducible exact H |(rw [hy321];exact H) | exact H
 have Ny321:=am hy321
 clear hy321
 replace H:=bzS H
 obtain ⟨t324,A40,H⟩:=H
 replace H:(some t324)=some r:=H
 have A4:=am A40
 clear A40
 obtain rfl:=Option.some.inj H
 go_enter Try.func27,Try.ntmps27
 go_wp2_with (first |((with_reducible refine jB (N:=6) rfl ?_);refine Kd.R_lit k51 _ 51 ?hg (N:=6) ?hd (xs:=([(⟨0,7,0,0⟩:S51)]:List (S51))) (inner:=[.int .i64 0, .int .i64 7, .int .i64 0, .int .i64 0]) (ok:=fun _=>True) (okp:=fun _=>True) ?hr ?hp (fun _ hk=>hk) trivial (Below.refl _ _) (Nat.le_refl _) (by simp) ?_;(case hd=>rfl);(case hg=>rfl);(case hr=>exact Y4);(case hp=>exact (Reps.c4 (show Kd.M k51 _ _ _ (⟨0,7,0,0⟩:S51) [.int .i64 0, .int .i64 7, .int .i64 0, .int .i64 0] from (jfb _ _ _ (⟨0,7,0,0⟩:S51) )) (Reps.none _ _)));intro v316 w5 ho6 hb hg_ hnew_;clear hg_ hnew_;(first | rw [← Ny315.out] at ho6 |(simp only [Int.reduceToNat] at ho6;rw [← Ny315.out] at ho6));have HO317:=am (Kd.jra (Kd.R_newM (M:=fun k_=>(w.heap.size≤k_)) ho6 (jv (bq)) (fun k_ h_=>h_)) (jv (bq)));replace HO1:=am (Kd.V_elder' (Y46) (Kd.jlb ho6) hb);replace HB:=am (jc (bq) hb);clear hb ho6) |((with_reducible refine jg (f:=47) rfl ?_);refine gL (some 8) Try.func47 #[.slice A0 l0.length c0] ?_;(with_reducible refine (jTa.calls k _ _ l0 t318 _ ?side1 ?side2 A3.out).mono ?_);(case side1=>exact cq (Kd.jF HR0.out HB.out));(case side2=>exact HC0.out);rintro e w7 ⟨v319,rfl,ho0,hb⟩;refine ⟨_,rfl,?_⟩;have HO320:=am (Kd.jra (Kd.jBb (Kd.R_newM (M:=fun k_=>(w.heap.size≤k_)) ho0 (jv (bq)) (fun k_ h_=>h_)) (Kd.R_lt (rq HO317.out))) (jv (bq)));replace HO1:=am (Kd.V_elder' (Y46) (Kd.jlb ho0) hb);replace HO317:=am (Kd.jYa (rq HO317.out) (Kd.jlb ho0) hb);replace HB:=am (jc (bq) hb);(try clear hb);(try clear hb2);(try clear hk);(try clear hi);(try clear ho0);obtain ⟨Ao8,co8,eo8⟩:=Kd.jga HO317.out;subst eo8;obtain ⟨Ao9,co9,eo9⟩:=Kd.jga HO320.out;subst eo9) |((with_reducible refine jB (N:=10) rfl ?_);refine Kd.N_lit (Kd.slice 51 k51) _ 30 ?hg (N':=10) ?hd (xs:=([y315,t318,l1]:List (List (S51)))) (inner:=[.slice Ao8 y315.length co8, .slice Ao9 t318.length co9, .slice A1 l1.length c1]) (ok:=(fun k_=>(P1_ k_∨w.heap.size≤k_))) (okp:=(fun k_=>(P1_ k_∨w.heap.size≤k_))) ?hr ?hp (fun _ hk=>hk) ((show ∀ k_,w7.heap.size≤k_→(fun k_=>(P1_ k_∨w.heap.size≤k_)) k_ from fun k_ hk=>(.inr (Nat.le_trans (jv (bq)) hk))) _ (Nat.le_refl _)) (Below.refl _ _) (Nat.le_refl _) (by simp) ?_;(case hd=>rfl);(case hg=>rfl);(case hr=>exact Y4);(case hp=>exact (Reps.one (show Kd.FK (Kd.slice 51 k51) _ _ y315 [.slice Ao8 y315.length co8] from (Kd.FK_slice_mk (Kd.jw (Kd.jca (ok':=(fun k_=>(P1_ k_∨w.heap.size≤k_))) (HO317.out) (fun k_ hk=>(.inr (hk.1.1))))).2.1 (Kd.R_F (Kd.jca (ok':=(fun k_=>(P1_ k_∨w.heap.size≤k_))) (HO317.out) (fun k_ hk=>(.inr (hk.1.1))))))) (Reps.one (show Kd.FK (Kd.slice 51 k51) _ _ t318 [.slice Ao9 t318.length co9] from (Kd.FK_slice_mk (Kd.jw (Kd.jca (ok':=(fun k_=>(P1_ k_∨w.heap.size≤k_))) (HO320.out) (fun k_ hk=>(.inr (hk.1.1))))).2.1 (Kd.R_F (Kd.jca (ok':=(fun k_=>(P1_ k_∨w.heap.size≤k_))) (HO320.out) (fun k_ hk=>(.inr (hk.1.1))))))) (Reps.one (show Kd.FK (Kd.slice 51 k51) _ _ l1 [.slice A1 l1.length c1] from (Kd.FK_slice_mk (Kd.V_reads' (Kd.V_mono (ok':=(fun k_=>(P1_ k_∨w.heap.size≤k_))) (HO1.out) (fun k_ hk=>hk.1.1))).2.1 (Kd.V_F (Kd.V_mono (ok':=(fun k_=>(P1_ k_∨w.heap.size≤k_))) (HO1.out) (fun k_ hk=>hk.1.1))))) (Reps.none _ _)))));intro v322 w10 ho11 hb hg_ hnew_;clear hg_ hnew_;(first | rw [← Ny321.out] at ho11 |(simp only [Int.reduceToNat] at ho11;rw [← Ny321.out] at ho11));have n0_:=am (Kd.V_elder' (Y46) (Kd.N_base ho11) hb);have n1_:=am (Kd.N_lower ho11 (jv (bq)));have n2_:=am (jc (bq) hb);clear HO1 HB HO317 HO320;have HO1:=n0_;have HO323:=n1_;have HB:=n2_;clear n0_ n1_ n2_ hb ho11;obtain ⟨Ao12,co12,eo12⟩:=Kd.N_slice HO323.out;subst eo12) |((with_reducible refine jg (f:=46) rfl ?_);refine gL (some 11) Try.func46 #[.slice Ao12 y321.length co12] ?_;(with_reducible refine (jQa.calls _ _ y321 t324 _ ?side1 ?side2 A4.out).mono ?_);(case side1=>exact cq (Kd.N_reads' HO323.out).2.2);(case side2=>exact (Kd.N_reads' HO323.out).2.1);rintro e w13 ⟨v325,rfl,ho0,hb⟩;refine ⟨_,rfl,?_⟩;have HO326:=am (Kd.jra (Kd.R_newM (M:=fun k_=>(w.heap.size≤k_)) ho0 (jv (bq)) (fun k_ h_=>h_)) (jv (bq)));replace HO1:=am (Kd.V_elder' (Y46) (Kd.jlb ho0) hb);replace HO323:=am (Kd.N_elder' (by (with_reducible repeat (first | apply Kd.N_alloc | apply Kd.N_drewN | apply Kd.N_drew));exact HO323.out) (Kd.jlb ho0) hb);replace HB:=am (jc (bq) hb);(try clear hb);(try clear hb2);(try clear hk);(try clear hi);(try clear ho0)))
 go_ret
 exact ⟨_,Y0,by (with_reducible repeat (first | apply Kd.jGa | apply Kd.jKa | apply Kd.jLa));exact Kd.jca HO326.out (fun _ hk=>hk.1),bq⟩
def jya.j0 : Nat → Int → Bool → Int → Int → Int → Int → List (S75) → Option (Bool)
 | 0,_,_,_,_,_,_,_=>none
 | k+1,x6,x7,x328000,x328001,x328002,x328003,x329000=>if x7=true then ((jqa.f x328002).bind fun t329=>(if t329=true then (some (x328003 == 0)) else (some false))) else (if x6=2 then ((jla.f x329000 x328002).bind fun t330=>(if t330=true then ((jqa.f x328003).bind fun t331=>(some t331)) else (some false))) else (if x6=8 then ((jla.f x329000 x328002).bind fun t332=>(if t332=true then (some (x328003 == 0)) else (some false))) else (if x6=11 then ((jI.f x328002 0 9).bind fun t333=>(if t333=true then ((jI.f x328003 0 1).bind fun t334=>(some t334)) else (some false))) else (if x6=12 then ((jI.f x328002 0 3).bind fun t335=>(if t335=true then (some (x328003 == 0)) else (some false))) else ((jI.f x328001 0 12).bind fun t336=>(if t336=true then (if x328002=0 then (some (x328003 == 0)) else (some false)) else (some false)))))))
def jya.f (k : Nat) (a0_0 : Int) (a0_1 : Int) (a0_2 : Int) (a0_3 : Int) (l1_0 : List (S75)) : Option (Bool) := if a0_1 = 1 then (jya.j0 k a0_1 (a0_1 == 1) a0_0 a0_1 a0_2 a0_3 l1_0) else (jya.j0 k a0_1 (a0_1 == 4) a0_0 a0_1 a0_2 a0_3 l1_0)
set_option maxHeartbeats 8000000 in
set_option maxRecDepth 100000 in
theorem jya.calls (k : Nat) (a0_0 : Int) (a0_1 : Int) (a0_2 : Int) (a0_3 : Int) (A1_0 : Option Addr) (c1_0 : Nat) (l1_0 : List (S75)) (r : Bool) (w : World) (hr1_0 : Kd.C k75 w A1_0 l1_0.length l1_0) (hc1_0 : l1_0.length ≤ c1_0) (h : jya.f k a0_0 a0_1 a0_2 a0_3 l1_0 = some r) :
  Calls Try.prog 63 #[.agg #[.int .i64 a0_0, .int .i64 a0_1, .int .i64 a0_2, .int .i64 a0_3], .agg #[.slice A1_0 l1_0.length c1_0]] w fun e w'=>e=.returned (.bool r)∧Below w.heap.size w w':=by
 have hu51:=Try.underlying51
 have hu35:=Try.underlying35
 have HR1_0:=am hr1_0
 have HC1_0:=am hc1_0
 clear hr1_0 hc1_0
 have HB:=am (Below.refl w.heap.size w)
 have H:(if a0_1=1 then (jya.j0 k a0_1 (a0_1 == 1) a0_0 a0_1 a0_2 a0_3 l1_0) else (jya.j0 k a0_1 (a0_1 == 4) a0_0 a0_1 a0_2 a0_3 l1_0))=some r:=h
 clear h
 have HC3:=am H
 clear H
 go_enter Try.func63,Try.ntmps63
 go_upto_if 7 with (first |((with_reducible refine jB (N:=2) rfl ?_);refine bE (N:=2) (cs:=#[.int .i64 a0_0, .int .i64 a0_1, .int .i64 a0_2, .int .i64 a0_3]) (t:=51) ?_;intro gb327 hg w4 hbox hb;have BK327:=am (hbox);have GW327:=am ((Y1:w.heap.size≤gb327));have GE327:=am ((Y1:w.heap.size≤gb327));replace HB:=am (jc (bq) hb);clear hb hbox hg) |((with_reducible refine jB (N:=3) rfl ?_);refine bE (N:=3) (cs:=#[.slice A1_0 l1_0.length c1_0]) (t:=35) ?_;intro gb328 hg w5 hbox hb;have BK328:=am (hbox);have GW328:=am ((Y90:w.heap.size≤gb328));have GE328:=am ((Y90:w.heap.size≤gb328));have NB327_328:=am ((by rw [hg];exact Nat.ne_of_lt (jza (g:=gb327) (o:=.cells #[.int .i64 a0_0, .int .i64 a0_1, .int .i64 a0_2, .int .i64 a0_3] 51 (0,0)) (kq BK327.out)):gb327≠gb328));have NB328_327:=am ((by rw [hg];exact Nat.ne_of_gt (jza (g:=gb327) (o:=.cells #[.int .i64 a0_0, .int .i64 a0_1, .int .i64 a0_2, .int .i64 a0_3] 51 (0,0)) (kq BK327.out)):gb328≠gb327));replace BK327:=am (je (g:=gb327) (o:=.cells #[.int .i64 a0_0, .int .i64 a0_1, .int .i64 a0_2, .int .i64 a0_3] 51 (0,0)) (kq BK327.out) hb);replace HB:=am (jc (by repeat (first |(with_reducible first | exact HB.out | apply jk | apply jf | apply jm | refine jl ?_ GE327.out) | exact HB.out)) hb);clear hb hbox hg;have hnb6:=NB327_328.out;have hnc6:=NB328_327.out;have hcz7_0:=bc0 BK327.out;have hcz7_1:=bc1 BK327.out;have hcz7_2:=bc2 BK327.out;have hcz7_3:=bc3 BK327.out;have hfz7_0:=ja BK327.out 0;have hfz7_1:=ja BK327.out 1;have hfz7_2:=ja BK327.out 2;have hfz7_3:=ja BK327.out 3))
 (try simp only [Act.put,List.setIfInBounds_toArray,List.set_cons_zero,List.set_cons_succ])
 go_cut [7] (fun v7 wc=>∃ (kq:Nat) (x7_2:Bool),v7=.bool x7_2∧jq (jya.j0 kq a0_1 x7_2 a0_0 a0_1 a0_2 a0_3 l1_0=some r)∧jq (kq≤k)∧jq (wc.heap[gb327]?=some (.cells #[.int .i64 a0_0, .int .i64 a0_1, .int .i64 a0_2, .int .i64 a0_3] 51 (0,0)))∧jq (wc.heap[gb328]?=some (.cells #[(.slice A1_0 l1_0.length c1_0)] 35 (0,0)))∧jq (Below w.heap.size w wc))
 case first =>
  have H:=HC3.out
  clear HC3
  by_cases c8:a0_1=1
  ·rw [if_pos c8] at H
   have c8b0:(a0_1 == 1)=true:=beq_iff_eq.mpr c8
   have c8b1:(a0_1 != 1)=false:=bne_eq_false_iff_eq.mpr c8
   clear c8
   (first | rw [c8b0] |(simp only [jcb,jdb];rw [c8b0]) | skip)
   have H':=am H
   clear H
   go_wp2
   go_meet
   case rel=>exact ⟨_,((a0_1 == 1)),(sq),H',⟨Y15⟩,⟨kq BK327.out⟩,⟨kq BK328.out⟩,⟨Y10⟩⟩
  ·rw [if_neg c8] at H
   have c8b0:(a0_1 == 1)=false:=beq_eq_false_iff_ne.mpr c8
   have c8b1:(a0_1 != 1)=true:=bne_iff_ne.mpr c8
   (first | rw [c8b0] |(simp only [jcb,jdb];rw [c8b0]) | skip)
   have H':=am H
   clear H
   go_wp2
   go_meet
   case rel=>exact ⟨_,((a0_1 == 4)),(sq),H',⟨Y15⟩,⟨kq BK327.out⟩,⟨kq BK328.out⟩,⟨Y10⟩⟩
 case rest =>
  clear HC3
  try clear c1
  try clear p2
  try clear c6
  try clear c8
  try clear c8b0
  try clear c8b1
  try clear hcz7_0
  try clear hcz7_1
  try clear hcz7_2
  try clear hcz7_3
  try clear hfz7_0
  try clear hfz7_1
  try clear hfz7_2
  try clear hfz7_3
  obtain ⟨kq,x7_2,rfl,HA,HJ2,BK327,BK328,HB⟩:=hcut
  cases kq with
  | zero=>exact absurd HA.out (by simp [jya.j0])
  | succ kj2 =>
   have H:=HA.out
   clear HA
   simp only [jya.j0] at H
   by_cases c9:x7_2=true
   ·subst c9
    have H1:((jqa.f a0_2).bind fun t329=>(if t329=true then (some (a0_3 == 0)) else (some false)))=some r:=by rw [if_pos rfl] at H;exact H
    clear H
    have H:=H1
    clear H1
    replace H:=bzS H
    obtain ⟨t329,A100,H⟩:=H
    replace H:(if t329=true then (some (a0_3 == 0)) else (some false))=some r:=H
    have A10:=am A100
    clear A100
    by_cases c11:t329=true
    ·subst c11
     have H1:(some (a0_3 == 0))=some r:=by rw [if_pos rfl] at H;exact H
     clear H
     have H:=H1
     clear H1
     obtain rfl:=Option.some.inj H
     have hnb12:=NB327_328.out
     have hnc12:=NB328_327.out
     have hcz13_0:=bc0 BK327.out
     have hcz13_1:=bc1 BK327.out
     have hcz13_2:=bc2 BK327.out
     have hcz13_3:=bc3 BK327.out
     have hfz13_0:=ja BK327.out 0
     have hfz13_1:=ja BK327.out 1
     have hfz13_2:=ja BK327.out 2
     have hfz13_3:=ja BK327.out 3
     go_wp2_with (first |((with_reducible refine jg (f:=44) rfl ?_);refine gL (some 12) Try.func44 #[.int .i64 a0_2] ?_;(with_reducible refine (jqa.calls a0_2 true _ A10.out).mono ?_);rintro e w' ⟨rfl,⟨nd,rfl⟩⟩;refine ⟨_,rfl,?_⟩))
     go_ret
     exact ⟨Y0,Y10⟩
    ·replace c11:=Bool.eq_false_iff.mpr c11
     subst c11
     have H1:(some false)=some r:=by rw [if_neg (show ¬ (false=true) by decide)] at H;exact H
     clear H
     have H:=H1
     clear H1
     obtain rfl:=Option.some.inj H
     have hnb14:=NB327_328.out
     have hnc14:=NB328_327.out
     have hcz15_0:=bc0 BK327.out
     have hcz15_1:=bc1 BK327.out
     have hcz15_2:=bc2 BK327.out
     have hcz15_3:=bc3 BK327.out
     have hfz15_0:=ja BK327.out 0
     have hfz15_1:=ja BK327.out 1
     have hfz15_2:=ja BK327.out 2
     have hfz15_3:=ja BK327.out 3
     go_wp2_with (first |((with_reducible refine jg (f:=44) rfl ?_);refine gL (some 12) Try.func44 #[.int .i64 a0_2] ?_;(with_reducible refine (jqa.calls a0_2 false _ A10.out).mono ?_);rintro e w' ⟨rfl,⟨nd,rfl⟩⟩;refine ⟨_,rfl,?_⟩))
     go_ret
     exact ⟨Y0,Y10⟩
   ·replace c9:=Bool.eq_false_iff.mpr c9
    subst c9
    have H1:(if a0_1=2 then ((jla.f l1_0 a0_2).bind fun t330=>(if t330=true then ((jqa.f a0_3).bind fun t331=>(some t331)) else (some false))) else (if a0_1=8 then ((jla.f l1_0 a0_2).bind fun t332=>(if t332=true then (some (a0_3 == 0)) else (some false))) else (if a0_1=11 then ((jI.f a0_2 0 9).bind fun t333=>(if t333=true then ((jI.f a0_3 0 1).bind fun t334=>(some t334)) else (some false))) else (if a0_1=12 then ((jI.f a0_2 0 3).bind fun t335=>(if t335=true then (some (a0_3 == 0)) else (some false))) else ((jI.f a0_1 0 12).bind fun t336=>(if t336=true then (if a0_2=0 then (some (a0_3 == 0)) else (some false)) else (some false)))))))=some r:=by rw [if_neg (show ¬ (false=true) by decide)] at H;exact H
    clear H
    have H:=H1
    clear H1
    by_cases c16:a0_1=2
    ·rw [if_pos c16] at H
     have c16b0:(a0_1 == 2)=true:=beq_iff_eq.mpr c16
     have c16b1:(a0_1 != 2)=false:=bne_eq_false_iff_eq.mpr c16
     clear c16
     replace H:=bzS H
     obtain ⟨t330,A170,H⟩:=H
     replace H:(if t330=true then ((jqa.f a0_3).bind fun t331=>(some t331)) else (some false))=some r:=H
     have A17:=am A170
     clear A170
     by_cases c18:t330=true
     ·subst c18
      have H1:((jqa.f a0_3).bind fun t331=>(some t331))=some r:=by rw [if_pos rfl] at H;exact H
      clear H
      have H:=H1
      clear H1
      replace H:=bzS H
      obtain ⟨t331,A190,H⟩:=H
      replace H:(some t331)=some r:=H
      have A19:=am A190
      clear A190
      obtain rfl:=Option.some.inj H
      have hnb20:=NB328_327.out
      have hnc20:=NB327_328.out
      have hcz21_0:=bc0 BK328.out
      have hfz21_0:=ja BK328.out 0
      have hcz22_0:=bc0 BK327.out
      have hcz22_1:=bc1 BK327.out
      have hcz22_2:=bc2 BK327.out
      have hcz22_3:=bc3 BK327.out
      have hfz22_0:=ja BK327.out 0
      have hfz22_1:=ja BK327.out 1
      have hfz22_2:=ja BK327.out 2
      have hfz22_3:=ja BK327.out 3
      go_wp2_with (first |((with_reducible refine jg (f:=43) rfl ?_);refine gL (some 23) Try.func43 #[.agg #[.slice A1_0 l1_0.length c1_0], .int .i64 a0_2] ?_;(with_reducible refine (jla.calls _ _ l1_0 a0_2 true _ ?side1 ?side2 A17.out).mono ?_);(case side1=>exact cq (Kd.jF HR1_0.out HB.out));(case side2=>exact HC1_0.out);rintro e w23 ⟨rfl,hb⟩;refine ⟨_,rfl,?_⟩;replace BK327:=am (je (g:=gb327) (o:=.cells #[.int .i64 a0_0, .int .i64 a0_1, .int .i64 a0_2, .int .i64 a0_3] 51 (0,0)) (kq BK327.out) hb);replace BK328:=am (je (g:=gb328) (o:=.cells #[.slice A1_0 l1_0.length c1_0] 35 (0,0)) (kq BK328.out) hb);replace HB:=am (jc (Y10) hb);(try clear hb);(try clear hb2);(try clear hk);(try clear hi);have hcz24_0:=bc0 BK327.out;have hcz24_1:=bc1 BK327.out;have hcz24_2:=bc2 BK327.out;have hcz24_3:=bc3 BK327.out;have hfz24_0:=ja BK327.out 0;have hfz24_1:=ja BK327.out 1;have hfz24_2:=ja BK327.out 2;have hfz24_3:=ja BK327.out 3) |(go_at_call 44;(with_reducible refine (jqa.calls a0_3 t331 _ A19.out).mono ?_);rintro e w' ⟨rfl,⟨nd,rfl⟩⟩))
      go_ret
      exact ⟨Y0,Y10⟩
     ·replace c18:=Bool.eq_false_iff.mpr c18
      subst c18
      have H1:(some false)=some r:=by rw [if_neg (show ¬ (false=true) by decide)] at H;exact H
      clear H
      have H:=H1
      clear H1
      obtain rfl:=Option.some.inj H
      have hnb25:=NB328_327.out
      have hnc25:=NB327_328.out
      have hcz26_0:=bc0 BK328.out
      have hfz26_0:=ja BK328.out 0
      have hcz27_0:=bc0 BK327.out
      have hcz27_1:=bc1 BK327.out
      have hcz27_2:=bc2 BK327.out
      have hcz27_3:=bc3 BK327.out
      have hfz27_0:=ja BK327.out 0
      have hfz27_1:=ja BK327.out 1
      have hfz27_2:=ja BK327.out 2
      have hfz27_3:=ja BK327.out 3
      go_wp2_with (first |((with_reducible refine jg (f:=43) rfl ?_);refine gL (some 23) Try.func43 #[.agg #[.slice A1_0 l1_0.length c1_0], .int .i64 a0_2] ?_;(with_reducible refine (jla.calls _ _ l1_0 a0_2 false _ ?side1 ?side2 A17.out).mono ?_);(case side1=>exact cq (Kd.jF HR1_0.out HB.out));(case side2=>exact HC1_0.out);rintro e w28 ⟨rfl,hb⟩;refine ⟨_,rfl,?_⟩;replace BK327:=am (je (g:=gb327) (o:=.cells #[.int .i64 a0_0, .int .i64 a0_1, .int .i64 a0_2, .int .i64 a0_3] 51 (0,0)) (kq BK327.out) hb);replace BK328:=am (je (g:=gb328) (o:=.cells #[.slice A1_0 l1_0.length c1_0] 35 (0,0)) (kq BK328.out) hb);replace HB:=am (jc (Y10) hb);(try clear hb);(try clear hb2);(try clear hk);(try clear hi)))
      go_ret
      exact ⟨Y0,Y10⟩
    ·rw [if_neg c16] at H
     have c16b0:(a0_1 == 2)=false:=beq_eq_false_iff_ne.mpr c16
     have c16b1:(a0_1 != 2)=true:=bne_iff_ne.mpr c16
     by_cases c29:a0_1=8
     ·rw [if_pos c29] at H
      have c29b0:(a0_1 == 8)=true:=beq_iff_eq.mpr c29
      have c29b1:(a0_1 != 8)=false:=bne_eq_false_iff_eq.mpr c29
      clear c29
      replace H:=bzS H
      obtain ⟨t332,A300,H⟩:=H
      replace H:(if t332=true then (some (a0_3 == 0)) else (some false))=some r:=H
      have A30:=am A300
      clear A300
      by_cases c31:t332=true
      ·subst c31
       have H1:(some (a0_3 == 0))=some r:=by rw [if_pos rfl] at H;exact H
       clear H
       have H:=H1
       clear H1
       obtain rfl:=Option.some.inj H
       have hnb32:=NB328_327.out
       have hnc32:=NB327_328.out
       have hcz33_0:=bc0 BK328.out
       have hfz33_0:=ja BK328.out 0
       have hcz34_0:=bc0 BK327.out
       have hcz34_1:=bc1 BK327.out
       have hcz34_2:=bc2 BK327.out
       have hcz34_3:=bc3 BK327.out
       have hfz34_0:=ja BK327.out 0
       have hfz34_1:=ja BK327.out 1
       have hfz34_2:=ja BK327.out 2
       have hfz34_3:=ja BK327.out 3
       go_wp2_with (first |((with_reducible refine jg (f:=43) rfl ?_);refine gL (some 34) Try.func43 #[.agg #[.slice A1_0 l1_0.length c1_0], .int .i64 a0_2] ?_;(with_reducible refine (jla.calls _ _ l1_0 a0_2 true _ ?side1 ?side2 A30.out).mono ?_);(case side1=>exact cq (Kd.jF HR1_0.out HB.out));(case side2=>exact HC1_0.out);rintro e w35 ⟨rfl,hb⟩;refine ⟨_,rfl,?_⟩;replace BK327:=am (je (g:=gb327) (o:=.cells #[.int .i64 a0_0, .int .i64 a0_1, .int .i64 a0_2, .int .i64 a0_3] 51 (0,0)) (kq BK327.out) hb);replace BK328:=am (je (g:=gb328) (o:=.cells #[.slice A1_0 l1_0.length c1_0] 35 (0,0)) (kq BK328.out) hb);replace HB:=am (jc (Y10) hb);(try clear hb);(try clear hb2);(try clear hk);(try clear hi);have hcz36_0:=bc0 BK327.out;have hcz36_1:=bc1 BK327.out;have hcz36_2:=bc2 BK327.out;have hcz36_3:=bc3 BK327.out;have hfz36_0:=ja BK327.out 0;have hfz36_1:=ja BK327.out 1;have hfz36_2:=ja BK327.out 2;have hfz36_3:=ja BK327.out 3))
       go_ret
       exact ⟨Y0,Y10⟩
      ·replace c31:=Bool.eq_false_iff.mpr c31
       subst c31
       have H1:(some false)=some r:=by rw [if_neg (show ¬ (false=true) by decide)] at H;exact H
       clear H
       have H:=H1
       clear H1
       obtain rfl:=Option.some.inj H
       have hnb37:=NB328_327.out
       have hnc37:=NB327_328.out
       have hcz38_0:=bc0 BK328.out
       have hfz38_0:=ja BK328.out 0
       have hcz39_0:=bc0 BK327.out
       have hcz39_1:=bc1 BK327.out
       have hcz39_2:=bc2 BK327.out
       have hcz39_3:=bc3 BK327.out
       have hfz39_0:=ja BK327.out 0
       have hfz39_1:=ja BK327.out 1
       have hfz39_2:=ja BK327.out 2
       have hfz39_3:=ja BK327.out 3
       go_wp2_with (first |((with_reducible refine jg (f:=43) rfl ?_);refine gL (some 34) Try.func43 #[.agg #[.slice A1_0 l1_0.length c1_0], .int .i64 a0_2] ?_;(with_reducible refine (jla.calls _ _ l1_0 a0_2 false _ ?side1 ?side2 A30.out).mono ?_);(case side1=>exact cq (Kd.jF HR1_0.out HB.out));(case side2=>exact HC1_0.out);rintro e w40 ⟨rfl,hb⟩;refine ⟨_,rfl,?_⟩;replace BK327:=am (je (g:=gb327) (o:=.cells #[.int .i64 a0_0, .int .i64 a0_1, .int .i64 a0_2, .int .i64 a0_3] 51 (0,0)) (kq BK327.out) hb);replace BK328:=am (je (g:=gb328) (o:=.cells #[.slice A1_0 l1_0.length c1_0] 35 (0,0)) (kq BK328.out) hb);replace HB:=am (jc (Y10) hb);(try clear hb);(try clear hb2);(try clear hk);(try clear hi)))
       go_ret
       exact ⟨Y0,Y10⟩
     ·rw [if_neg c29] at H
      have c29b0:(a0_1 == 8)=false:=beq_eq_false_iff_ne.mpr c29
      have c29b1:(a0_1 != 8)=true:=bne_iff_ne.mpr c29
      by_cases c41:a0_1=11
      ·rw [if_pos c41] at H
       have c41b0:(a0_1 == 11)=true:=beq_iff_eq.mpr c41
       have c41b1:(a0_1 != 11)=false:=bne_eq_false_iff_eq.mpr c41
       clear c41
       replace H:=bzS H
       obtain ⟨t333,A420,H⟩:=H
       replace H:(if t333=true then ((jI.f a0_3 0 1).bind fun t334=>(some t334)) else (some false))=some r:=H
       have A42:=am A420
       clear A420
       by_cases c43:t333=true
       ·subst c43
        have H1:((jI.f a0_3 0 1).bind fun t334=>(some t334))=some r:=by rw [if_pos rfl] at H;exact H
        clear H
        have H:=H1
        clear H1
        replace H:=bzS H
        obtain ⟨t334,A440,H⟩:=H
        replace H:(some t334)=some r:=H
        have A44:=am A440
        clear A440
        obtain rfl:=Option.some.inj H
        have hnb45:=NB327_328.out
        have hnc45:=NB328_327.out
        have hcz46_0:=bc0 BK327.out
        have hcz46_1:=bc1 BK327.out
        have hcz46_2:=bc2 BK327.out
        have hcz46_3:=bc3 BK327.out
        have hfz46_0:=ja BK327.out 0
        have hfz46_1:=ja BK327.out 1
        have hfz46_2:=ja BK327.out 2
        have hfz46_3:=ja BK327.out 3
        go_wp2_with (first |((with_reducible refine jg (f:=60) rfl ?_);refine gL (some 44) Try.func60 #[.int .i64 a0_2, .int .i64 0, .int .i64 9] ?_;(with_reducible refine (jI.calls a0_2 0 9 true _ A42.out).mono ?_);rintro e w' ⟨rfl,⟨nd,rfl⟩⟩;refine ⟨_,rfl,?_⟩) |(go_at_call 60;(with_reducible refine (jI.calls a0_3 0 1 t334 _ A44.out).mono ?_);rintro e w' ⟨rfl,⟨nd,rfl⟩⟩))
        go_ret
        exact ⟨Y0,Y10⟩
       ·replace c43:=Bool.eq_false_iff.mpr c43
        subst c43
        have H1:(some false)=some r:=by rw [if_neg (show ¬ (false=true) by decide)] at H;exact H
        clear H
        have H:=H1
        clear H1
        obtain rfl:=Option.some.inj H
        have hnb47:=NB327_328.out
        have hnc47:=NB328_327.out
        have hcz48_0:=bc0 BK327.out
        have hcz48_1:=bc1 BK327.out
        have hcz48_2:=bc2 BK327.out
        have hcz48_3:=bc3 BK327.out
        have hfz48_0:=ja BK327.out 0
        have hfz48_1:=ja BK327.out 1
        have hfz48_2:=ja BK327.out 2
        have hfz48_3:=ja BK327.out 3
        go_wp2_with (first |((with_reducible refine jg (f:=60) rfl ?_);refine gL (some 44) Try.func60 #[.int .i64 a0_2, .int .i64 0, .int .i64 9] ?_;(with_reducible refine (jI.calls a0_2 0 9 false _ A42.out).mono ?_);rintro e w' ⟨rfl,⟨nd,rfl⟩⟩;refine ⟨_,rfl,?_⟩))
        go_ret
        exact ⟨Y0,Y10⟩
      ·rw [if_neg c41] at H
       have c41b0:(a0_1 == 11)=false:=beq_eq_false_iff_ne.mpr c41
       have c41b1:(a0_1 != 11)=true:=bne_iff_ne.mpr c41
       by_cases c49:a0_1=12
       ·rw [if_pos c49] at H
        have c49b0:(a0_1 == 12)=true:=beq_iff_eq.mpr c49
        have c49b1:(a0_1 != 12)=false:=bne_eq_false_iff_eq.mpr c49
        clear c49
        replace H:=bzS H
        obtain ⟨t335,A500,H⟩:=H
        replace H:(if t335=true then (some (a0_3 == 0)) else (some false))=some r:=H
        have A50:=am A500
        clear A500
        by_cases c51:t335=true
        ·subst c51
         have H1:(some (a0_3 == 0))=some r:=by rw [if_pos rfl] at H;exact H
         clear H
         have H:=H1
         clear H1
         obtain rfl:=Option.some.inj H
         have hnb52:=NB327_328.out
         have hnc52:=NB328_327.out
         have hcz53_0:=bc0 BK327.out
         have hcz53_1:=bc1 BK327.out
         have hcz53_2:=bc2 BK327.out
         have hcz53_3:=bc3 BK327.out
         have hfz53_0:=ja BK327.out 0
         have hfz53_1:=ja BK327.out 1
         have hfz53_2:=ja BK327.out 2
         have hfz53_3:=ja BK327.out 3
         go_wp2_with (first |((with_reducible refine jg (f:=60) rfl ?_);refine gL (some 54) Try.func60 #[.int .i64 a0_2, .int .i64 0, .int .i64 3] ?_;(with_reducible refine (jI.calls a0_2 0 3 true _ A50.out).mono ?_);rintro e w' ⟨rfl,⟨nd,rfl⟩⟩;refine ⟨_,rfl,?_⟩))
         go_ret
         exact ⟨Y0,Y10⟩
        ·replace c51:=Bool.eq_false_iff.mpr c51
         subst c51
         have H1:(some false)=some r:=by rw [if_neg (show ¬ (false=true) by decide)] at H;exact H
         clear H
         have H:=H1
         clear H1
         obtain rfl:=Option.some.inj H
         have hnb54:=NB327_328.out
         have hnc54:=NB328_327.out
         have hcz55_0:=bc0 BK327.out
         have hcz55_1:=bc1 BK327.out
         have hcz55_2:=bc2 BK327.out
         have hcz55_3:=bc3 BK327.out
         have hfz55_0:=ja BK327.out 0
         have hfz55_1:=ja BK327.out 1
         have hfz55_2:=ja BK327.out 2
         have hfz55_3:=ja BK327.out 3
         go_wp2_with (first |((with_reducible refine jg (f:=60) rfl ?_);refine gL (some 54) Try.func60 #[.int .i64 a0_2, .int .i64 0, .int .i64 3] ?_;(with_reducible refine (jI.calls a0_2 0 3 false _ A50.out).mono ?_);rintro e w' ⟨rfl,⟨nd,rfl⟩⟩;refine ⟨_,rfl,?_⟩))
         go_ret
         exact ⟨Y0,Y10⟩
       ·rw [if_neg c49] at H
        have c49b0:(a0_1 == 12)=false:=beq_eq_false_iff_ne.mpr c49
        have c49b1:(a0_1 != 12)=true:=bne_iff_ne.mpr c49
        replace H:=bzS H
        obtain ⟨t336,A560,H⟩:=H
        replace H:(if t336=true then (if a0_2=0 then (some (a0_3 == 0)) else (some false)) else (some false))=some r:=H
        have A56:=am A560
        clear A560
        by_cases c57:t336=true
        ·subst c57
         have H1:(if a0_2=0 then (some (a0_3 == 0)) else (some false))=some r:=by rw [if_pos rfl] at H;exact H
         clear H
         have H:=H1
         clear H1
         by_cases c58:a0_2=0
         ·rw [if_pos c58] at H
          have c58b0:(a0_2 == 0)=true:=beq_iff_eq.mpr c58
          have c58b1:(a0_2 != 0)=false:=bne_eq_false_iff_eq.mpr c58
          clear c58
          obtain rfl:=Option.some.inj H
          have hnb59:=NB327_328.out
          have hnc59:=NB328_327.out
          have hcz60_0:=bc0 BK327.out
          have hcz60_1:=bc1 BK327.out
          have hcz60_2:=bc2 BK327.out
          have hcz60_3:=bc3 BK327.out
          have hfz60_0:=ja BK327.out 0
          have hfz60_1:=ja BK327.out 1
          have hfz60_2:=ja BK327.out 2
          have hfz60_3:=ja BK327.out 3
          go_wp2_with (first |((with_reducible refine jg (f:=60) rfl ?_);refine gL (some 62) Try.func60 #[.int .i64 a0_1, .int .i64 0, .int .i64 12] ?_;(with_reducible refine (jI.calls a0_1 0 12 true _ A56.out).mono ?_);rintro e w' ⟨rfl,⟨nd,rfl⟩⟩;refine ⟨_,rfl,?_⟩))
          go_ret
          exact ⟨Y0,Y10⟩
         ·rw [if_neg c58] at H
          have c58b0:(a0_2 == 0)=false:=beq_eq_false_iff_ne.mpr c58
          have c58b1:(a0_2 != 0)=true:=bne_iff_ne.mpr c58
          obtain rfl:=Option.some.inj H
          have hnb61:=NB327_328.out
          have hnc61:=NB328_327.out
          have hcz62_0:=bc0 BK327.out
          have hcz62_1:=bc1 BK327.out
          have hcz62_2:=bc2 BK327.out
          have hcz62_3:=bc3 BK327.out
          have hfz62_0:=ja BK327.out 0
          have hfz62_1:=ja BK327.out 1
          have hfz62_2:=ja BK327.out 2
          have hfz62_3:=ja BK327.out 3
          go_wp2_with (first |((with_reducible refine jg (f:=60) rfl ?_);refine gL (some 62) Try.func60 #[.int .i64 a0_1, .int .i64 0, .int .i64 12] ?_;(with_reducible refine (jI.calls a0_1 0 12 true _ A56.out).mono ?_);rintro e w' ⟨rfl,⟨nd,rfl⟩⟩;refine ⟨_,rfl,?_⟩))
          go_ret
          exact ⟨Y0,Y10⟩
        ·replace c57:=Bool.eq_false_iff.mpr c57
         subst c57
         have H1:(some false)=some r:=by rw [if_neg (show ¬ (false=true) by decide)] at H;exact H
         clear H
         have H:=H1
         clear H1
         obtain rfl:=Option.some.inj H
         have hnb63:=NB327_328.out
         have hnc63:=NB328_327.out
         have hcz64_0:=bc0 BK327.out
         have hcz64_1:=bc1 BK327.out
         have hcz64_2:=bc2 BK327.out
         have hcz64_3:=bc3 BK327.out
         have hfz64_0:=ja BK327.out 0
         have hfz64_1:=ja BK327.out 1
         have hfz64_2:=ja BK327.out 2
         have hfz64_3:=ja BK327.out 3
         go_wp2_with (first |((with_reducible refine jg (f:=60) rfl ?_);refine gL (some 62) Try.func60 #[.int .i64 a0_1, .int .i64 0, .int .i64 12] ?_;(with_reducible refine (jI.calls a0_1 0 12 false _ A56.out).mono ?_);rintro e w' ⟨rfl,⟨nd,rfl⟩⟩;refine ⟨_,rfl,?_⟩))
         go_ret
         exact ⟨Y0,Y10⟩
def jyb.f (a0_0 : Int) (a0_1 : Int) (a0_2 : Int) (a0_3 : Int) : Option (Bool) := (jI.f a0_1 7 12).bind fun t338 => (some t338)
set_option maxHeartbeats 8000000 in
set_option maxRecDepth 100000 in
theorem jyb.calls (a0_0 : Int) (a0_1 : Int) (a0_2 : Int) (a0_3 : Int) (r : Bool) (w : World) (h : jyb.f a0_0 a0_1 a0_2 a0_3 = some r) :
  Calls Try.prog 64 #[.agg #[.int .i64 a0_0, .int .i64 a0_1, .int .i64 a0_2, .int .i64 a0_3]] w fun e w'=>e=.returned (.bool r)∧Below w.heap.size w w':=by
 have hu51:=Try.underlying51
 have HB:=am (Below.refl w.heap.size w)
 have H:((jI.f a0_1 7 12).bind fun t338=>(some t338))=some r:=h
 clear h
 replace H:=bzS H
 obtain ⟨t338,A20,H⟩:=H
 replace H:(some t338)=some r:=H
 have A2:=am A20
 clear A20
 obtain rfl:=Option.some.inj H
 go_enter Try.func64,Try.ntmps64
 go_wp2_with (first |((with_reducible refine jB (N:=1) rfl ?_);refine bE (N:=1) (cs:=#[.int .i64 a0_0, .int .i64 a0_1, .int .i64 a0_2, .int .i64 a0_3]) (t:=51) ?_;intro gb337 hg w3 hbox hb;have BK337:=am (hbox);have GW337:=am ((Y1:w.heap.size≤gb337));have GE337:=am ((Y1:w.heap.size≤gb337));replace HB:=am (jc (bq) hb);clear hb hbox hg;have hcz4_0:=bc0 BK337.out;have hcz4_1:=bc1 BK337.out;have hcz4_2:=bc2 BK337.out;have hcz4_3:=bc3 BK337.out;have hfz4_0:=ja BK337.out 0;have hfz4_1:=ja BK337.out 1;have hfz4_2:=ja BK337.out 2;have hfz4_3:=ja BK337.out 3) |((with_reducible refine jg (f:=60) rfl ?_);refine gL (some 5) Try.func60 #[.int .i64 a0_1, .int .i64 7, .int .i64 12] ?_;(with_reducible refine (jI.calls a0_1 7 12 t338 _ A2.out).mono ?_);rintro e w' ⟨rfl,⟨nd,rfl⟩⟩;refine ⟨_,rfl,?_⟩))
 go_ret
 exact ⟨Y0,by repeat (first |(with_reducible first | exact HB.out | apply jk | apply jf | apply jm | refine jl ?_ GE337.out) | exact HB.out)⟩
def jfa.l0 : Nat → List (S51) → Int → Int → Option (Int)
 | 0,_,_,_=>none
 | k+1,x0,x1,x5=>if x5<(x0.length:Int) then (if 0≤x5 then (if 0≤x1 then (if x1<(x0.length:Int) then (if ((jd x0 x5).f0) > ((jd x0 x1).f0) then (jfa.l0 k x0 x1 (wrap64 (x5+1))) else (some x5)) else (none)) else (none)) else (none)) else (some x5)
def jfa.f (k : Nat) (l0 : List (S51)) (a1 : Int) : Option (Int) := jfa.l0 k l0 a1 (wrap64 (a1 + 1))
set_option maxHeartbeats 8000000 in
set_option maxRecDepth 100000 in
theorem jfa.calls (k : Nat) (A0 : Option Addr) (c0 : Nat) (l0 : List (S51)) (a1 : Int) (r : Int) (w : World) (hr0 : Kd.C k51 w A0 l0.length l0) (hc0 : l0.length ≤ c0) (h : jfa.f k l0 a1 = some r) :
  Calls Try.prog 79 #[.slice A0 l0.length c0, .int .i64 a1] w fun e w'=>e=.returned (.int .i64 r)∧jZa w w':=by
 have HR0:=am hr0
 have HC0:=am hc0
 clear hr0 hc0
 have H:(jfa.l0 k l0 a1 (wrap64 (a1+1)))=some r:=h
 clear h
 have H':=am H
 clear H
 go_enter Try.func79,Try.ntmps79
 go_wp2
 repeat (go_quiet (fail);try go_wp2)
 go_loopg [5] k (fun kq v5 w'=>∃ (x5_1:Int),v5=.int .i64 x5_1∧jq (jfa.l0 kq l0 a1 x5_1=some r)∧jq (kq≤k)∧jZa w w')
 case atStart=>exact ⟨(wrap64 (a1+1)),(sq),H',⟨Nat.le_refl _⟩,Y2⟩
 case round =>
  clear H'
  try clear p2
  obtain ⟨x5_1,rfl,HA,HK1,⟨m1,rfl⟩⟩:=hrel
  cases gk with
  | zero=>exact absurd HA.out (by simp [jfa.l0])
  | succ k1 =>
   have H:=HA.out
   clear HA
   simp only [jfa.l0] at H
   by_cases c3:x5_1<(l0.length:Int)
   ·rw [if_pos c3] at H
    have c3b0:decide (x5_1<(l0.length:Int))=true:=dzT c3
    clear c3
    by_cases c4:0≤x5_1
    ·rw [if_pos c4] at H
     have c4b0:decide (0≤x5_1)=true:=dzT c4
     clear c4
     by_cases c5:0≤a1
     ·rw [if_pos c5] at H
      have c5b0:decide (0≤a1)=true:=dzT c5
      clear c5
      by_cases c6:a1<(l0.length:Int)
      ·rw [if_pos c6] at H
       have c6b0:decide (a1<(l0.length:Int))=true:=dzT c6
       clear c6
       by_cases c7:((jd l0 x5_1).f0) > ((jd l0 a1).f0)
       ·rw [if_pos c7] at H
        have c7b0:decide (((jd l0 a1).f0)<((jd l0 x5_1).f0))=true:=dzT c7
        clear c7
        have H':=am H
        clear H
        have p339:0≤(x5_1:Int):=ozD (uq)
        have q339:x5_1<(l0.length:Int):=ozD (uq)
        obtain ⟨ad339,e339,hx339_0,hx339_1,hx339_2,hx339_3⟩:=jAa HR0.out x5_1 p339 q339
        cases e339
        replace p339:=ezT p339
        replace q339:=ezT q339
        have p340:0≤(a1:Int):=ozD (uq)
        have q340:a1<(l0.length:Int):=ozD (uq)
        obtain ⟨ad340,e340,hx340_0,hx340_1,hx340_2,hx340_3⟩:=jAa HR0.out a1 p340 q340
        obtain rfl:ad339=ad340:=(by injection e340)
        replace p340:=ezT p340
        replace q340:=ezT q340
        go_wp2
        repeat (go_quiet (fail);try go_wp2)
        go_roundg k1
        case measure=>have:=HK1.out;omega
        case rel=>exact ⟨(wrap64 (x5_1+1)),(sq),H',⟨by have:=HK1.out;omega⟩,Y2⟩
       ·rw [if_neg c7] at H
        have c7b0:decide (((jd l0 a1).f0)<((jd l0 x5_1).f0))=false:=dzF c7
        clear c7
        obtain rfl:=Option.some.inj H
        have p339:0≤(x5_1:Int):=ozD (uq)
        have q339:x5_1<(l0.length:Int):=ozD (uq)
        obtain ⟨ad339,e339,hx339_0,hx339_1,hx339_2,hx339_3⟩:=jAa HR0.out x5_1 p339 q339
        cases e339
        replace p339:=ezT p339
        replace q339:=ezT q339
        have p340:0≤(a1:Int):=ozD (uq)
        have q340:a1<(l0.length:Int):=ozD (uq)
        obtain ⟨ad340,e340,hx340_0,hx340_1,hx340_2,hx340_3⟩:=jAa HR0.out a1 p340 q340
        obtain rfl:ad339=ad340:=(by injection e340)
        replace p340:=ezT p340
        replace q340:=ezT q340
        go_wp2
        repeat (go_quiet (fail);try go_wp2)
        go_ret
        exact ⟨sq,Y2⟩
      ·rw [if_neg c6] at H
       exact absurd H (by simp)
     ·rw [if_neg c5] at H
      exact absurd H (by simp)
    ·rw [if_neg c4] at H
     exact absurd H (by simp)
   ·rw [if_neg c3] at H
    have c3b0:decide (x5_1<(l0.length:Int))=false:=dzF c3
    clear c3
    obtain rfl:=Option.some.inj H
    go_wp2
    repeat (go_quiet (fail);try go_wp2)
    go_ret
    exact ⟨sq,Y2⟩
def jHa.l0 : Nat → List (S51) → Int → List Int → Int → Option (List Int)
 | 0,_,_,_,_=>none
 | k+1,x0,x2,x7,x8=>if x8<x2 then (if x7.length<17592186044416 then ((jfa.f k x0 x8).bind fun t347=>(jHa.l0 k x0 x2 (x7 ++ [x8]) t347)) else (none)) else (some x7)
def jHa.f (k : Nat) (l0 : List (S51)) (a1 : Int) (a2 : Int) : Option (List Int) := jHa.l0 k l0 a2 (([] : List Int)) a1
set_option maxHeartbeats 8000000 in
set_option maxRecDepth 100000 in
theorem jHa.calls (k : Nat) (A0 : Option Addr) (c0 : Nat) (l0 : List (S51)) (a1 : Int) (a2 : Int) (r : List Int) (w : World) (hr0 : Kd.C k51 w A0 l0.length l0) (hc0 : l0.length ≤ c0) (h : jHa.f k l0 a1 a2 = some r) :
  Calls Try.prog 76 #[.slice A0 l0.length c0, .int .i64 a1, .int .i64 a2] w fun e w'=>∃ v0_:Value,e=.returned (v0_)∧Kd.R (Kd.int .i64) 3 w' w.heap.size (fun _=>True) v0_ r∧Below w.heap.size w w':=by
 have HR0:=am hr0
 have HC0:=am hc0
 clear hr0 hc0
 have HB:=am (Below.refl w.heap.size w)
 have H:(jHa.l0 k l0 a2 (([]:List Int)) a1)=some r:=h
 clear h
 obtain ⟨y341,hy341⟩:∃ y_:List Int,y_=(([]:List Int)):=⟨_,rfl⟩
 replace H:(jHa.l0 k l0 a2 y341 a1)=some r:=by first |(rw [hy341];with_reducible exact H) |(have H2_:=(Option.bind_some _ _).symm.trans H;rw [hy341];with_reducible exact H2_) |(have H2_:=(Option.bind_some _ _).symm.trans H;with_reducible exact H2_) | with_reducible exact H |(rw [hy341];exact H) | exact H
 have Ny341:=am hy341
 clear hy341
 have H':=am H
 clear H
 go_enter Try.func76,Try.ntmps76
 go_wp2_with (first |((with_reducible refine jB (N:=9) rfl ?_);refine Kd.R_lit (Kd.int .i64) _ 3 ?hg (N:=9) ?hd (xs:=([]:List Int)) (inner:=[]) (ok:=fun _=>True) (okp:=fun _=>True) ?hr ?hp (fun _ hk=>hk) trivial (Below.refl _ _) (Nat.le_refl _) (by simp) ?_;(case hd=>rfl);(case hg=>rfl);(case hr=>exact Y4);(case hp=>exact (Reps.none _ _));intro v342 w4 ho5 hb hg_ hnew_;clear hg_ hnew_;(first | rw [← Ny341.out] at ho5 |(simp only [Int.reduceToNat] at ho5;rw [← Ny341.out] at ho5));have HO343:=am (Kd.jra ho5 (jv (bq)));replace HB:=am (jc (bq) hb);clear hb ho5))
 go_loopg [7,8] k (fun kq v7 v8 w'=>∃ (x7_1:List Int) (x8_1:Int),v8=.int .i64 x8_1∧jq (jHa.l0 kq l0 a2 x7_1 x8_1=some r)∧jq (kq≤k)∧jq (Kd.R (Kd.int .i64) 3 w' w.heap.size (fun _=>True) v7 x7_1)∧jq (Below w.heap.size w w'))
 case atStart=>exact ⟨(y341),(a1),(sq),H',⟨Nat.le_refl _⟩,⟨rq HO343.out⟩,⟨bq⟩⟩
 case round =>
  clear H'
  try clear p2
  obtain ⟨x7_1,x8_1,rfl,HA,HK1,HO_7,HB⟩:=hrel
  cases gk with
  | zero=>exact absurd HA.out (by simp [jHa.l0])
  | succ k1 =>
   have H:=HA.out
   clear HA
   simp only [jHa.l0] at H
   by_cases c6:x8_1<a2
   ·rw [if_pos c6] at H
    have c6b0:decide (x8_1<a2)=true:=dzT c6
    clear c6
    by_cases c7:x7_1.length<17592186044416
    ·rw [if_pos c7] at H
     have LMc7:=am c7
     clear c7
     obtain ⟨y344,hy344⟩:∃ y_:List Int,y_=(x7_1 ++ [x8_1]):=⟨_,rfl⟩
     replace H:((jfa.f k1 l0 x8_1).bind fun t347=>(jHa.l0 k1 l0 a2 y344 t347))=some r:=by first |(rw [hy344];with_reducible exact H) |(have H2_:=(Option.bind_some _ _).symm.trans H;rw [hy344];with_reducible exact H2_) |(have H2_:=(Option.bind_some _ _).symm.trans H;with_reducible exact H2_) | with_reducible exact H |(rw [hy344];exact H) | exact H
     have Ny344:=am hy344
     clear hy344
     replace H:=bzS H
     obtain ⟨t347,A80,H⟩:=H
     replace H:(jHa.l0 k1 l0 a2 y344 t347)=some r:=H
     have A8:=am A80
     clear A80
     have H':=am H
     clear H
     go_wp2_with (first |((with_reducible refine jgb (b:=.append) (xs:=#[.tmp 17, .tmp 19]) rfl ?_);at_builtin;refine Kd.R_append (Kd.int .i64) (w0:=w) w.heap.size rfl (.tmp 17) (.tmp 19) 102 3 (.int .i64 0) 8 rfl Try.underlying102 info3 rfl (by decide) (by omega) u7 x7_1 x8_1 [.int .i64 x8_1] (fun _=>True) (fun _=>False) rfl rfl ?aP (fun _ hk=>hk.elim) ?aF ?aO ?aB ?aS ?aL ?_;(case aP=>exact rfl);(case aB=>exact (bq));(case aF=>exact (fun _ _=>trivial));(case aO=>exact (rq HO_7.out));(case aS=>exact (jv (bq)));(case aL=>have:=LMc7.out;omega);intro v345 w9 ho hb hg hat;rw [← Ny344.out] at ho;have n0_:=am (hb);have n1_:=am (ho);clear HB HO_7;have HB:=n0_;have HO346:=n1_;clear n0_ n1_ ho hb hg hat) |((with_reducible refine jg (f:=79) rfl ?_);refine gL (some 16) Try.func79 #[.slice A0 l0.length c0, .int .i64 x8_1] ?_;(with_reducible refine (jfa.calls k1 _ _ l0 x8_1 t347 _ ?side1 ?side2 A8.out).mono ?_);(case side1=>exact cq (Kd.jF HR0.out HB.out));(case side2=>exact HC0.out);rintro e w' ⟨rfl,⟨nd,rfl⟩⟩;refine ⟨_,rfl,?_⟩))
     go_roundg k1
     case measure=>have:=HK1.out;omega
     case rel=>exact ⟨(y344),(t347),(sq),H',⟨by have:=HK1.out;omega⟩,⟨rq HO346.out⟩,⟨bq⟩⟩
    ·rw [if_neg c7] at H
     exact absurd H (by simp)
   ·rw [if_neg c6] at H
    have c6b0:decide (x8_1<a2)=false:=dzF c6
    clear c6
    obtain rfl:=Option.some.inj H
    go_wp2
    go_ret
    exact ⟨_,Y0,rq HO_7.out,bq⟩
mutual
def jV.l0 : Nat → List (S51) → Int → List Int → Int → Option (List Int)
 | 0,_,_,_,_=>none
 | k+1,x0,x1,x5,x6=>if x6<(x0.length:Int) then (if 0≤x6 then (if 0≤x1 then (if x1<(x0.length:Int) then (if ((jd x0 x6).f0)=((jd x0 x1).f0) then ((jI.f ((jd x0 x6).f1) 8 10).bind fun t355=>(jV.j1 k x0 x1 x5 x6 t355)) else (jV.j1 k x0 x1 x5 x6 false)) else (none)) else (none)) else (none)) else (jV.j1 k x0 x1 x5 x6 false)
def jV.j1 : Nat → List (S51) → Int → List Int → Int → Bool → Option (List Int)
 | 0,_,_,_,_,_=>none
 | k+1,x0,x1,x5,x6,x36=>if x36=true then (if x5.length<17592186044416 then ((jfa.f k x0 x6).bind fun t359=>(jV.l0 k x0 x1 (x5 ++ [x6]) t359)) else (none)) else (some x5)
end
def jV.f (k : Nat) (l0 : List (S51)) (a1 : Int) : Option (List Int) := (jfa.f k l0 a1).bind fun t351 => (jV.l0 k l0 a1 (([a1] : List Int)) t351)
set_option maxHeartbeats 8000000 in
set_option maxRecDepth 100000 in
theorem jV.calls (k : Nat) (A0 : Option Addr) (c0 : Nat) (l0 : List (S51)) (a1 : Int) (r : List Int) (w : World) (hr0 : Kd.C k51 w A0 l0.length l0) (hc0 : l0.length ≤ c0) (h : jV.f k l0 a1 = some r) :
  Calls Try.prog 77 #[.slice A0 l0.length c0, .int .i64 a1] w fun e w'=>∃ v0_:Value,e=.returned (v0_)∧Kd.R (Kd.int .i64) 3 w' w.heap.size (fun _=>True) v0_ r∧Below w.heap.size w w':=by
 have HR0:=am hr0
 have HC0:=am hc0
 clear hr0 hc0
 have HB:=am (Below.refl w.heap.size w)
 have H:((jfa.f k l0 a1).bind fun t351=>(jV.l0 k l0 a1 (([a1]:List Int)) t351))=some r:=h
 clear h
 obtain ⟨y348,hy348⟩:∃ y_:List Int,y_=(([a1]:List Int)):=⟨_,rfl⟩
 replace H:((jfa.f k l0 a1).bind fun t351=>(jV.l0 k l0 a1 y348 t351))=some r:=by first |(rw [hy348];with_reducible exact H) |(have H2_:=(Option.bind_some _ _).symm.trans H;rw [hy348];with_reducible exact H2_) |(have H2_:=(Option.bind_some _ _).symm.trans H;with_reducible exact H2_) | with_reducible exact H |(rw [hy348];exact H) | exact H
 have Ny348:=am hy348
 clear hy348
 replace H:=bzS H
 obtain ⟨t351,A30,H⟩:=H
 replace H:(jV.l0 k l0 a1 y348 t351)=some r:=H
 have A3:=am A30
 clear A30
 have H':=am H
 clear H
 go_enter Try.func77,Try.ntmps77
 go_wp2_with (first |((with_reducible refine jB (N:=8) rfl ?_);refine Kd.R_lit (Kd.int .i64) _ 3 ?hg (N:=8) ?hd (xs:=([a1]:List Int)) (inner:=[.int .i64 a1]) (ok:=fun _=>True) (okp:=fun _=>True) ?hr ?hp (fun _ hk=>hk) trivial (Below.refl _ _) (Nat.le_refl _) (by simp) ?_;(case hd=>rfl);(case hg=>rfl);(case hr=>exact Y4);(case hp=>exact (Reps.one (show Kd.M (Kd.int .i64) _ _ _ a1 [.int .i64 a1] from rfl) (Reps.none _ _)));intro v349 w4 ho5 hb hg_ hnew_;clear hg_ hnew_;(first | rw [← Ny348.out] at ho5 |(simp only [Int.reduceToNat] at ho5;rw [← Ny348.out] at ho5));have HO350:=am (Kd.jra ho5 (jv (bq)));replace HB:=am (jc (bq) hb);clear hb ho5) |(go_at_call 79;(with_reducible refine (jfa.calls k _ _ l0 a1 t351 _ ?side1 ?side2 A3.out).mono ?_);(case side1=>exact cq (Kd.jF HR0.out HB.out));(case side2=>exact HC0.out);rintro e w' ⟨rfl,⟨nd,rfl⟩⟩;(try first | exact ⟨rfl,_,World.drewN_drewN _ _ _⟩ | exact ⟨rfl,_,Eq.trans (World.drewN_drewN _ _ _) (congrArg (World.drewN _) (Nat.add_assoc _ _ _))⟩)))
 repeat (go_quiet (first |((with_reducible refine jB (N:=8) rfl ?_);refine Kd.R_lit (Kd.int .i64) _ 3 ?hg (N:=8) ?hd (xs:=([a1]:List Int)) (inner:=[.int .i64 a1]) (ok:=fun _=>True) (okp:=fun _=>True) ?hr ?hp (fun _ hk=>hk) trivial (Below.refl _ _) (Nat.le_refl _) (by simp) ?_;(case hd=>rfl);(case hg=>rfl);(case hr=>exact Y4);(case hp=>exact (Reps.one (show Kd.M (Kd.int .i64) _ _ _ a1 [.int .i64 a1] from rfl) (Reps.none _ _)));intro v349 w4 ho5 hb hg_ hnew_;clear hg_ hnew_;(first | rw [← Ny348.out] at ho5 |(simp only [Int.reduceToNat] at ho5;rw [← Ny348.out] at ho5));have HO350:=am (Kd.jra ho5 (jv (bq)));replace HB:=am (jc (bq) hb);clear hb ho5) |(go_at_call 79;(with_reducible refine (jfa.calls k _ _ l0 a1 t351 _ ?side1 ?side2 A3.out).mono ?_);(case side1=>exact cq (Kd.jF HR0.out HB.out));(case side2=>exact HC0.out);rintro e w' ⟨rfl,⟨nd,rfl⟩⟩;(try first | exact ⟨rfl,_,World.drewN_drewN _ _ _⟩ | exact ⟨rfl,_,Eq.trans (World.drewN_drewN _ _ _) (congrArg (World.drewN _) (Nat.add_assoc _ _ _))⟩)));try go_wp2_with (first |((with_reducible refine jB (N:=8) rfl ?_);refine Kd.R_lit (Kd.int .i64) _ 3 ?hg (N:=8) ?hd (xs:=([a1]:List Int)) (inner:=[.int .i64 a1]) (ok:=fun _=>True) (okp:=fun _=>True) ?hr ?hp (fun _ hk=>hk) trivial (Below.refl _ _) (Nat.le_refl _) (by simp) ?_;(case hd=>rfl);(case hg=>rfl);(case hr=>exact Y4);(case hp=>exact (Reps.one (show Kd.M (Kd.int .i64) _ _ _ a1 [.int .i64 a1] from rfl) (Reps.none _ _)));intro v349 w4 ho5 hb hg_ hnew_;clear hg_ hnew_;(first | rw [← Ny348.out] at ho5 |(simp only [Int.reduceToNat] at ho5;rw [← Ny348.out] at ho5));have HO350:=am (Kd.jra ho5 (jv (bq)));replace HB:=am (jc (bq) hb);clear hb ho5) |(go_at_call 79;(with_reducible refine (jfa.calls k _ _ l0 a1 t351 _ ?side1 ?side2 A3.out).mono ?_);(case side1=>exact cq (Kd.jF HR0.out HB.out));(case side2=>exact HC0.out);rintro e w' ⟨rfl,⟨nd,rfl⟩⟩;(try first | exact ⟨rfl,_,World.drewN_drewN _ _ _⟩ | exact ⟨rfl,_,Eq.trans (World.drewN_drewN _ _ _) (congrArg (World.drewN _) (Nat.add_assoc _ _ _))⟩))))
 go_loopg [5,6] k (fun kq v5 v6 w'=>∃ (x5_1:List Int) (x6_1:Int),v6=.int .i64 x6_1∧jq (jV.l0 kq l0 a1 x5_1 x6_1=some r)∧jq (kq≤k)∧jq (Kd.R (Kd.int .i64) 3 w' w.heap.size (fun _=>True) v5 x5_1)∧jq (Below w.heap.size w w'))
 case atStart=>exact ⟨(y348),(t351),(sq),H',⟨Nat.le_refl _⟩,⟨rq HO350.out⟩,⟨bq⟩⟩
 case round =>
  clear H'
  try clear p2
  obtain ⟨x5_1,x6_1,rfl,HA,HK1,HO_5,HB⟩:=hrel
  cases gk with
  | zero=>exact absurd HA.out (by simp [jV.l0])
  | succ k1 =>
   have H:=HA.out
   clear HA
   simp only [jV.l0] at H
   have HC6:=am H
   clear H
   go_upto_region 3 with (fail)
   repeat (go_quiet (fail);go_upto_region 3 with (fail))
   go_cut [36] (fun v36 wc=>∃ (kq:Nat) (x36_5:Bool),v36=.bool x36_5∧jq (jV.j1 kq l0 a1 x5_1 x6_1 x36_5=some r)∧jq (kq≤k1)∧jq (Kd.R (Kd.int .i64) 3 wc w.heap.size (fun _=>True) u5 x5_1)∧jq (Below w.heap.size w wc))
   case first =>
    have H:=HC6.out
    clear HC6
    by_cases c7:x6_1<(l0.length:Int)
    ·rw [if_pos c7] at H
     have c7b0:decide (x6_1<(l0.length:Int))=true:=dzT c7
     clear c7
     (first | rw [c7b0] |(simp only [jcb,jdb];rw [c7b0]) | skip)
     by_cases c8:0≤x6_1
     ·rw [if_pos c8] at H
      have c8b0:decide (0≤x6_1)=true:=dzT c8
      clear c8
      by_cases c9:0≤a1
      ·rw [if_pos c9] at H
       have c9b0:decide (0≤a1)=true:=dzT c9
       clear c9
       by_cases c10:a1<(l0.length:Int)
       ·rw [if_pos c10] at H
        have c10b0:decide (a1<(l0.length:Int))=true:=dzT c10
        clear c10
        by_cases c11:((jd l0 x6_1).f0)=((jd l0 a1).f0)
        ·rw [if_pos c11] at H
         have c11b0:(((jd l0 x6_1).f0) == ((jd l0 a1).f0))=true:=beq_iff_eq.mpr c11
         have c11b1:(((jd l0 x6_1).f0) != ((jd l0 a1).f0))=false:=bne_eq_false_iff_eq.mpr c11
         clear c11
         replace H:=bzS H
         obtain ⟨t355,A120,H⟩:=H
         replace H:(jV.j1 k1 l0 a1 x5_1 x6_1 t355)=some r:=H
         have A12:=am A120
         clear A120
         have H':=am H
         clear H
         have p352:0≤(x6_1:Int):=ozD (uq)
         have q352:x6_1<(l0.length:Int):=ozD (uq)
         obtain ⟨ad352,e352,hx352_0,hx352_1,hx352_2,hx352_3⟩:=jAa HR0.out x6_1 p352 q352
         cases e352
         replace hx352_0:=cb HB.out hx352_0
         replace hx352_1:=cb HB.out hx352_1
         replace hx352_2:=cb HB.out hx352_2
         replace hx352_3:=cb HB.out hx352_3
         replace p352:=ezT p352
         replace q352:=ezT q352
         have p353:0≤(a1:Int):=ozD (uq)
         have q353:a1<(l0.length:Int):=ozD (uq)
         obtain ⟨ad353,e353,hx353_0,hx353_1,hx353_2,hx353_3⟩:=jAa HR0.out a1 p353 q353
         obtain rfl:ad352=ad353:=(by injection e353)
         replace hx353_0:=cb HB.out hx353_0
         replace hx353_1:=cb HB.out hx353_1
         replace hx353_2:=cb HB.out hx353_2
         replace hx353_3:=cb HB.out hx353_3
         replace p353:=ezT p353
         replace q353:=ezT q353
         have p354:0≤(x6_1:Int):=ozD (uq)
         have q354:x6_1<(l0.length:Int):=ozD (uq)
         obtain ⟨ad354,e354,hx354_0,hx354_1,hx354_2,hx354_3⟩:=jAa HR0.out x6_1 p354 q354
         obtain rfl:ad352=ad354:=(by injection e354)
         replace hx354_0:=cb HB.out hx354_0
         replace hx354_1:=cb HB.out hx354_1
         replace hx354_2:=cb HB.out hx354_2
         replace hx354_3:=cb HB.out hx354_3
         replace p354:=ezT p354
         replace q354:=ezT q354
         go_wp2_with (first |(go_at_call 60;(with_reducible refine (jI.calls ((jd l0 x6_1).f1) 8 10 t355 _ A12.out).mono ?_);rintro e w' ⟨rfl,⟨nd,rfl⟩⟩;(try first | exact ⟨rfl,_,World.drewN_drewN _ _ _⟩ | exact ⟨rfl,_,Eq.trans (World.drewN_drewN _ _ _) (congrArg (World.drewN _) (Nat.add_assoc _ _ _))⟩)))
         repeat (go_quiet (first |(go_at_call 60;(with_reducible refine (jI.calls ((jd l0 x6_1).f1) 8 10 t355 _ A12.out).mono ?_);rintro e w' ⟨rfl,⟨nd,rfl⟩⟩;(try first | exact ⟨rfl,_,World.drewN_drewN _ _ _⟩ | exact ⟨rfl,_,Eq.trans (World.drewN_drewN _ _ _) (congrArg (World.drewN _) (Nat.add_assoc _ _ _))⟩)));try go_wp2_with (first |(go_at_call 60;(with_reducible refine (jI.calls ((jd l0 x6_1).f1) 8 10 t355 _ A12.out).mono ?_);rintro e w' ⟨rfl,⟨nd,rfl⟩⟩;(try first | exact ⟨rfl,_,World.drewN_drewN _ _ _⟩ | exact ⟨rfl,_,Eq.trans (World.drewN_drewN _ _ _) (congrArg (World.drewN _) (Nat.add_assoc _ _ _))⟩))))
         go_meet
         case rel=>exact ⟨_,(t355),(sq),H',⟨by have:=HK1.out;first | omega | exact Nat.le_refl _⟩,⟨rq HO_5.out⟩,⟨bq⟩⟩
        ·rw [if_neg c11] at H
         have c11b0:(((jd l0 x6_1).f0) == ((jd l0 a1).f0))=false:=beq_eq_false_iff_ne.mpr c11
         have c11b1:(((jd l0 x6_1).f0) != ((jd l0 a1).f0))=true:=bne_iff_ne.mpr c11
         have H':=am H
         clear H
         have p352:0≤(x6_1:Int):=ozD (uq)
         have q352:x6_1<(l0.length:Int):=ozD (uq)
         obtain ⟨ad352,e352,hx352_0,hx352_1,hx352_2,hx352_3⟩:=jAa HR0.out x6_1 p352 q352
         cases e352
         replace hx352_0:=cb HB.out hx352_0
         replace hx352_1:=cb HB.out hx352_1
         replace hx352_2:=cb HB.out hx352_2
         replace hx352_3:=cb HB.out hx352_3
         replace p352:=ezT p352
         replace q352:=ezT q352
         have p353:0≤(a1:Int):=ozD (uq)
         have q353:a1<(l0.length:Int):=ozD (uq)
         obtain ⟨ad353,e353,hx353_0,hx353_1,hx353_2,hx353_3⟩:=jAa HR0.out a1 p353 q353
         obtain rfl:ad352=ad353:=(by injection e353)
         replace hx353_0:=cb HB.out hx353_0
         replace hx353_1:=cb HB.out hx353_1
         replace hx353_2:=cb HB.out hx353_2
         replace hx353_3:=cb HB.out hx353_3
         replace p353:=ezT p353
         replace q353:=ezT q353
         go_wp2
         repeat (go_quiet (fail);try go_wp2)
         go_meet
         case rel=>exact ⟨_,(false),(sq),H',⟨by have:=HK1.out;first | omega | exact Nat.le_refl _⟩,⟨rq HO_5.out⟩,⟨bq⟩⟩
       ·rw [if_neg c10] at H
        exact absurd H (by simp)
      ·rw [if_neg c9] at H
       exact absurd H (by simp)
     ·rw [if_neg c8] at H
      exact absurd H (by simp)
    ·rw [if_neg c7] at H
     have c7b0:decide (x6_1<(l0.length:Int))=false:=dzF c7
     clear c7
     (first | rw [c7b0] |(simp only [jcb,jdb];rw [c7b0]) | skip)
     have H':=am H
     clear H
     go_wp2
     repeat (go_quiet (fail);try go_wp2)
     go_meet
     case rel=>exact ⟨_,(false),(sq),H',⟨by have:=HK1.out;first | omega | exact Nat.le_refl _⟩,⟨rq HO_5.out⟩,⟨bq⟩⟩
   case rest =>
    clear HC6
    try clear c1
    try clear p2
    try clear p3
    try clear q3
    try clear hx3
    try clear c7
    try clear c7b0
    try clear c8
    try clear c8b0
    try clear c9
    try clear c9b0
    try clear c10
    try clear c10b0
    try clear c11
    try clear c11b0
    try clear c11b1
    try clear hx352_0
    try clear hx352_1
    try clear hx352_2
    try clear hx352_3
    try clear hx353_0
    try clear hx353_1
    try clear hx353_2
    try clear hx353_3
    try clear hx354_0
    try clear hx354_1
    try clear hx354_2
    try clear hx354_3
    try clear p2
    try clear p352
    try clear p353
    try clear p354
    try clear q352
    try clear q353
    try clear q354
    obtain ⟨kq,x36_5,rfl,HA,HJ5,HO_5,HB⟩:=hcut
    cases kq with
    | zero=>exact absurd HA.out (by simp [jV.j1])
    | succ kj5 =>
     have H:=HA.out
     clear HA
     simp only [jV.j1] at H
     by_cases c13:x36_5=true
     ·subst c13
      have H1:(if x5_1.length<17592186044416 then ((jfa.f kj5 l0 x6_1).bind fun t359=>(jV.l0 kj5 l0 a1 (x5_1 ++ [x6_1]) t359)) else (none))=some r:=by rw [if_pos rfl] at H;exact H
      clear H
      have H:=H1
      clear H1
      by_cases c14:x5_1.length<17592186044416
      ·rw [if_pos c14] at H
       have LMc14:=am c14
       clear c14
       obtain ⟨y356,hy356⟩:∃ y_:List Int,y_=(x5_1 ++ [x6_1]):=⟨_,rfl⟩
       replace H:((jfa.f kj5 l0 x6_1).bind fun t359=>(jV.l0 kj5 l0 a1 y356 t359))=some r:=by first |(rw [hy356];with_reducible exact H) |(have H2_:=(Option.bind_some _ _).symm.trans H;rw [hy356];with_reducible exact H2_) |(have H2_:=(Option.bind_some _ _).symm.trans H;with_reducible exact H2_) | with_reducible exact H |(rw [hy356];exact H) | exact H
       have Ny356:=am hy356
       clear hy356
       replace H:=bzS H
       obtain ⟨t359,A150,H⟩:=H
       replace H:(jV.l0 kj5 l0 a1 y356 t359)=some r:=H
       have A15:=am A150
       clear A150
       have H':=am H
       clear H
       go_wp2_with (first |((with_reducible refine jgb (b:=.append) (xs:=#[.tmp 40, .tmp 42]) rfl ?_);at_builtin;refine Kd.R_append (Kd.int .i64) (w0:=w) w.heap.size rfl (.tmp 40) (.tmp 42) 102 3 (.int .i64 0) 8 rfl Try.underlying102 info3 rfl (by decide) (by omega) u5 x5_1 x6_1 [.int .i64 x6_1] (fun _=>True) (fun _=>False) rfl rfl ?aP (fun _ hk=>hk.elim) ?aF ?aO ?aB ?aS ?aL ?_;(case aP=>exact rfl);(case aB=>exact (bq));(case aF=>exact (fun _ _=>trivial));(case aO=>exact (rq HO_5.out));(case aS=>exact (jv (bq)));(case aL=>have:=LMc14.out;omega);intro v357 w16 ho hb hg hat;rw [← Ny356.out] at ho;have n0_:=am (hb);have n1_:=am (ho);clear HB HO_5;have HB:=n0_;have HO358:=n1_;clear n0_ n1_ ho hb hg hat) |(go_at_call 79;(with_reducible refine (jfa.calls kj5 _ _ l0 x6_1 t359 _ ?side1 ?side2 A15.out).mono ?_);(case side1=>exact cq (Kd.jF HR0.out HB.out));(case side2=>exact HC0.out);rintro e w' ⟨rfl,⟨nd,rfl⟩⟩;(try first | exact ⟨rfl,_,World.drewN_drewN _ _ _⟩ | exact ⟨rfl,_,Eq.trans (World.drewN_drewN _ _ _) (congrArg (World.drewN _) (Nat.add_assoc _ _ _))⟩)))
       repeat (go_quiet (first |((with_reducible refine jgb (b:=.append) (xs:=#[.tmp 40, .tmp 42]) rfl ?_);at_builtin;refine Kd.R_append (Kd.int .i64) (w0:=w) w.heap.size rfl (.tmp 40) (.tmp 42) 102 3 (.int .i64 0) 8 rfl Try.underlying102 info3 rfl (by decide) (by omega) u5 x5_1 x6_1 [.int .i64 x6_1] (fun _=>True) (fun _=>False) rfl rfl ?aP (fun _ hk=>hk.elim) ?aF ?aO ?aB ?aS ?aL ?_;(case aP=>exact rfl);(case aB=>exact (bq));(case aF=>exact (fun _ _=>trivial));(case aO=>exact (rq HO_5.out));(case aS=>exact (jv (bq)));(case aL=>have:=LMc14.out;omega);intro v357 w16 ho hb hg hat;rw [← Ny356.out] at ho;have n0_:=am (hb);have n1_:=am (ho);clear HB HO_5;have HB:=n0_;have HO358:=n1_;clear n0_ n1_ ho hb hg hat) |(go_at_call 79;(with_reducible refine (jfa.calls kj5 _ _ l0 x6_1 t359 _ ?side1 ?side2 A15.out).mono ?_);(case side1=>exact cq (Kd.jF HR0.out HB.out));(case side2=>exact HC0.out);rintro e w' ⟨rfl,⟨nd,rfl⟩⟩;(try first | exact ⟨rfl,_,World.drewN_drewN _ _ _⟩ | exact ⟨rfl,_,Eq.trans (World.drewN_drewN _ _ _) (congrArg (World.drewN _) (Nat.add_assoc _ _ _))⟩)));try go_wp2_with (first |((with_reducible refine jgb (b:=.append) (xs:=#[.tmp 40, .tmp 42]) rfl ?_);at_builtin;refine Kd.R_append (Kd.int .i64) (w0:=w) w.heap.size rfl (.tmp 40) (.tmp 42) 102 3 (.int .i64 0) 8 rfl Try.underlying102 info3 rfl (by decide) (by omega) u5 x5_1 x6_1 [.int .i64 x6_1] (fun _=>True) (fun _=>False) rfl rfl ?aP (fun _ hk=>hk.elim) ?aF ?aO ?aB ?aS ?aL ?_;(case aP=>exact rfl);(case aB=>exact (bq));(case aF=>exact (fun _ _=>trivial));(case aO=>exact (rq HO_5.out));(case aS=>exact (jv (bq)));(case aL=>have:=LMc14.out;omega);intro v357 w16 ho hb hg hat;rw [← Ny356.out] at ho;have n0_:=am (hb);have n1_:=am (ho);clear HB HO_5;have HB:=n0_;have HO358:=n1_;clear n0_ n1_ ho hb hg hat) |(go_at_call 79;(with_reducible refine (jfa.calls kj5 _ _ l0 x6_1 t359 _ ?side1 ?side2 A15.out).mono ?_);(case side1=>exact cq (Kd.jF HR0.out HB.out));(case side2=>exact HC0.out);rintro e w' ⟨rfl,⟨nd,rfl⟩⟩;(try first | exact ⟨rfl,_,World.drewN_drewN _ _ _⟩ | exact ⟨rfl,_,Eq.trans (World.drewN_drewN _ _ _) (congrArg (World.drewN _) (Nat.add_assoc _ _ _))⟩))))
       go_roundg kj5
       case measure=>have:=HK1.out;have:=HJ5.out;omega
       case rel=>exact ⟨(y356),(t359),(sq),H',⟨by have:=HK1.out;have:=HJ5.out;omega⟩,⟨rq HO358.out⟩,⟨bq⟩⟩
      ·rw [if_neg c14] at H
       exact absurd H (by simp)
     ·replace c13:=Bool.eq_false_iff.mpr c13
      subst c13
      have H1:(some x5_1)=some r:=by rw [if_neg (show ¬ (false=true) by decide)] at H;exact H
      clear H
      have H:=H1
      clear H1
      obtain rfl:=Option.some.inj H
      go_wp2
      repeat (go_quiet (fail);try go_wp2)
      go_ret
      exact ⟨_,Y0,rq HO_5.out,bq⟩
def jPa.go (p : List S51) : List Int → Int → Int → Option (Option Int)
 | [],ex,_=>some (some ex)
 | k :: ks,ex,last=>if 0≤k then if k<(p.length:Int) then
   if (jd p k).f1=8 then if last≤8 then jPa.go p ks (ex+1) (jd p k).f1 else some none
   else if (jd p k).f1=9 then if last=8 then jPa.go p ks ex (jd p k).f1 else some none
   else if (jd p k).f1=10 then if last<10 then jPa.go p ks ex (jd p k).f1 else some none
   else some none
  else none else none
def jPa.f (l0 : List S51) (l1 : List Int) : Option Bool := if 1 ≤ l1.length then (jPa.go l0 (l1.drop 1) 0 7).bind fun r => match r with | none => some false | some ex => some (decide (1 < l1.length) && decide (ex ≤ 6)) else none
theorem jPa.step {p : List S51} {l : List Int} {k : Nat} {ex last : Int} {r : Option Int} (hk : k < l.length) (h : jPa.go p (l.drop k) ex last = some r) : jPa.go p (l[k] :: l.drop (k + 1)) ex last = some r := by
 rw [← List.drop_eq_getElem_cons hk];exact h
set_option maxHeartbeats 8000000 in
set_option maxRecDepth 100000 in
theorem jPa.calls (A0 : Option Addr) (c0 : Nat) (l0 : List S51) (A1 : Option Addr) (c1 : Nat) (l1 : List Int) (r : Bool) (w : World) (hr0 : Kd.C k51 w A0 l0.length l0) (hc0 : l0.length ≤ c0) (hr1 : Kd.C (Kd.int .i64) w A1 l1.length l1) (hc1 : l1.length ≤ c1) (h : jPa.f l0 l1 = some r) :
  Calls Try.prog 78 #[.slice A0 l0.length c0, .slice A1 l1.length c1] w fun e w'=>e=.returned (.bool r)∧jZa w w':=by
 have hu51:=Try.underlying51
 have hm:l1.length≤9223372036854775807:=Kd.C_max hr1
 simp only [jPa.f] at h
 by_cases h1:1≤l1.length
 ·rw [if_pos h1] at h
  obtain ⟨q,hq,h⟩:=bzS h
  have HR0:=am hr0
  have HR1:=am hr1
  have H0:=am hq
  have HZ:=am h
  have h1b:(1:Int)≤(l1.length:Int):=by omega
  obtain ⟨i03,hi03,_,hsz3,_⟩:=info_parts info3
  obtain ⟨A',hcut,hA',hC'⟩:=print_drop_of (P:=Try.prog) (Value.int .i64) (0:Int) 102 3 .i64 Try.underlying102 hi03 hsz3 A1 c1 l1 1 (by omega) h1b hc1
  replace hA':=hA' _ (Kd.reads_of_C hr1)
  rw [show ((1:Int)).toNat=1 from rfl] at hcut hA' hC'
  generalize hl2:l1.drop 1=l2 at hcut hA' hC' H0
  have hdl:l2.length<l1.length:=by rw [← hl2,List.length_drop];omega
  clear hl2
  have HS:=am hA'
  clear hr0 hr1 hq h hA' hi03 hsz3
  go_enter Try.func78,Try.ntmps78
  go_wp2
  go_loop [5,6,13] (fun i5 i6 i13=>∃ (k:Nat) (ex last:Int),i13=.int .i64 k∧i5=.int .i64 ex∧i6=.int .i64 last∧k≤l2.length∧0≤ex∧ex≤(k:Int)∧jq (jPa.go l0 (l2.drop k) ex last=some q)) (fun _ _ i13=>l2.length - (intOf i13).toNat)
  case atStart=>exact ⟨0,0,7,rfl,rfl,rfl,Nat.zero_le _,by omega,by omega,H0⟩
  case round =>
   clear H0
   obtain ⟨k,ex,last,rfl,rfl,rfl,hk,hx0,hx1,HA⟩:=hrel
   by_cases hlt:k<l2.length
   ·have HB:=am (jPa.step hlt HA.out)
    clear HA
    have HC:=HS.out
    obtain ⟨ad,rfl,hx⟩:=Kd.jpc (Kd.C_of_reads (h1:=fun _=>rfl) HC) (k:Int) (by omega) (by omega)
    have hrd:rd l2 (k:Int)=l2[k]:=by simp only [rd,Int.toNat_natCast,List.getD_eq_getElem?_getD,List.getElem?_eq_getElem hlt,Option.getD_some]
    rw [hrd,Int.toNat_natCast] at hx
    clear hrd HC
    have hgo:=HB.out
    generalize l2[k]=x at hgo hx
    simp only [jPa.go] at hgo
    clear HB
    by_cases h0:0≤x
    ·rw [if_pos h0] at hgo
     by_cases h2:x<(l0.length:Int)
     ·rw [if_pos h2] at hgo
      obtain ⟨ad0,rfl,hy0,hy1,hy2,hy3⟩:=jAa HR0.out x h0 h2
      generalize hkd:(jd l0 x).f1=kd at hgo hy1
      clear hkd
      have q2:=ezT h2
      have q0:=ezT h0
      clear h0 h2
      by_cases e8:kd=8
      ·subst e8
       rw [if_pos rfl] at hgo
       by_cases hl:last≤8
       ·rw [if_pos hl] at hgo
        have hlb:=dzT hl
        clear hl
        have HG:=am hgo
        clear hgo HZ
        go_wp2
        go_round
        case rel=>exact ⟨k+1,ex+1,_,by go_num,rfl,rfl,hlt,by omega,by omega,HG⟩
        case measure=>simp [intOf];omega
       ·rw [if_neg hl] at hgo
        have hlb:=dzF hl
        clear hl
        obtain rfl:none=q:=by simpa using hgo
        have HR:=am (by simpa using HZ.out:r=false)
        clear hgo HZ
        go_wp2
        go_ret
        exact ⟨by rw [HR.out];rfl,jZa.refl _⟩
      ·rw [if_neg e8] at hgo
       have e8b:(kd == 8)=false:=beq_eq_false_iff_ne.2 e8
       clear e8
       by_cases e9:kd=9
       ·subst e9
        rw [if_pos rfl] at hgo
        by_cases hl:last=8
        ·rw [if_pos hl] at hgo
         have hlb:(last == 8)=true:=beq_iff_eq.2 hl
         clear hl
         have HG:=am hgo
         clear hgo HZ
         go_wp2
         go_round
         case rel=>exact ⟨k+1,ex,_,by go_num,rfl,rfl,hlt,by omega,by omega,HG⟩
         case measure=>simp [intOf];omega
        ·rw [if_neg hl] at hgo
         have hlb:(last == 8)=false:=beq_eq_false_iff_ne.2 hl
         clear hl
         obtain rfl:none=q:=by simpa using hgo
         have HR:=am (by simpa using HZ.out:r=false)
         clear hgo HZ
         go_wp2
         go_ret
         exact ⟨by rw [HR.out];rfl,jZa.refl _⟩
       ·rw [if_neg e9] at hgo
        have e9b:(kd == 9)=false:=beq_eq_false_iff_ne.2 e9
        clear e9
        by_cases e10:kd=10
        ·subst e10
         rw [if_pos rfl] at hgo
         by_cases hl:last<10
         ·rw [if_pos hl] at hgo
          have hlb:=dzT hl
          clear hl
          have HG:=am hgo
          clear hgo HZ
          go_wp2
          go_round
          case rel=>exact ⟨k+1,ex,_,by go_num,rfl,rfl,hlt,by omega,by omega,HG⟩
          case measure=>simp [intOf];omega
         ·rw [if_neg hl] at hgo
          have hlb:=dzF hl
          clear hl
          obtain rfl:none=q:=by simpa using hgo
          have HR:=am (by simpa using HZ.out:r=false)
          clear hgo HZ
          go_wp2
          go_ret
          exact ⟨by rw [HR.out];rfl,jZa.refl _⟩
        ·rw [if_neg e10] at hgo
         have e10b:(kd == 10)=false:=beq_eq_false_iff_ne.2 e10
         clear e10
         obtain rfl:none=q:=by simpa using hgo
         have HR:=am (by simpa using HZ.out:r=false)
         clear hgo HZ
         go_wp2
         go_ret
         exact ⟨by rw [HR.out];rfl,jZa.refl _⟩
     ·rw [if_neg h2] at hgo
      cases hgo
    ·rw [if_neg h0] at hgo
     cases hgo
   ·have hgo:=HA.out
    rw [List.drop_eq_nil_of_le (by omega)] at hgo
    obtain rfl:some ex=q:=by simpa [jPa.go] using hgo
    clear hgo HA
    have HY:=am (Option.some.inj HZ.out)
    clear HZ
    by_cases h1c:1<l1.length
    ·have hb1:=dzT h1c
     go_wp2
     go_ret
     exact ⟨by rw [← HY.out,hb1];rfl,jZa.refl _⟩
    ·have hb1:=dzF h1c
     go_wp2
     go_ret
     exact ⟨by rw [← HY.out,hb1];rfl,jZa.refl _⟩
 ·rw [if_neg h1] at h
  cases h
end Go.Proofs.Ytbbmgiloikkpiaa.P
end
