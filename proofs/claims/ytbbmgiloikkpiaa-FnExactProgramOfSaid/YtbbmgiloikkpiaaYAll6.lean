/- One part of the proofs on this program: functions of the program as plain functions, that the code comes to them, and facts on them. -/
import Derived.Test.YtbbmgiloikkpiaaYAll1
import Derived.Test.YtbbmgiloikkpiaaYAll5
import Derived.Test.YtbbmgiloikkpiaaYWAuto
section
namespace Go.Proofs.Ytbbmgiloikkpiaa.P
open Go.RowKit Go.Proofs.YtbbmgiloikkpiaaW.PrintWords Go.Proofs.YtbbmgiloikkpiaaW.PrintLast Go.Proofs.YtbbmgiloikkpiaaW.PrintMore
attribute [local go_sem] jaa jY joa jna jR jQ jZ jX jh
set_option linter.unusedVariables false
set_option linter.unusedSimpArgs false
def jgc.f (a0_0 : Int) (a0_1 : Int) (a0_2 : Int) (a0_3 : Int) (a1_0 : Int) (a1_1 : Int) (a1_2 : Int) (a1_3 : Int) : Option (Bool) := if a0_0 = a1_0 then (if a0_1 = a1_1 then (if a0_2 = a1_2 then (if a0_3 = a1_3 then (some true) else (some false)) else (some false)) else (some false)) else (some false)
set_option maxHeartbeats 8000000 in
set_option maxRecDepth 100000 in
theorem jgc.calls (a0_0 : Int) (a0_1 : Int) (a0_2 : Int) (a0_3 : Int) (a1_0 : Int) (a1_1 : Int) (a1_2 : Int) (a1_3 : Int) (r : Bool) (w : World) (h : jgc.f a0_0 a0_1 a0_2 a0_3 a1_0 a1_1 a1_2 a1_3 = some r) :
  Calls Try.prog 29 #[.agg #[.int .i64 a0_0, .int .i64 a0_1, .int .i64 a0_2, .int .i64 a0_3], .agg #[.int .i64 a1_0, .int .i64 a1_1, .int .i64 a1_2, .int .i64 a1_3]] w fun e w'=>e=.returned (.bool r)∧Below w.heap.size w w':=by
 have hu51:=Try.underlying51
 have HB:=am (Below.refl w.heap.size w)
 have H:(if a0_0=a1_0 then (if a0_1=a1_1 then (if a0_2=a1_2 then (if a0_3=a1_3 then (some true) else (some false)) else (some false)) else (some false)) else (some false))=some r:=h
 clear h
 by_cases c3:a0_0=a1_0
 ·rw [if_pos c3] at H
  have c3b0:(a0_0 == a1_0)=true:=beq_iff_eq.mpr c3
  have c3b1:(a0_0 != a1_0)=false:=bne_eq_false_iff_eq.mpr c3
  clear c3
  by_cases c4:a0_1=a1_1
  ·rw [if_pos c4] at H
   have c4b0:(a0_1 == a1_1)=true:=beq_iff_eq.mpr c4
   have c4b1:(a0_1 != a1_1)=false:=bne_eq_false_iff_eq.mpr c4
   clear c4
   by_cases c5:a0_2=a1_2
   ·rw [if_pos c5] at H
    have c5b0:(a0_2 == a1_2)=true:=beq_iff_eq.mpr c5
    have c5b1:(a0_2 != a1_2)=false:=bne_eq_false_iff_eq.mpr c5
    clear c5
    by_cases c6:a0_3=a1_3
    ·rw [if_pos c6] at H
     have c6b0:(a0_3 == a1_3)=true:=beq_iff_eq.mpr c6
     have c6b1:(a0_3 != a1_3)=false:=bne_eq_false_iff_eq.mpr c6
     clear c6
     obtain rfl:=Option.some.inj H
     go_enter Try.func29,Try.ntmps29
     go_wp2_with (first |((with_reducible refine jB (N:=2) rfl ?_);refine bE (N:=2) (cs:=#[.int .i64 a0_0, .int .i64 a0_1, .int .i64 a0_2, .int .i64 a0_3]) (t:=51) ?_;intro gb383 hg w7 hbox hb;have BK383:=am (hbox);have GW383:=am ((Y1:w.heap.size≤gb383));have GE383:=am ((Y1:w.heap.size≤gb383));replace HB:=am (jc (bq) hb);clear hb hbox hg) |((with_reducible refine jB (N:=3) rfl ?_);refine bE (N:=3) (cs:=#[.int .i64 a1_0, .int .i64 a1_1, .int .i64 a1_2, .int .i64 a1_3]) (t:=51) ?_;intro gb384 hg w8 hbox hb;have BK384:=am (hbox);have GW384:=am ((Y17:w.heap.size≤gb384));have GE384:=am ((Y17:w.heap.size≤gb384));have NB383_384:=am ((Y33:gb383≠gb384));have NB384_383:=am ((Y34:gb384≠gb383));replace BK383:=am (je (g:=gb383) (o:=.cells #[.int .i64 a0_0, .int .i64 a0_1, .int .i64 a0_2, .int .i64 a0_3] 51 (0,0)) (kq BK383.out) hb);replace HB:=am (jc (Y35) hb);clear hb hbox hg;have hnb9:=NB383_384.out;have hnc9:=NB384_383.out;have hcz10_0:=bc0 BK383.out;have hcz10_1:=bc1 BK383.out;have hcz10_2:=bc2 BK383.out;have hcz10_3:=bc3 BK383.out;have hfz10_0:=ja BK383.out 0;have hfz10_1:=ja BK383.out 1;have hfz10_2:=ja BK383.out 2;have hfz10_3:=ja BK383.out 3;have hcz11_0:=bc0 BK384.out;have hcz11_1:=bc1 BK384.out;have hcz11_2:=bc2 BK384.out;have hcz11_3:=bc3 BK384.out;have hfz11_0:=ja BK384.out 0;have hfz11_1:=ja BK384.out 1;have hfz11_2:=ja BK384.out 2;have hfz11_3:=ja BK384.out 3))
     go_ret
     exact ⟨Y0,Y36⟩
    ·rw [if_neg c6] at H
     have c6b0:(a0_3 == a1_3)=false:=beq_eq_false_iff_ne.mpr c6
     have c6b1:(a0_3 != a1_3)=true:=bne_iff_ne.mpr c6
     obtain rfl:=Option.some.inj H
     go_enter Try.func29,Try.ntmps29
     go_wp2_with (first |((with_reducible refine jB (N:=2) rfl ?_);refine bE (N:=2) (cs:=#[.int .i64 a0_0, .int .i64 a0_1, .int .i64 a0_2, .int .i64 a0_3]) (t:=51) ?_;intro gb383 hg w12 hbox hb;have BK383:=am (hbox);have GW383:=am ((Y1:w.heap.size≤gb383));have GE383:=am ((Y1:w.heap.size≤gb383));replace HB:=am (jc (bq) hb);clear hb hbox hg) |((with_reducible refine jB (N:=3) rfl ?_);refine bE (N:=3) (cs:=#[.int .i64 a1_0, .int .i64 a1_1, .int .i64 a1_2, .int .i64 a1_3]) (t:=51) ?_;intro gb384 hg w13 hbox hb;have BK384:=am (hbox);have GW384:=am ((Y17:w.heap.size≤gb384));have GE384:=am ((Y17:w.heap.size≤gb384));have NB383_384:=am ((Y33:gb383≠gb384));have NB384_383:=am ((Y34:gb384≠gb383));replace BK383:=am (je (g:=gb383) (o:=.cells #[.int .i64 a0_0, .int .i64 a0_1, .int .i64 a0_2, .int .i64 a0_3] 51 (0,0)) (kq BK383.out) hb);replace HB:=am (jc (Y35) hb);clear hb hbox hg;have hnb14:=NB383_384.out;have hnc14:=NB384_383.out;have hcz15_0:=bc0 BK383.out;have hcz15_1:=bc1 BK383.out;have hcz15_2:=bc2 BK383.out;have hcz15_3:=bc3 BK383.out;have hfz15_0:=ja BK383.out 0;have hfz15_1:=ja BK383.out 1;have hfz15_2:=ja BK383.out 2;have hfz15_3:=ja BK383.out 3;have hcz16_0:=bc0 BK384.out;have hcz16_1:=bc1 BK384.out;have hcz16_2:=bc2 BK384.out;have hcz16_3:=bc3 BK384.out;have hfz16_0:=ja BK384.out 0;have hfz16_1:=ja BK384.out 1;have hfz16_2:=ja BK384.out 2;have hfz16_3:=ja BK384.out 3))
     go_ret
     exact ⟨Y0,Y36⟩
   ·rw [if_neg c5] at H
    have c5b0:(a0_2 == a1_2)=false:=beq_eq_false_iff_ne.mpr c5
    have c5b1:(a0_2 != a1_2)=true:=bne_iff_ne.mpr c5
    obtain rfl:=Option.some.inj H
    go_enter Try.func29,Try.ntmps29
    go_wp2_with (first |((with_reducible refine jB (N:=2) rfl ?_);refine bE (N:=2) (cs:=#[.int .i64 a0_0, .int .i64 a0_1, .int .i64 a0_2, .int .i64 a0_3]) (t:=51) ?_;intro gb383 hg w17 hbox hb;have BK383:=am (hbox);have GW383:=am ((Y1:w.heap.size≤gb383));have GE383:=am ((Y1:w.heap.size≤gb383));replace HB:=am (jc (bq) hb);clear hb hbox hg) |((with_reducible refine jB (N:=3) rfl ?_);refine bE (N:=3) (cs:=#[.int .i64 a1_0, .int .i64 a1_1, .int .i64 a1_2, .int .i64 a1_3]) (t:=51) ?_;intro gb384 hg w18 hbox hb;have BK384:=am (hbox);have GW384:=am ((Y17:w.heap.size≤gb384));have GE384:=am ((Y17:w.heap.size≤gb384));have NB383_384:=am ((Y33:gb383≠gb384));have NB384_383:=am ((Y34:gb384≠gb383));replace BK383:=am (je (g:=gb383) (o:=.cells #[.int .i64 a0_0, .int .i64 a0_1, .int .i64 a0_2, .int .i64 a0_3] 51 (0,0)) (kq BK383.out) hb);replace HB:=am (jc (Y35) hb);clear hb hbox hg;have hnb19:=NB383_384.out;have hnc19:=NB384_383.out;have hcz20_0:=bc0 BK383.out;have hcz20_1:=bc1 BK383.out;have hcz20_2:=bc2 BK383.out;have hcz20_3:=bc3 BK383.out;have hfz20_0:=ja BK383.out 0;have hfz20_1:=ja BK383.out 1;have hfz20_2:=ja BK383.out 2;have hfz20_3:=ja BK383.out 3;have hcz21_0:=bc0 BK384.out;have hcz21_1:=bc1 BK384.out;have hcz21_2:=bc2 BK384.out;have hcz21_3:=bc3 BK384.out;have hfz21_0:=ja BK384.out 0;have hfz21_1:=ja BK384.out 1;have hfz21_2:=ja BK384.out 2;have hfz21_3:=ja BK384.out 3))
    go_ret
    exact ⟨Y0,Y36⟩
  ·rw [if_neg c4] at H
   have c4b0:(a0_1 == a1_1)=false:=beq_eq_false_iff_ne.mpr c4
   have c4b1:(a0_1 != a1_1)=true:=bne_iff_ne.mpr c4
   obtain rfl:=Option.some.inj H
   go_enter Try.func29,Try.ntmps29
   go_wp2_with (first |((with_reducible refine jB (N:=2) rfl ?_);refine bE (N:=2) (cs:=#[.int .i64 a0_0, .int .i64 a0_1, .int .i64 a0_2, .int .i64 a0_3]) (t:=51) ?_;intro gb383 hg w22 hbox hb;have BK383:=am (hbox);have GW383:=am ((Y1:w.heap.size≤gb383));have GE383:=am ((Y1:w.heap.size≤gb383));replace HB:=am (jc (bq) hb);clear hb hbox hg) |((with_reducible refine jB (N:=3) rfl ?_);refine bE (N:=3) (cs:=#[.int .i64 a1_0, .int .i64 a1_1, .int .i64 a1_2, .int .i64 a1_3]) (t:=51) ?_;intro gb384 hg w23 hbox hb;have BK384:=am (hbox);have GW384:=am ((Y17:w.heap.size≤gb384));have GE384:=am ((Y17:w.heap.size≤gb384));have NB383_384:=am ((Y33:gb383≠gb384));have NB384_383:=am ((Y34:gb384≠gb383));replace BK383:=am (je (g:=gb383) (o:=.cells #[.int .i64 a0_0, .int .i64 a0_1, .int .i64 a0_2, .int .i64 a0_3] 51 (0,0)) (kq BK383.out) hb);replace HB:=am (jc (Y35) hb);clear hb hbox hg;have hnb24:=NB383_384.out;have hnc24:=NB384_383.out;have hcz25_0:=bc0 BK383.out;have hcz25_1:=bc1 BK383.out;have hcz25_2:=bc2 BK383.out;have hcz25_3:=bc3 BK383.out;have hfz25_0:=ja BK383.out 0;have hfz25_1:=ja BK383.out 1;have hfz25_2:=ja BK383.out 2;have hfz25_3:=ja BK383.out 3;have hcz26_0:=bc0 BK384.out;have hcz26_1:=bc1 BK384.out;have hcz26_2:=bc2 BK384.out;have hcz26_3:=bc3 BK384.out;have hfz26_0:=ja BK384.out 0;have hfz26_1:=ja BK384.out 1;have hfz26_2:=ja BK384.out 2;have hfz26_3:=ja BK384.out 3))
   go_ret
   exact ⟨Y0,Y36⟩
 ·rw [if_neg c3] at H
  have c3b0:(a0_0 == a1_0)=false:=beq_eq_false_iff_ne.mpr c3
  have c3b1:(a0_0 != a1_0)=true:=bne_iff_ne.mpr c3
  obtain rfl:=Option.some.inj H
  go_enter Try.func29,Try.ntmps29
  go_wp2_with (first |((with_reducible refine jB (N:=2) rfl ?_);refine bE (N:=2) (cs:=#[.int .i64 a0_0, .int .i64 a0_1, .int .i64 a0_2, .int .i64 a0_3]) (t:=51) ?_;intro gb383 hg w27 hbox hb;have BK383:=am (hbox);have GW383:=am ((Y1:w.heap.size≤gb383));have GE383:=am ((Y1:w.heap.size≤gb383));replace HB:=am (jc (bq) hb);clear hb hbox hg) |((with_reducible refine jB (N:=3) rfl ?_);refine bE (N:=3) (cs:=#[.int .i64 a1_0, .int .i64 a1_1, .int .i64 a1_2, .int .i64 a1_3]) (t:=51) ?_;intro gb384 hg w28 hbox hb;have BK384:=am (hbox);have GW384:=am ((Y17:w.heap.size≤gb384));have GE384:=am ((Y17:w.heap.size≤gb384));have NB383_384:=am ((Y33:gb383≠gb384));have NB384_383:=am ((Y34:gb384≠gb383));replace BK383:=am (je (g:=gb383) (o:=.cells #[.int .i64 a0_0, .int .i64 a0_1, .int .i64 a0_2, .int .i64 a0_3] 51 (0,0)) (kq BK383.out) hb);replace HB:=am (jc (Y35) hb);clear hb hbox hg;have hnb29:=NB383_384.out;have hnc29:=NB384_383.out;have hcz30_0:=bc0 BK383.out;have hcz30_1:=bc1 BK383.out;have hcz30_2:=bc2 BK383.out;have hcz30_3:=bc3 BK383.out;have hfz30_0:=ja BK383.out 0;have hfz30_1:=ja BK383.out 1;have hfz30_2:=ja BK383.out 2;have hfz30_3:=ja BK383.out 3;have hcz31_0:=bc0 BK384.out;have hcz31_1:=bc1 BK384.out;have hcz31_2:=bc2 BK384.out;have hcz31_3:=bc3 BK384.out;have hfz31_0:=ja BK384.out 0;have hfz31_1:=ja BK384.out 1;have hfz31_2:=ja BK384.out 2;have hfz31_3:=ja BK384.out 3))
  go_ret
  exact ⟨Y0,Y36⟩
def jD.l0 : Nat → List (S51) → List (S51) → Int → Option (Bool)
 | 0,_,_,_=>none
 | k+1,x0,x1,x5=>if x5<(x0.length:Int) then (if 0≤x5 then (if x5<(x1.length:Int) then ((jgc.f ((jd x0 x5).f0) ((jd x0 x5).f1) ((jd x0 x5).f2) ((jd x0 x5).f3) ((jd x1 x5).f0) ((jd x1 x5).f1) ((jd x1 x5).f2) ((jd x1 x5).f3)).bind fun t387=>(if t387=true then (jD.l0 k x0 x1 (wrap64 (x5+1))) else (some false))) else (none)) else (none)) else (some true)
def jD.f (k : Nat) (l0 : List (S51)) (l1 : List (S51)) : Option (Bool) := if (l0.length : Int) = (l1.length : Int) then (jD.l0 k l0 l1 0) else (some false)
def jD.T6 : Bool × List (List Nat × List Nat) := (true, [([], []), ([], []), ([0, 1], [0, 1]), ([2], [2]), ([], []), ([], []), ([4, 5], [4, 5]), ([6], [6]), ([3, 7], [3, 7]), ([8], [8])])
def jD.B6 : List Nat := [0, 0, 3, 7, 0, 0, 48, 112, 255, 511]
theorem jD.tab6 : rtab .any (opsOf Try.f11 6) = jD.T6 := by kernel_rfl
theorem jD.bits6 : jDc jD.T6.2 jD.B6 = true := by kernel_rfl
set_option maxHeartbeats 8000000 in
set_option maxRecDepth 100000 in
theorem jD.calls (k : Nat) (A0 : Option Addr) (c0 : Nat) (l0 : List (S51)) (A1 : Option Addr) (c1 : Nat) (l1 : List (S51)) (r : Bool) (w : World) (hr0 : Kd.C k51 w A0 l0.length l0) (hc0 : l0.length ≤ c0) (hr1 : Kd.C k51 w A1 l1.length l1) (hc1 : l1.length ≤ c1) (h : jD.f k l0 l1 = some r) :
  Calls Try.prog 11 #[.slice A0 l0.length c0, .slice A1 l1.length c1] w fun e w'=>e=.returned (.bool r)∧Below w.heap.size w w':=by
 have hu51:=Try.underlying51
 have HR0:=am hr0
 have HC0:=am hc0
 clear hr0 hc0
 have HR1:=am hr1
 have HC1:=am hc1
 clear hr1 hc1
 have HB:=am (Below.refl w.heap.size w)
 have H:(if (l0.length:Int)=(l1.length:Int) then (jD.l0 k l0 l1 0) else (some false))=some r:=h
 clear h
 by_cases c3:(l0.length:Int)=(l1.length:Int)
 ·rw [if_pos c3] at H
  have c3b0:((l0.length:Int) == (l1.length:Int))=true:=beq_iff_eq.mpr c3
  have c3b1:((l0.length:Int) != (l1.length:Int))=false:=bne_eq_false_iff_eq.mpr c3
  have c3b2:(l0.length == l1.length)=true:=by first | simpa using c3 |(simp at c3 ⊢;omega)
  clear c3
  have H':=am H
  clear H
  go_enter Try.func11,Try.ntmps11
  go_wp2
  go_loopg [5] k (fun kq v5 w'=>∃ (x5_1:Int),v5=.int .i64 x5_1∧jq (jD.l0 kq l0 l1 x5_1=some r)∧jq (kq≤k)∧jq (Below w.heap.size w w'))
  case atStart=>exact ⟨(0),(sq),H',⟨Nat.le_refl _⟩,⟨bq⟩⟩
  case round =>
   clear H'
   try clear c1
   try clear p2
   try clear c3
   try clear c3b0
   try clear c3b1
   try clear c3b2
   obtain ⟨x5_1,rfl,HA,HK1,HB⟩:=hrel
   cases gk with
   | zero=>exact absurd HA.out (by simp [jD.l0])
   | succ k1 =>
    have H:=HA.out
    clear HA
    simp only [jD.l0] at H
    by_cases c4:x5_1<(l0.length:Int)
    ·rw [if_pos c4] at H
     have c4b0:decide (x5_1<(l0.length:Int))=true:=dzT c4
     clear c4
     by_cases c5:0≤x5_1
     ·rw [if_pos c5] at H
      have c5b0:decide (0≤x5_1)=true:=dzT c5
      clear c5
      by_cases c6:x5_1<(l1.length:Int)
      ·rw [if_pos c6] at H
       have c6b0:decide (x5_1<(l1.length:Int))=true:=dzT c6
       clear c6
       replace H:=bzS H
       obtain ⟨t387,A70,H⟩:=H
       replace H:(if t387=true then (jD.l0 k1 l0 l1 (wrap64 (x5_1+1))) else (some false))=some r:=H
       have A7:=am A70
       clear A70
       by_cases c8:t387=true
       ·subst c8
        have H1:(jD.l0 k1 l0 l1 (wrap64 (x5_1+1)))=some r:=by rw [if_pos rfl] at H;exact H
        clear H
        have H:=H1
        clear H1
        have H':=am H
        clear H
        try go_wp2
        replace HB:=am (jm HB.out)
        have p385:0≤(x5_1:Int):=ozD (uq)
        have q385:x5_1<(l0.length:Int):=ozD (uq)
        obtain ⟨ad385,e385,hx385_0,hx385_1,hx385_2,hx385_3⟩:=jAa HR0.out x5_1 p385 q385
        have hw385_3:=hx385_3
        have hw385_2:=hx385_2
        have hw385_1:=hx385_1
        have hw385_0:=hx385_0
        cases e385
        replace hx385_0:=cb HB.out hx385_0
        replace hx385_1:=cb HB.out hx385_1
        replace hx385_2:=cb HB.out hx385_2
        replace hx385_3:=cb HB.out hx385_3
        replace p385:=ezT p385
        replace q385:=ezT q385
        have p386:0≤(x5_1:Int):=ozD (uq)
        have q386:x5_1<(l1.length:Int):=ozD (uq)
        obtain ⟨ad386,e386,hx386_0,hx386_1,hx386_2,hx386_3⟩:=jAa HR1.out x5_1 p386 q386
        have hw386_3:=hx386_3
        have hw386_2:=hx386_2
        have hw386_1:=hx386_1
        have hw386_0:=hx386_0
        cases e386
        replace hx386_0:=cb HB.out hx386_0
        replace hx386_1:=cb HB.out hx386_1
        replace hx386_2:=cb HB.out hx386_2
        replace hx386_3:=cb HB.out hx386_3
        replace p386:=ezT p386
        replace q386:=ezT q386
        refine jxc (n:=10) (S:=fun w'=>w'.cell? (ad385.add ((x5_1).toNat * 4))=some (.int .i64 ((jd l0 x5_1).f0))∧w'.cell? ⟨(ad385.add ((x5_1).toNat * 4)).block,(ad385.add ((x5_1).toNat * 4)).off+1,none⟩=some (.int .i64 ((jd l0 x5_1).f1))∧w'.cell? ⟨(ad385.add ((x5_1).toNat * 4)).block,(ad385.add ((x5_1).toNat * 4)).off+2,none⟩=some (.int .i64 ((jd l0 x5_1).f2))∧w'.cell? ⟨(ad385.add ((x5_1).toNat * 4)).block,(ad385.add ((x5_1).toNat * 4)).off+3,none⟩=some (.int .i64 ((jd l0 x5_1).f3))∧w'.cell? (ad386.add ((x5_1).toNat * 4))=some (.int .i64 ((jd l1 x5_1).f0))∧w'.cell? ⟨(ad386.add ((x5_1).toNat * 4)).block,(ad386.add ((x5_1).toNat * 4)).off+1,none⟩=some (.int .i64 ((jd l1 x5_1).f1))∧w'.cell? ⟨(ad386.add ((x5_1).toNat * 4)).block,(ad386.add ((x5_1).toNat * 4)).off+2,none⟩=some (.int .i64 ((jd l1 x5_1).f2))∧w'.cell? ⟨(ad386.add ((x5_1).toNat * 4)).block,(ad386.add ((x5_1).toNat * 4)).off+3,none⟩=some (.int .i64 ((jd l1 x5_1).f3))) (ds:=[]) #[false,false,false,false,false,false,false,false,false,false] (by kernel_rfl) rfl rfl ⟨((HB.out.cell (World.block_lt_of_cell? w _ hw385_0)).trans hw385_0),((HB.out.cell (World.block_lt_of_cell? w _ hw385_1)).trans hw385_1),((HB.out.cell (World.block_lt_of_cell? w _ hw385_2)).trans hw385_2),((HB.out.cell (World.block_lt_of_cell? w _ hw385_3)).trans hw385_3),((HB.out.cell (World.block_lt_of_cell? w _ hw386_0)).trans hw386_0),((HB.out.cell (World.block_lt_of_cell? w _ hw386_1)).trans hw386_1),((HB.out.cell (World.block_lt_of_cell? w _ hw386_2)).trans hw386_2),((HB.out.cell (World.block_lt_of_cell? w _ hw386_3)).trans hw386_3)⟩ (fun hHeld=>?_);refine jWb jD.tab6 jD.bits6 (fun HT_ HW_=>?_)
        generalize wr.drew=w9 at HB hx385_0 hx385_1 hx385_2 hx385_3 hx386_0 hx386_1 hx386_2 hx386_3 hHeld ⊢
        refine pq (i:=0) (N:=some 17) #[true,false,false,false,false,false,false,false,false,false] ?_
        refine pq (i:=1) (N:=some 18) #[true,true,false,false,false,false,false,false,false,false] ?_
        refine pq (i:=2) (N:=some 19) #[true,true,true,false,false,false,false,false,false,false] ?_
        refine pq (i:=4) (N:=some 21) #[true,true,true,false,true,false,false,false,false,false] ?_
        refine pq (i:=5) (N:=some 22) #[true,true,true,false,true,true,false,false,false,false] ?_
        refine pq (i:=6) (N:=some 23) #[true,true,true,false,true,true,true,false,false,false] ?_
        refine jcc (i:=3) (N:=some 20) (v:=?_) (a':=?_) #[true,true,true,true,true,true,true,false,false,false] rfl rfl (jnb HT_.out HW_.out (by kernel_rfl)) (fun _ _ _ h=>h) (Or.inl ⟨by rfl,?_⟩) hHeld ?_ ?_
        rotate_left
        ·rintro w' ⟨s0,s1,s2,s3,s4,s5,s6,s7⟩
         go_simp
         with_reducible rfl
        rotate_left
        ·exact sa
        refine jcc (i:=7) (N:=some 24) (v:=?_) (a':=?_) #[true,true,true,true,true,true,true,true,false,false] rfl rfl (jnb HT_.out HW_.out (by kernel_rfl)) (fun _ _ _ h=>h) (Or.inl ⟨by rfl,?_⟩) hHeld ?_ ?_
        rotate_left
        ·rintro w' ⟨s0,s1,s2,s3,s4,s5,s6,s7⟩
         go_simp
         with_reducible rfl
        rotate_left
        ·exact sa
        refine one_ (i:=8) (N:=some 25) #[true,true,true,true,true,true,true,true,true,false] rfl rfl (joc HT_.out (by kernel_rfl)) (by decide) (fun K hK=>?_)
        refine jqc Try.func29 (by kernel_rfl) rfl #[.agg #[.int .i64 ((jd l0 x5_1).f0), .int .i64 ((jd l0 x5_1).f1), .int .i64 ((jd l0 x5_1).f2), .int .i64 ((jd l0 x5_1).f3)], .agg #[.int .i64 ((jd l1 x5_1).f0), .int .i64 ((jd l1 x5_1).f1), .int .i64 ((jd l1 x5_1).f2), .int .i64 ((jd l1 x5_1).f3)]] (by rfl) rfl rfl (aq) ?_
        with_reducible refine (jgc.calls ((jd l0 x5_1).f0) ((jd l0 x5_1).f1) ((jd l0 x5_1).f2) ((jd l0 x5_1).f3) ((jd l1 x5_1).f0) ((jd l1 x5_1).f1) ((jd l1 x5_1).f2) ((jd l1 x5_1).f3) true _ A7.out).mono ?_
        rintro e w10 ⟨rfl,hb⟩
        refine ⟨_,rfl,?_⟩
        replace HB:=am (jc (bq) hb)
        (try clear hb)
        (try clear hb2)
        (try clear hk)
        (try clear hi)
        refine hK.out _ _ ⟨((HB.out.cell (World.block_lt_of_cell? w _ hw385_0)).trans hw385_0),((HB.out.cell (World.block_lt_of_cell? w _ hw385_1)).trans hw385_1),((HB.out.cell (World.block_lt_of_cell? w _ hw385_2)).trans hw385_2),((HB.out.cell (World.block_lt_of_cell? w _ hw385_3)).trans hw385_3),((HB.out.cell (World.block_lt_of_cell? w _ hw386_0)).trans hw386_0),((HB.out.cell (World.block_lt_of_cell? w _ hw386_1)).trans hw386_1),((HB.out.cell (World.block_lt_of_cell? w _ hw386_2)).trans hw386_2),((HB.out.cell (World.block_lt_of_cell? w _ hw386_3)).trans hw386_3)⟩ (fun hHeld=>?_)
        clear hK K
        refine jGb (a':=?_) ?_ ?_
        rotate_left
        ·show Act.put _ (some 25) _=_
         simp only [Act.put,List.setIfInBounds_toArray,List.set_cons_zero,List.set_cons_succ,jcb,jdb]
         rfl
        refine pq (i:=9) (N:=some 26) #[true,true,true,true,true,true,true,true,true,true] ?_
        refine done_ (jKc HT_.out (by kernel_rfl)) ?_
        try go_wp2
        go_roundg k1
        case measure=>have:=HK1.out;omega
        case rel=>exact ⟨(wrap64 (x5_1+1)),(sq),H',⟨by have:=HK1.out;omega⟩,⟨bq⟩⟩
       ·replace c8:=Bool.eq_false_iff.mpr c8
        subst c8
        have H1:(some false)=some r:=by rw [if_neg (show ¬ (false=true) by decide)] at H;exact H
        clear H
        have H:=H1
        clear H1
        obtain rfl:=Option.some.inj H
        try go_wp2
        replace HB:=am (jm HB.out)
        have p385:0≤(x5_1:Int):=ozD (uq)
        have q385:x5_1<(l0.length:Int):=ozD (uq)
        obtain ⟨ad385,e385,hx385_0,hx385_1,hx385_2,hx385_3⟩:=jAa HR0.out x5_1 p385 q385
        have hw385_3:=hx385_3
        have hw385_2:=hx385_2
        have hw385_1:=hx385_1
        have hw385_0:=hx385_0
        cases e385
        replace hx385_0:=cb HB.out hx385_0
        replace hx385_1:=cb HB.out hx385_1
        replace hx385_2:=cb HB.out hx385_2
        replace hx385_3:=cb HB.out hx385_3
        replace p385:=ezT p385
        replace q385:=ezT q385
        have p386:0≤(x5_1:Int):=ozD (uq)
        have q386:x5_1<(l1.length:Int):=ozD (uq)
        obtain ⟨ad386,e386,hx386_0,hx386_1,hx386_2,hx386_3⟩:=jAa HR1.out x5_1 p386 q386
        have hw386_3:=hx386_3
        have hw386_2:=hx386_2
        have hw386_1:=hx386_1
        have hw386_0:=hx386_0
        cases e386
        replace hx386_0:=cb HB.out hx386_0
        replace hx386_1:=cb HB.out hx386_1
        replace hx386_2:=cb HB.out hx386_2
        replace hx386_3:=cb HB.out hx386_3
        replace p386:=ezT p386
        replace q386:=ezT q386
        refine jxc (n:=10) (S:=fun w'=>w'.cell? (ad385.add ((x5_1).toNat * 4))=some (.int .i64 ((jd l0 x5_1).f0))∧w'.cell? ⟨(ad385.add ((x5_1).toNat * 4)).block,(ad385.add ((x5_1).toNat * 4)).off+1,none⟩=some (.int .i64 ((jd l0 x5_1).f1))∧w'.cell? ⟨(ad385.add ((x5_1).toNat * 4)).block,(ad385.add ((x5_1).toNat * 4)).off+2,none⟩=some (.int .i64 ((jd l0 x5_1).f2))∧w'.cell? ⟨(ad385.add ((x5_1).toNat * 4)).block,(ad385.add ((x5_1).toNat * 4)).off+3,none⟩=some (.int .i64 ((jd l0 x5_1).f3))∧w'.cell? (ad386.add ((x5_1).toNat * 4))=some (.int .i64 ((jd l1 x5_1).f0))∧w'.cell? ⟨(ad386.add ((x5_1).toNat * 4)).block,(ad386.add ((x5_1).toNat * 4)).off+1,none⟩=some (.int .i64 ((jd l1 x5_1).f1))∧w'.cell? ⟨(ad386.add ((x5_1).toNat * 4)).block,(ad386.add ((x5_1).toNat * 4)).off+2,none⟩=some (.int .i64 ((jd l1 x5_1).f2))∧w'.cell? ⟨(ad386.add ((x5_1).toNat * 4)).block,(ad386.add ((x5_1).toNat * 4)).off+3,none⟩=some (.int .i64 ((jd l1 x5_1).f3))) (ds:=[]) #[false,false,false,false,false,false,false,false,false,false] (by kernel_rfl) rfl rfl ⟨((HB.out.cell (World.block_lt_of_cell? w _ hw385_0)).trans hw385_0),((HB.out.cell (World.block_lt_of_cell? w _ hw385_1)).trans hw385_1),((HB.out.cell (World.block_lt_of_cell? w _ hw385_2)).trans hw385_2),((HB.out.cell (World.block_lt_of_cell? w _ hw385_3)).trans hw385_3),((HB.out.cell (World.block_lt_of_cell? w _ hw386_0)).trans hw386_0),((HB.out.cell (World.block_lt_of_cell? w _ hw386_1)).trans hw386_1),((HB.out.cell (World.block_lt_of_cell? w _ hw386_2)).trans hw386_2),((HB.out.cell (World.block_lt_of_cell? w _ hw386_3)).trans hw386_3)⟩ (fun hHeld=>?_);refine jWb jD.tab6 jD.bits6 (fun HT_ HW_=>?_)
        generalize wr.drew=w11 at HB hx385_0 hx385_1 hx385_2 hx385_3 hx386_0 hx386_1 hx386_2 hx386_3 hHeld ⊢
        refine pq (i:=0) (N:=some 17) #[true,false,false,false,false,false,false,false,false,false] ?_
        refine pq (i:=1) (N:=some 18) #[true,true,false,false,false,false,false,false,false,false] ?_
        refine pq (i:=2) (N:=some 19) #[true,true,true,false,false,false,false,false,false,false] ?_
        refine pq (i:=4) (N:=some 21) #[true,true,true,false,true,false,false,false,false,false] ?_
        refine pq (i:=5) (N:=some 22) #[true,true,true,false,true,true,false,false,false,false] ?_
        refine pq (i:=6) (N:=some 23) #[true,true,true,false,true,true,true,false,false,false] ?_
        refine jcc (i:=3) (N:=some 20) (v:=?_) (a':=?_) #[true,true,true,true,true,true,true,false,false,false] rfl rfl (jnb HT_.out HW_.out (by kernel_rfl)) (fun _ _ _ h=>h) (Or.inl ⟨by rfl,?_⟩) hHeld ?_ ?_
        rotate_left
        ·rintro w' ⟨s0,s1,s2,s3,s4,s5,s6,s7⟩
         go_simp
         with_reducible rfl
        rotate_left
        ·exact sa
        refine jcc (i:=7) (N:=some 24) (v:=?_) (a':=?_) #[true,true,true,true,true,true,true,true,false,false] rfl rfl (jnb HT_.out HW_.out (by kernel_rfl)) (fun _ _ _ h=>h) (Or.inl ⟨by rfl,?_⟩) hHeld ?_ ?_
        rotate_left
        ·rintro w' ⟨s0,s1,s2,s3,s4,s5,s6,s7⟩
         go_simp
         with_reducible rfl
        rotate_left
        ·exact sa
        refine one_ (i:=8) (N:=some 25) #[true,true,true,true,true,true,true,true,true,false] rfl rfl (joc HT_.out (by kernel_rfl)) (by decide) (fun K hK=>?_)
        refine jqc Try.func29 (by kernel_rfl) rfl #[.agg #[.int .i64 ((jd l0 x5_1).f0), .int .i64 ((jd l0 x5_1).f1), .int .i64 ((jd l0 x5_1).f2), .int .i64 ((jd l0 x5_1).f3)], .agg #[.int .i64 ((jd l1 x5_1).f0), .int .i64 ((jd l1 x5_1).f1), .int .i64 ((jd l1 x5_1).f2), .int .i64 ((jd l1 x5_1).f3)]] (by rfl) rfl rfl (aq) ?_
        with_reducible refine (jgc.calls ((jd l0 x5_1).f0) ((jd l0 x5_1).f1) ((jd l0 x5_1).f2) ((jd l0 x5_1).f3) ((jd l1 x5_1).f0) ((jd l1 x5_1).f1) ((jd l1 x5_1).f2) ((jd l1 x5_1).f3) false _ A7.out).mono ?_
        rintro e w12 ⟨rfl,hb⟩
        refine ⟨_,rfl,?_⟩
        replace HB:=am (jc (bq) hb)
        (try clear hb)
        (try clear hb2)
        (try clear hk)
        (try clear hi)
        refine hK.out _ _ ⟨((HB.out.cell (World.block_lt_of_cell? w _ hw385_0)).trans hw385_0),((HB.out.cell (World.block_lt_of_cell? w _ hw385_1)).trans hw385_1),((HB.out.cell (World.block_lt_of_cell? w _ hw385_2)).trans hw385_2),((HB.out.cell (World.block_lt_of_cell? w _ hw385_3)).trans hw385_3),((HB.out.cell (World.block_lt_of_cell? w _ hw386_0)).trans hw386_0),((HB.out.cell (World.block_lt_of_cell? w _ hw386_1)).trans hw386_1),((HB.out.cell (World.block_lt_of_cell? w _ hw386_2)).trans hw386_2),((HB.out.cell (World.block_lt_of_cell? w _ hw386_3)).trans hw386_3)⟩ (fun hHeld=>?_)
        clear hK K
        refine jGb (a':=?_) ?_ ?_
        rotate_left
        ·show Act.put _ (some 25) _=_
         simp only [Act.put,List.setIfInBounds_toArray,List.set_cons_zero,List.set_cons_succ,jcb,jdb]
         rfl
        refine pq (i:=9) (N:=some 26) #[true,true,true,true,true,true,true,true,true,true] ?_
        refine done_ (jKc HT_.out (by kernel_rfl)) ?_
        try go_wp2
        go_ret
        exact ⟨Y0,bq⟩
      ·rw [if_neg c6] at H
       exact absurd H (by simp)
     ·rw [if_neg c5] at H
      exact absurd H (by simp)
    ·rw [if_neg c4] at H
     have c4b0:decide (x5_1<(l0.length:Int))=false:=dzF c4
     clear c4
     obtain rfl:=Option.some.inj H
     go_wp2
     go_ret
     exact ⟨Y0,bq⟩
 ·rw [if_neg c3] at H
  have c3b0:((l0.length:Int) == (l1.length:Int))=false:=beq_eq_false_iff_ne.mpr c3
  have c3b1:((l0.length:Int) != (l1.length:Int))=true:=bne_iff_ne.mpr c3
  have c3b2:(l0.length == l1.length)=false:=by first | simpa using c3 |(simp at c3 ⊢;omega)
  obtain rfl:=Option.some.inj H
  go_enter Try.func11,Try.ntmps11
  go_wp2
  go_ret
  exact ⟨Y0,bq⟩
def jVb.f (a0_0 : ByteArray) (a0_1 : Int) (a1_0 : ByteArray) (a1_1 : Int) : Option (Bool) := if a0_0.toList = a1_0.toList then (if a0_1 = a1_1 then (some true) else (some false)) else (some false)
set_option maxHeartbeats 8000000 in
set_option maxRecDepth 100000 in
theorem jVb.calls (a0_0 : ByteArray) (a0_1 : Int) (a1_0 : ByteArray) (a1_1 : Int) (r : Bool) (w : World) (h : jVb.f a0_0 a0_1 a1_0 a1_1 = some r) :
  Calls Try.prog 50 #[.agg #[.string a0_0, .int .i64 a0_1], .agg #[.string a1_0, .int .i64 a1_1]] w fun e w'=>e=.returned (.bool r)∧Below w.heap.size w w':=by
 have hu75:=Try.underlying75
 have HB:=am (Below.refl w.heap.size w)
 have H:(if a0_0.toList=a1_0.toList then (if a0_1=a1_1 then (some true) else (some false)) else (some false))=some r:=h
 clear h
 by_cases c3:a0_0.toList=a1_0.toList
 ·rw [if_pos c3] at H
  have c3b0:(a0_0.toList == a1_0.toList)=true:=beq_iff_eq.mpr c3
  have c3b1:(a0_0.toList != a1_0.toList)=false:=bne_eq_false_iff_eq.mpr c3
  clear c3
  by_cases c4:a0_1=a1_1
  ·rw [if_pos c4] at H
   have c4b0:(a0_1 == a1_1)=true:=beq_iff_eq.mpr c4
   have c4b1:(a0_1 != a1_1)=false:=bne_eq_false_iff_eq.mpr c4
   clear c4
   obtain rfl:=Option.some.inj H
   go_enter Try.func50,Try.ntmps50
   go_wp2_with (first |((with_reducible refine jB (N:=2) rfl ?_);refine bE (N:=2) (cs:=#[.string a0_0, .int .i64 a0_1]) (t:=75) ?_;intro gb388 hg w5 hbox hb;have BK388:=am (hbox);have GW388:=am ((Y1:w.heap.size≤gb388));have GE388:=am ((Y1:w.heap.size≤gb388));replace HB:=am (jc (bq) hb);clear hb hbox hg) |((with_reducible refine jB (N:=3) rfl ?_);refine bE (N:=3) (cs:=#[.string a1_0, .int .i64 a1_1]) (t:=75) ?_;intro gb389 hg w6 hbox hb;have BK389:=am (hbox);have GW389:=am ((Y28:w.heap.size≤gb389));have GE389:=am ((Y28:w.heap.size≤gb389));have NB388_389:=am ((Y62:gb388≠gb389));have NB389_388:=am ((Y63:gb389≠gb388));replace BK388:=am (je (g:=gb388) (o:=.cells #[.string a0_0, .int .i64 a0_1] 75 (0,0)) (kq BK388.out) hb);replace HB:=am (jc (Y64) hb);clear hb hbox hg;have hnb7:=NB388_389.out;have hnc7:=NB389_388.out;have hcz8_0:=bc0 BK388.out;have hcz8_1:=bc1 BK388.out;have hfz8_0:=ja BK388.out 0;have hfz8_1:=ja BK388.out 1;have hcz9_0:=bc0 BK389.out;have hcz9_1:=bc1 BK389.out;have hfz9_0:=ja BK389.out 0;have hfz9_1:=ja BK389.out 1))
   go_ret
   exact ⟨Y0,Y65⟩
  ·rw [if_neg c4] at H
   have c4b0:(a0_1 == a1_1)=false:=beq_eq_false_iff_ne.mpr c4
   have c4b1:(a0_1 != a1_1)=true:=bne_iff_ne.mpr c4
   obtain rfl:=Option.some.inj H
   go_enter Try.func50,Try.ntmps50
   go_wp2_with (first |((with_reducible refine jB (N:=2) rfl ?_);refine bE (N:=2) (cs:=#[.string a0_0, .int .i64 a0_1]) (t:=75) ?_;intro gb388 hg w10 hbox hb;have BK388:=am (hbox);have GW388:=am ((Y1:w.heap.size≤gb388));have GE388:=am ((Y1:w.heap.size≤gb388));replace HB:=am (jc (bq) hb);clear hb hbox hg) |((with_reducible refine jB (N:=3) rfl ?_);refine bE (N:=3) (cs:=#[.string a1_0, .int .i64 a1_1]) (t:=75) ?_;intro gb389 hg w11 hbox hb;have BK389:=am (hbox);have GW389:=am ((Y28:w.heap.size≤gb389));have GE389:=am ((Y28:w.heap.size≤gb389));have NB388_389:=am ((Y62:gb388≠gb389));have NB389_388:=am ((Y63:gb389≠gb388));replace BK388:=am (je (g:=gb388) (o:=.cells #[.string a0_0, .int .i64 a0_1] 75 (0,0)) (kq BK388.out) hb);replace HB:=am (jc (Y64) hb);clear hb hbox hg;have hnb12:=NB388_389.out;have hnc12:=NB389_388.out;have hcz13_0:=bc0 BK388.out;have hcz13_1:=bc1 BK388.out;have hfz13_0:=ja BK388.out 0;have hfz13_1:=ja BK388.out 1;have hcz14_0:=bc0 BK389.out;have hcz14_1:=bc1 BK389.out;have hfz14_0:=ja BK389.out 0;have hfz14_1:=ja BK389.out 1))
   go_ret
   exact ⟨Y0,Y65⟩
 ·rw [if_neg c3] at H
  have c3b0:(a0_0.toList == a1_0.toList)=false:=beq_eq_false_iff_ne.mpr c3
  have c3b1:(a0_0.toList != a1_0.toList)=true:=bne_iff_ne.mpr c3
  obtain rfl:=Option.some.inj H
  go_enter Try.func50,Try.ntmps50
  go_wp2_with (first |((with_reducible refine jB (N:=2) rfl ?_);refine bE (N:=2) (cs:=#[.string a0_0, .int .i64 a0_1]) (t:=75) ?_;intro gb388 hg w15 hbox hb;have BK388:=am (hbox);have GW388:=am ((Y1:w.heap.size≤gb388));have GE388:=am ((Y1:w.heap.size≤gb388));replace HB:=am (jc (bq) hb);clear hb hbox hg) |((with_reducible refine jB (N:=3) rfl ?_);refine bE (N:=3) (cs:=#[.string a1_0, .int .i64 a1_1]) (t:=75) ?_;intro gb389 hg w16 hbox hb;have BK389:=am (hbox);have GW389:=am ((Y28:w.heap.size≤gb389));have GE389:=am ((Y28:w.heap.size≤gb389));have NB388_389:=am ((Y62:gb388≠gb389));have NB389_388:=am ((Y63:gb389≠gb388));replace BK388:=am (je (g:=gb388) (o:=.cells #[.string a0_0, .int .i64 a0_1] 75 (0,0)) (kq BK388.out) hb);replace HB:=am (jc (Y64) hb);clear hb hbox hg;have hnb17:=NB388_389.out;have hnc17:=NB389_388.out;have hcz18_0:=bc0 BK388.out;have hcz18_1:=bc1 BK388.out;have hfz18_0:=ja BK388.out 0;have hfz18_1:=ja BK388.out 1;have hcz19_0:=bc0 BK389.out;have hcz19_1:=bc1 BK389.out;have hfz19_0:=ja BK389.out 0;have hfz19_1:=ja BK389.out 1))
  go_ret
  exact ⟨Y0,Y65⟩
def jda.l0 : Nat → List (S75) → List (S75) → Int → Option (Bool)
 | 0,_,_,_=>none
 | k+1,x0,x1,x5=>if x5<(x0.length:Int) then (if 0≤x5 then (if x5<(x1.length:Int) then ((jVb.f ((jM x0 x5).f0) ((jM x0 x5).f1) ((jM x1 x5).f0) ((jM x1 x5).f1)).bind fun t392=>(if t392=true then (jda.l0 k x0 x1 (wrap64 (x5+1))) else (some false))) else (none)) else (none)) else (some true)
def jda.f (k : Nat) (l0 : List (S75)) (l1 : List (S75)) : Option (Bool) := if (l0.length : Int) = (l1.length : Int) then (jda.l0 k l0 l1 0) else (some false)
def jda.T6 : Bool × List (List Nat × List Nat) := (true, [([], []), ([], []), ([0, 1], [0, 1]), ([2], [2]), ([], []), ([], []), ([4, 5], [4, 5]), ([6], [6]), ([3, 7], [3, 7]), ([8], [8])])
def jda.B6 : List Nat := [0, 0, 3, 7, 0, 0, 48, 112, 255, 511]
theorem jda.tab6 : rtab .any (opsOf Try.f30 6) = jda.T6 := by kernel_rfl
theorem jda.bits6 : jDc jda.T6.2 jda.B6 = true := by kernel_rfl
set_option maxHeartbeats 8000000 in
set_option maxRecDepth 100000 in
theorem jda.calls (k : Nat) (A0 : Option Addr) (c0 : Nat) (l0 : List (S75)) (A1 : Option Addr) (c1 : Nat) (l1 : List (S75)) (r : Bool) (w : World) (hr0 : Kd.C k75 w A0 l0.length l0) (hc0 : l0.length ≤ c0) (hr1 : Kd.C k75 w A1 l1.length l1) (hc1 : l1.length ≤ c1) (h : jda.f k l0 l1 = some r) :
  Calls Try.prog 30 #[.slice A0 l0.length c0, .slice A1 l1.length c1] w fun e w'=>e=.returned (.bool r)∧Below w.heap.size w w':=by
 have hu75:=Try.underlying75
 have HR0:=am hr0
 have HC0:=am hc0
 clear hr0 hc0
 have HR1:=am hr1
 have HC1:=am hc1
 clear hr1 hc1
 have HB:=am (Below.refl w.heap.size w)
 have H:(if (l0.length:Int)=(l1.length:Int) then (jda.l0 k l0 l1 0) else (some false))=some r:=h
 clear h
 by_cases c3:(l0.length:Int)=(l1.length:Int)
 ·rw [if_pos c3] at H
  have c3b0:((l0.length:Int) == (l1.length:Int))=true:=beq_iff_eq.mpr c3
  have c3b1:((l0.length:Int) != (l1.length:Int))=false:=bne_eq_false_iff_eq.mpr c3
  have c3b2:(l0.length == l1.length)=true:=by first | simpa using c3 |(simp at c3 ⊢;omega)
  clear c3
  have H':=am H
  clear H
  go_enter Try.func30,Try.ntmps30
  go_wp2
  go_loopg [5] k (fun kq v5 w'=>∃ (x5_1:Int),v5=.int .i64 x5_1∧jq (jda.l0 kq l0 l1 x5_1=some r)∧jq (kq≤k)∧jq (Below w.heap.size w w'))
  case atStart=>exact ⟨(0),(sq),H',⟨Nat.le_refl _⟩,⟨bq⟩⟩
  case round =>
   clear H'
   try clear c1
   try clear p2
   try clear c3
   try clear c3b0
   try clear c3b1
   try clear c3b2
   obtain ⟨x5_1,rfl,HA,HK1,HB⟩:=hrel
   cases gk with
   | zero=>exact absurd HA.out (by simp [jda.l0])
   | succ k1 =>
    have H:=HA.out
    clear HA
    simp only [jda.l0] at H
    by_cases c4:x5_1<(l0.length:Int)
    ·rw [if_pos c4] at H
     have c4b0:decide (x5_1<(l0.length:Int))=true:=dzT c4
     clear c4
     by_cases c5:0≤x5_1
     ·rw [if_pos c5] at H
      have c5b0:decide (0≤x5_1)=true:=dzT c5
      clear c5
      by_cases c6:x5_1<(l1.length:Int)
      ·rw [if_pos c6] at H
       have c6b0:decide (x5_1<(l1.length:Int))=true:=dzT c6
       clear c6
       replace H:=bzS H
       obtain ⟨t392,A70,H⟩:=H
       replace H:(if t392=true then (jda.l0 k1 l0 l1 (wrap64 (x5_1+1))) else (some false))=some r:=H
       have A7:=am A70
       clear A70
       by_cases c8:t392=true
       ·subst c8
        have H1:(jda.l0 k1 l0 l1 (wrap64 (x5_1+1)))=some r:=by rw [if_pos rfl] at H;exact H
        clear H
        have H:=H1
        clear H1
        have H':=am H
        clear H
        try go_wp2
        replace HB:=am (jm HB.out)
        have p390:0≤(x5_1:Int):=ozD (uq)
        have q390:x5_1<(l0.length:Int):=ozD (uq)
        obtain ⟨ad390,e390,hx390_0,hx390_1⟩:=at_T75 HR0.out x5_1 p390 q390
        have hw390_1:=hx390_1
        have hw390_0:=hx390_0
        cases e390
        replace hx390_0:=cb HB.out hx390_0
        replace hx390_1:=cb HB.out hx390_1
        replace p390:=ezT p390
        replace q390:=ezT q390
        have p391:0≤(x5_1:Int):=ozD (uq)
        have q391:x5_1<(l1.length:Int):=ozD (uq)
        obtain ⟨ad391,e391,hx391_0,hx391_1⟩:=at_T75 HR1.out x5_1 p391 q391
        have hw391_1:=hx391_1
        have hw391_0:=hx391_0
        cases e391
        replace hx391_0:=cb HB.out hx391_0
        replace hx391_1:=cb HB.out hx391_1
        replace p391:=ezT p391
        replace q391:=ezT q391
        refine jxc (n:=10) (S:=fun w'=>w'.cell? (ad390.add ((x5_1).toNat * 2))=some (.string ((jM l0 x5_1).f0))∧w'.cell? ⟨(ad390.add ((x5_1).toNat * 2)).block,(ad390.add ((x5_1).toNat * 2)).off+1,none⟩=some (.int .i64 ((jM l0 x5_1).f1))∧w'.cell? (ad391.add ((x5_1).toNat * 2))=some (.string ((jM l1 x5_1).f0))∧w'.cell? ⟨(ad391.add ((x5_1).toNat * 2)).block,(ad391.add ((x5_1).toNat * 2)).off+1,none⟩=some (.int .i64 ((jM l1 x5_1).f1))) (ds:=[]) #[false,false,false,false,false,false,false,false,false,false] (by kernel_rfl) rfl rfl ⟨((HB.out.cell (World.block_lt_of_cell? w _ hw390_0)).trans hw390_0),((HB.out.cell (World.block_lt_of_cell? w _ hw390_1)).trans hw390_1),((HB.out.cell (World.block_lt_of_cell? w _ hw391_0)).trans hw391_0),((HB.out.cell (World.block_lt_of_cell? w _ hw391_1)).trans hw391_1)⟩ (fun hHeld=>?_);refine jWb jda.tab6 jda.bits6 (fun HT_ HW_=>?_)
        generalize wr.drew=w9 at HB hx390_0 hx390_1 hx391_0 hx391_1 hHeld ⊢
        refine pq (i:=0) (N:=some 17) #[true,false,false,false,false,false,false,false,false,false] ?_
        refine pq (i:=1) (N:=some 18) #[true,true,false,false,false,false,false,false,false,false] ?_
        refine pq (i:=2) (N:=some 19) #[true,true,true,false,false,false,false,false,false,false] ?_
        refine pq (i:=4) (N:=some 21) #[true,true,true,false,true,false,false,false,false,false] ?_
        refine pq (i:=5) (N:=some 22) #[true,true,true,false,true,true,false,false,false,false] ?_
        refine pq (i:=6) (N:=some 23) #[true,true,true,false,true,true,true,false,false,false] ?_
        refine jcc (i:=3) (N:=some 20) (v:=?_) (a':=?_) #[true,true,true,true,true,true,true,false,false,false] rfl rfl (jnb HT_.out HW_.out (by kernel_rfl)) (fun _ _ _ h=>h) (Or.inl ⟨by rfl,?_⟩) hHeld ?_ ?_
        rotate_left
        ·rintro w' ⟨s0,s1,s2,s3⟩
         go_simp
         with_reducible rfl
        rotate_left
        ·exact sa
        refine jcc (i:=7) (N:=some 24) (v:=?_) (a':=?_) #[true,true,true,true,true,true,true,true,false,false] rfl rfl (jnb HT_.out HW_.out (by kernel_rfl)) (fun _ _ _ h=>h) (Or.inl ⟨by rfl,?_⟩) hHeld ?_ ?_
        rotate_left
        ·rintro w' ⟨s0,s1,s2,s3⟩
         go_simp
         with_reducible rfl
        rotate_left
        ·exact sa
        refine one_ (i:=8) (N:=some 25) #[true,true,true,true,true,true,true,true,true,false] rfl rfl (joc HT_.out (by kernel_rfl)) (by decide) (fun K hK=>?_)
        refine jqc Try.func50 (by kernel_rfl) rfl #[.agg #[.string ((jM l0 x5_1).f0), .int .i64 ((jM l0 x5_1).f1)], .agg #[.string ((jM l1 x5_1).f0), .int .i64 ((jM l1 x5_1).f1)]] (by rfl) rfl rfl (aq) ?_
        with_reducible refine (jVb.calls ((jM l0 x5_1).f0) ((jM l0 x5_1).f1) ((jM l1 x5_1).f0) ((jM l1 x5_1).f1) true _ A7.out).mono ?_
        rintro e w10 ⟨rfl,hb⟩
        refine ⟨_,rfl,?_⟩
        replace HB:=am (jc (bq) hb)
        (try clear hb)
        (try clear hb2)
        (try clear hk)
        (try clear hi)
        refine hK.out _ _ ⟨((HB.out.cell (World.block_lt_of_cell? w _ hw390_0)).trans hw390_0),((HB.out.cell (World.block_lt_of_cell? w _ hw390_1)).trans hw390_1),((HB.out.cell (World.block_lt_of_cell? w _ hw391_0)).trans hw391_0),((HB.out.cell (World.block_lt_of_cell? w _ hw391_1)).trans hw391_1)⟩ (fun hHeld=>?_)
        clear hK K
        refine jGb (a':=?_) ?_ ?_
        rotate_left
        ·show Act.put _ (some 25) _=_
         simp only [Act.put,List.setIfInBounds_toArray,List.set_cons_zero,List.set_cons_succ,jcb,jdb]
         rfl
        refine pq (i:=9) (N:=some 26) #[true,true,true,true,true,true,true,true,true,true] ?_
        refine done_ (jKc HT_.out (by kernel_rfl)) ?_
        try go_wp2
        go_roundg k1
        case measure=>have:=HK1.out;omega
        case rel=>exact ⟨(wrap64 (x5_1+1)),(sq),H',⟨by have:=HK1.out;omega⟩,⟨bq⟩⟩
       ·replace c8:=Bool.eq_false_iff.mpr c8
        subst c8
        have H1:(some false)=some r:=by rw [if_neg (show ¬ (false=true) by decide)] at H;exact H
        clear H
        have H:=H1
        clear H1
        obtain rfl:=Option.some.inj H
        try go_wp2
        replace HB:=am (jm HB.out)
        have p390:0≤(x5_1:Int):=ozD (uq)
        have q390:x5_1<(l0.length:Int):=ozD (uq)
        obtain ⟨ad390,e390,hx390_0,hx390_1⟩:=at_T75 HR0.out x5_1 p390 q390
        have hw390_1:=hx390_1
        have hw390_0:=hx390_0
        cases e390
        replace hx390_0:=cb HB.out hx390_0
        replace hx390_1:=cb HB.out hx390_1
        replace p390:=ezT p390
        replace q390:=ezT q390
        have p391:0≤(x5_1:Int):=ozD (uq)
        have q391:x5_1<(l1.length:Int):=ozD (uq)
        obtain ⟨ad391,e391,hx391_0,hx391_1⟩:=at_T75 HR1.out x5_1 p391 q391
        have hw391_1:=hx391_1
        have hw391_0:=hx391_0
        cases e391
        replace hx391_0:=cb HB.out hx391_0
        replace hx391_1:=cb HB.out hx391_1
        replace p391:=ezT p391
        replace q391:=ezT q391
        refine jxc (n:=10) (S:=fun w'=>w'.cell? (ad390.add ((x5_1).toNat * 2))=some (.string ((jM l0 x5_1).f0))∧w'.cell? ⟨(ad390.add ((x5_1).toNat * 2)).block,(ad390.add ((x5_1).toNat * 2)).off+1,none⟩=some (.int .i64 ((jM l0 x5_1).f1))∧w'.cell? (ad391.add ((x5_1).toNat * 2))=some (.string ((jM l1 x5_1).f0))∧w'.cell? ⟨(ad391.add ((x5_1).toNat * 2)).block,(ad391.add ((x5_1).toNat * 2)).off+1,none⟩=some (.int .i64 ((jM l1 x5_1).f1))) (ds:=[]) #[false,false,false,false,false,false,false,false,false,false] (by kernel_rfl) rfl rfl ⟨((HB.out.cell (World.block_lt_of_cell? w _ hw390_0)).trans hw390_0),((HB.out.cell (World.block_lt_of_cell? w _ hw390_1)).trans hw390_1),((HB.out.cell (World.block_lt_of_cell? w _ hw391_0)).trans hw391_0),((HB.out.cell (World.block_lt_of_cell? w _ hw391_1)).trans hw391_1)⟩ (fun hHeld=>?_);refine jWb jda.tab6 jda.bits6 (fun HT_ HW_=>?_)
        generalize wr.drew=w11 at HB hx390_0 hx390_1 hx391_0 hx391_1 hHeld ⊢
        refine pq (i:=0) (N:=some 17) #[true,false,false,false,false,false,false,false,false,false] ?_
        refine pq (i:=1) (N:=some 18) #[true,true,false,false,false,false,false,false,false,false] ?_
        refine pq (i:=2) (N:=some 19) #[true,true,true,false,false,false,false,false,false,false] ?_
        refine pq (i:=4) (N:=some 21) #[true,true,true,false,true,false,false,false,false,false] ?_
        refine pq (i:=5) (N:=some 22) #[true,true,true,false,true,true,false,false,false,false] ?_
        refine pq (i:=6) (N:=some 23) #[true,true,true,false,true,true,true,false,false,false] ?_
        refine jcc (i:=3) (N:=some 20) (v:=?_) (a':=?_) #[true,true,true,true,true,true,true,false,false,false] rfl rfl (jnb HT_.out HW_.out (by kernel_rfl)) (fun _ _ _ h=>h) (Or.inl ⟨by rfl,?_⟩) hHeld ?_ ?_
        rotate_left
        ·rintro w' ⟨s0,s1,s2,s3⟩
         go_simp
         with_reducible rfl
        rotate_left
        ·exact sa
        refine jcc (i:=7) (N:=some 24) (v:=?_) (a':=?_) #[true,true,true,true,true,true,true,true,false,false] rfl rfl (jnb HT_.out HW_.out (by kernel_rfl)) (fun _ _ _ h=>h) (Or.inl ⟨by rfl,?_⟩) hHeld ?_ ?_
        rotate_left
        ·rintro w' ⟨s0,s1,s2,s3⟩
         go_simp
         with_reducible rfl
        rotate_left
        ·exact sa
        refine one_ (i:=8) (N:=some 25) #[true,true,true,true,true,true,true,true,true,false] rfl rfl (joc HT_.out (by kernel_rfl)) (by decide) (fun K hK=>?_)
        refine jqc Try.func50 (by kernel_rfl) rfl #[.agg #[.string ((jM l0 x5_1).f0), .int .i64 ((jM l0 x5_1).f1)], .agg #[.string ((jM l1 x5_1).f0), .int .i64 ((jM l1 x5_1).f1)]] (by rfl) rfl rfl (aq) ?_
        with_reducible refine (jVb.calls ((jM l0 x5_1).f0) ((jM l0 x5_1).f1) ((jM l1 x5_1).f0) ((jM l1 x5_1).f1) false _ A7.out).mono ?_
        rintro e w12 ⟨rfl,hb⟩
        refine ⟨_,rfl,?_⟩
        replace HB:=am (jc (bq) hb)
        (try clear hb)
        (try clear hb2)
        (try clear hk)
        (try clear hi)
        refine hK.out _ _ ⟨((HB.out.cell (World.block_lt_of_cell? w _ hw390_0)).trans hw390_0),((HB.out.cell (World.block_lt_of_cell? w _ hw390_1)).trans hw390_1),((HB.out.cell (World.block_lt_of_cell? w _ hw391_0)).trans hw391_0),((HB.out.cell (World.block_lt_of_cell? w _ hw391_1)).trans hw391_1)⟩ (fun hHeld=>?_)
        clear hK K
        refine jGb (a':=?_) ?_ ?_
        rotate_left
        ·show Act.put _ (some 25) _=_
         simp only [Act.put,List.setIfInBounds_toArray,List.set_cons_zero,List.set_cons_succ,jcb,jdb]
         rfl
        refine pq (i:=9) (N:=some 26) #[true,true,true,true,true,true,true,true,true,true] ?_
        refine done_ (jKc HT_.out (by kernel_rfl)) ?_
        try go_wp2
        go_ret
        exact ⟨Y0,bq⟩
      ·rw [if_neg c6] at H
       exact absurd H (by simp)
     ·rw [if_neg c5] at H
      exact absurd H (by simp)
    ·rw [if_neg c4] at H
     have c4b0:decide (x5_1<(l0.length:Int))=false:=dzF c4
     clear c4
     obtain rfl:=Option.some.inj H
     go_wp2
     go_ret
     exact ⟨Y0,bq⟩
 ·rw [if_neg c3] at H
  have c3b0:((l0.length:Int) == (l1.length:Int))=false:=beq_eq_false_iff_ne.mpr c3
  have c3b1:((l0.length:Int) != (l1.length:Int))=true:=bne_iff_ne.mpr c3
  have c3b2:(l0.length == l1.length)=false:=by first | simpa using c3 |(simp at c3 ⊢;omega)
  obtain rfl:=Option.some.inj H
  go_enter Try.func30,Try.ntmps30
  go_wp2
  go_ret
  exact ⟨Y0,bq⟩
def jJb.f (k : Nat) (l0_0 : List (S75)) (l1_0 : List (S75)) : Option (Bool) := (jda.f k l0_0 l1_0).bind fun t395 => (if t395 = true then (some true) else (some false))
set_option maxHeartbeats 8000000 in
set_option maxRecDepth 100000 in
theorem jJb.calls (k : Nat) (A0_0 : Option Addr) (c0_0 : Nat) (l0_0 : List (S75)) (A1_0 : Option Addr) (c1_0 : Nat) (l1_0 : List (S75)) (r : Bool) (w : World) (hr0_0 : Kd.C k75 w A0_0 l0_0.length l0_0) (hc0_0 : l0_0.length ≤ c0_0) (hr1_0 : Kd.C k75 w A1_0 l1_0.length l1_0) (hc1_0 : l1_0.length ≤ c1_0) (h : jJb.f k l0_0 l1_0 = some r) :
  Calls Try.prog 12 #[.agg #[.slice A0_0 l0_0.length c0_0], .agg #[.slice A1_0 l1_0.length c1_0]] w fun e w'=>e=.returned (.bool r)∧Below w.heap.size w w':=by
 have hu35:=Try.underlying35
 have HR0_0:=am hr0_0
 have HC0_0:=am hc0_0
 clear hr0_0 hc0_0
 have HR1_0:=am hr1_0
 have HC1_0:=am hc1_0
 clear hr1_0 hc1_0
 have HB:=am (Below.refl w.heap.size w)
 have H:((jda.f k l0_0 l1_0).bind fun t395=>(if t395=true then (some true) else (some false)))=some r:=h
 clear h
 replace H:=bzS H
 obtain ⟨t395,A30,H⟩:=H
 replace H:(if t395=true then (some true) else (some false))=some r:=H
 have A3:=am A30
 clear A30
 by_cases c4:t395=true
 ·subst c4
  have H1:(some true)=some r:=by rw [if_pos rfl] at H;exact H
  clear H
  have H:=H1
  clear H1
  obtain rfl:=Option.some.inj H
  go_enter Try.func12,Try.ntmps12
  go_wp2_with (first |((with_reducible refine jB (N:=2) rfl ?_);refine bE (N:=2) (cs:=#[.slice A0_0 l0_0.length c0_0]) (t:=35) ?_;intro gb393 hg w5 hbox hb;have BK393:=am (hbox);have GW393:=am ((Y1:w.heap.size≤gb393));have GE393:=am ((Y1:w.heap.size≤gb393));replace HB:=am (jc (bq) hb);clear hb hbox hg) |((with_reducible refine jB (N:=3) rfl ?_);refine bE (N:=3) (cs:=#[.slice A1_0 l1_0.length c1_0]) (t:=35) ?_;intro gb394 hg w6 hbox hb;have BK394:=am (hbox);have GW394:=am ((Y47:w.heap.size≤gb394));have GE394:=am ((Y47:w.heap.size≤gb394));have NB393_394:=am ((by rw [hg];exact Nat.ne_of_lt (jza (g:=gb393) (o:=.cells #[.slice A0_0 l0_0.length c0_0] 35 (0,0)) (kq BK393.out)):gb393≠gb394));have NB394_393:=am ((by rw [hg];exact Nat.ne_of_gt (jza (g:=gb393) (o:=.cells #[.slice A0_0 l0_0.length c0_0] 35 (0,0)) (kq BK393.out)):gb394≠gb393));replace BK393:=am (je (g:=gb393) (o:=.cells #[.slice A0_0 l0_0.length c0_0] 35 (0,0)) (kq BK393.out) hb);replace HB:=am (jc (Y91) hb);clear hb hbox hg;have hnb7:=NB393_394.out;have hnc7:=NB394_393.out;have hcz8_0:=bc0 BK393.out;have hfz8_0:=ja BK393.out 0;have hcz9_0:=bc0 BK394.out;have hfz9_0:=ja BK394.out 0) |((with_reducible refine jg (f:=30) rfl ?_);refine gL (some 9) Try.func30 #[.slice A0_0 l0_0.length c0_0, .slice A1_0 l1_0.length c1_0] ?_;(with_reducible refine (jda.calls k _ _ l0_0 _ _ l1_0 true _ ?side1 ?side2 ?side3 ?side4 A3.out).mono ?_);(case side1=>exact cq (Kd.jF HR0_0.out HB.out));(case side2=>exact HC0_0.out);(case side3=>exact cq (Kd.jF HR1_0.out HB.out));(case side4=>exact HC1_0.out);rintro e w10 ⟨rfl,hb⟩;refine ⟨_,rfl,?_⟩;replace BK393:=am (je (g:=gb393) (o:=.cells #[.slice A0_0 l0_0.length c0_0] 35 (0,0)) (kq BK393.out) hb);replace BK394:=am (je (g:=gb394) (o:=.cells #[.slice A1_0 l1_0.length c1_0] 35 (0,0)) (kq BK394.out) hb);replace HB:=am (jc (Y48) hb);(try clear hb);(try clear hb2);(try clear hk);(try clear hi)))
  go_ret
  exact ⟨Y0,Y48⟩
 ·replace c4:=Bool.eq_false_iff.mpr c4
  subst c4
  have H1:(some false)=some r:=by rw [if_neg (show ¬ (false=true) by decide)] at H;exact H
  clear H
  have H:=H1
  clear H1
  obtain rfl:=Option.some.inj H
  go_enter Try.func12,Try.ntmps12
  go_wp2_with (first |((with_reducible refine jB (N:=2) rfl ?_);refine bE (N:=2) (cs:=#[.slice A0_0 l0_0.length c0_0]) (t:=35) ?_;intro gb393 hg w11 hbox hb;have BK393:=am (hbox);have GW393:=am ((Y1:w.heap.size≤gb393));have GE393:=am ((Y1:w.heap.size≤gb393));replace HB:=am (jc (bq) hb);clear hb hbox hg) |((with_reducible refine jB (N:=3) rfl ?_);refine bE (N:=3) (cs:=#[.slice A1_0 l1_0.length c1_0]) (t:=35) ?_;intro gb394 hg w12 hbox hb;have BK394:=am (hbox);have GW394:=am ((Y47:w.heap.size≤gb394));have GE394:=am ((Y47:w.heap.size≤gb394));have NB393_394:=am ((by rw [hg];exact Nat.ne_of_lt (jza (g:=gb393) (o:=.cells #[.slice A0_0 l0_0.length c0_0] 35 (0,0)) (kq BK393.out)):gb393≠gb394));have NB394_393:=am ((by rw [hg];exact Nat.ne_of_gt (jza (g:=gb393) (o:=.cells #[.slice A0_0 l0_0.length c0_0] 35 (0,0)) (kq BK393.out)):gb394≠gb393));replace BK393:=am (je (g:=gb393) (o:=.cells #[.slice A0_0 l0_0.length c0_0] 35 (0,0)) (kq BK393.out) hb);replace HB:=am (jc (Y91) hb);clear hb hbox hg;have hnb13:=NB393_394.out;have hnc13:=NB394_393.out;have hcz14_0:=bc0 BK393.out;have hfz14_0:=ja BK393.out 0;have hcz15_0:=bc0 BK394.out;have hfz15_0:=ja BK394.out 0) |((with_reducible refine jg (f:=30) rfl ?_);refine gL (some 9) Try.func30 #[.slice A0_0 l0_0.length c0_0, .slice A1_0 l1_0.length c1_0] ?_;(with_reducible refine (jda.calls k _ _ l0_0 _ _ l1_0 false _ ?side1 ?side2 ?side3 ?side4 A3.out).mono ?_);(case side1=>exact cq (Kd.jF HR0_0.out HB.out));(case side2=>exact HC0_0.out);(case side3=>exact cq (Kd.jF HR1_0.out HB.out));(case side4=>exact HC1_0.out);rintro e w16 ⟨rfl,hb⟩;refine ⟨_,rfl,?_⟩;replace BK393:=am (je (g:=gb393) (o:=.cells #[.slice A0_0 l0_0.length c0_0] 35 (0,0)) (kq BK393.out) hb);replace BK394:=am (je (g:=gb394) (o:=.cells #[.slice A1_0 l1_0.length c1_0] 35 (0,0)) (kq BK394.out) hb);replace HB:=am (jc (Y48) hb);(try clear hb);(try clear hb2);(try clear hk);(try clear hi)))
  go_ret
  exact ⟨Y0,Y48⟩
def jhc.f (a0_0 : Int) (a0_1 : Int) (a0_2 : Int) (a1_0 : Int) (a1_1 : Int) (a1_2 : Int) : Option (Bool) := if a0_0 = a1_0 then (if a0_1 = a1_1 then (if a0_2 = a1_2 then (some true) else (some false)) else (some false)) else (some false)
set_option maxHeartbeats 8000000 in
set_option maxRecDepth 100000 in
theorem jhc.calls (a0_0 : Int) (a0_1 : Int) (a0_2 : Int) (a1_0 : Int) (a1_1 : Int) (a1_2 : Int) (r : Bool) (w : World) (h : jhc.f a0_0 a0_1 a0_2 a1_0 a1_1 a1_2 = some r) :
  Calls Try.prog 31 #[.agg #[.int .i64 a0_0, .int .i64 a0_1, .int .i64 a0_2], .agg #[.int .i64 a1_0, .int .i64 a1_1, .int .i64 a1_2]] w fun e w'=>e=.returned (.bool r)∧Below w.heap.size w w':=by
 have hu54:=Try.underlying54
 have HB:=am (Below.refl w.heap.size w)
 have H:(if a0_0=a1_0 then (if a0_1=a1_1 then (if a0_2=a1_2 then (some true) else (some false)) else (some false)) else (some false))=some r:=h
 clear h
 by_cases c3:a0_0=a1_0
 ·rw [if_pos c3] at H
  have c3b0:(a0_0 == a1_0)=true:=beq_iff_eq.mpr c3
  have c3b1:(a0_0 != a1_0)=false:=bne_eq_false_iff_eq.mpr c3
  clear c3
  by_cases c4:a0_1=a1_1
  ·rw [if_pos c4] at H
   have c4b0:(a0_1 == a1_1)=true:=beq_iff_eq.mpr c4
   have c4b1:(a0_1 != a1_1)=false:=bne_eq_false_iff_eq.mpr c4
   clear c4
   by_cases c5:a0_2=a1_2
   ·rw [if_pos c5] at H
    have c5b0:(a0_2 == a1_2)=true:=beq_iff_eq.mpr c5
    have c5b1:(a0_2 != a1_2)=false:=bne_eq_false_iff_eq.mpr c5
    clear c5
    obtain rfl:=Option.some.inj H
    go_enter Try.func31,Try.ntmps31
    go_wp2_with (first |((with_reducible refine jB (N:=2) rfl ?_);refine bE (N:=2) (cs:=#[.int .i64 a0_0, .int .i64 a0_1, .int .i64 a0_2]) (t:=54) ?_;intro gb396 hg w6 hbox hb;have BK396:=am (hbox);have GW396:=am ((Y1:w.heap.size≤gb396));have GE396:=am ((Y1:w.heap.size≤gb396));replace HB:=am (jc (bq) hb);clear hb hbox hg) |((with_reducible refine jB (N:=3) rfl ?_);refine bE (N:=3) (cs:=#[.int .i64 a1_0, .int .i64 a1_1, .int .i64 a1_2]) (t:=54) ?_;intro gb397 hg w7 hbox hb;have BK397:=am (hbox);have GW397:=am ((Y21:w.heap.size≤gb397));have GE397:=am ((Y21:w.heap.size≤gb397));have NB396_397:=am ((Y49:gb396≠gb397));have NB397_396:=am ((Y50:gb397≠gb396));replace BK396:=am (je (g:=gb396) (o:=.cells #[.int .i64 a0_0, .int .i64 a0_1, .int .i64 a0_2] 54 (0,0)) (kq BK396.out) hb);replace HB:=am (jc (Y51) hb);clear hb hbox hg;have hnb8:=NB396_397.out;have hnc8:=NB397_396.out;have hcz9_0:=bc0 BK396.out;have hcz9_1:=bc1 BK396.out;have hcz9_2:=bc2 BK396.out;have hfz9_0:=ja BK396.out 0;have hfz9_1:=ja BK396.out 1;have hfz9_2:=ja BK396.out 2;have hcz10_0:=bc0 BK397.out;have hcz10_1:=bc1 BK397.out;have hcz10_2:=bc2 BK397.out;have hfz10_0:=ja BK397.out 0;have hfz10_1:=ja BK397.out 1;have hfz10_2:=ja BK397.out 2))
    go_ret
    exact ⟨Y0,Y52⟩
   ·rw [if_neg c5] at H
    have c5b0:(a0_2 == a1_2)=false:=beq_eq_false_iff_ne.mpr c5
    have c5b1:(a0_2 != a1_2)=true:=bne_iff_ne.mpr c5
    obtain rfl:=Option.some.inj H
    go_enter Try.func31,Try.ntmps31
    go_wp2_with (first |((with_reducible refine jB (N:=2) rfl ?_);refine bE (N:=2) (cs:=#[.int .i64 a0_0, .int .i64 a0_1, .int .i64 a0_2]) (t:=54) ?_;intro gb396 hg w11 hbox hb;have BK396:=am (hbox);have GW396:=am ((Y1:w.heap.size≤gb396));have GE396:=am ((Y1:w.heap.size≤gb396));replace HB:=am (jc (bq) hb);clear hb hbox hg) |((with_reducible refine jB (N:=3) rfl ?_);refine bE (N:=3) (cs:=#[.int .i64 a1_0, .int .i64 a1_1, .int .i64 a1_2]) (t:=54) ?_;intro gb397 hg w12 hbox hb;have BK397:=am (hbox);have GW397:=am ((Y21:w.heap.size≤gb397));have GE397:=am ((Y21:w.heap.size≤gb397));have NB396_397:=am ((Y49:gb396≠gb397));have NB397_396:=am ((Y50:gb397≠gb396));replace BK396:=am (je (g:=gb396) (o:=.cells #[.int .i64 a0_0, .int .i64 a0_1, .int .i64 a0_2] 54 (0,0)) (kq BK396.out) hb);replace HB:=am (jc (Y51) hb);clear hb hbox hg;have hnb13:=NB396_397.out;have hnc13:=NB397_396.out;have hcz14_0:=bc0 BK396.out;have hcz14_1:=bc1 BK396.out;have hcz14_2:=bc2 BK396.out;have hfz14_0:=ja BK396.out 0;have hfz14_1:=ja BK396.out 1;have hfz14_2:=ja BK396.out 2;have hcz15_0:=bc0 BK397.out;have hcz15_1:=bc1 BK397.out;have hcz15_2:=bc2 BK397.out;have hfz15_0:=ja BK397.out 0;have hfz15_1:=ja BK397.out 1;have hfz15_2:=ja BK397.out 2))
    go_ret
    exact ⟨Y0,Y52⟩
  ·rw [if_neg c4] at H
   have c4b0:(a0_1 == a1_1)=false:=beq_eq_false_iff_ne.mpr c4
   have c4b1:(a0_1 != a1_1)=true:=bne_iff_ne.mpr c4
   obtain rfl:=Option.some.inj H
   go_enter Try.func31,Try.ntmps31
   go_wp2_with (first |((with_reducible refine jB (N:=2) rfl ?_);refine bE (N:=2) (cs:=#[.int .i64 a0_0, .int .i64 a0_1, .int .i64 a0_2]) (t:=54) ?_;intro gb396 hg w16 hbox hb;have BK396:=am (hbox);have GW396:=am ((Y1:w.heap.size≤gb396));have GE396:=am ((Y1:w.heap.size≤gb396));replace HB:=am (jc (bq) hb);clear hb hbox hg) |((with_reducible refine jB (N:=3) rfl ?_);refine bE (N:=3) (cs:=#[.int .i64 a1_0, .int .i64 a1_1, .int .i64 a1_2]) (t:=54) ?_;intro gb397 hg w17 hbox hb;have BK397:=am (hbox);have GW397:=am ((Y21:w.heap.size≤gb397));have GE397:=am ((Y21:w.heap.size≤gb397));have NB396_397:=am ((Y49:gb396≠gb397));have NB397_396:=am ((Y50:gb397≠gb396));replace BK396:=am (je (g:=gb396) (o:=.cells #[.int .i64 a0_0, .int .i64 a0_1, .int .i64 a0_2] 54 (0,0)) (kq BK396.out) hb);replace HB:=am (jc (Y51) hb);clear hb hbox hg;have hnb18:=NB396_397.out;have hnc18:=NB397_396.out;have hcz19_0:=bc0 BK396.out;have hcz19_1:=bc1 BK396.out;have hcz19_2:=bc2 BK396.out;have hfz19_0:=ja BK396.out 0;have hfz19_1:=ja BK396.out 1;have hfz19_2:=ja BK396.out 2;have hcz20_0:=bc0 BK397.out;have hcz20_1:=bc1 BK397.out;have hcz20_2:=bc2 BK397.out;have hfz20_0:=ja BK397.out 0;have hfz20_1:=ja BK397.out 1;have hfz20_2:=ja BK397.out 2))
   go_ret
   exact ⟨Y0,Y52⟩
 ·rw [if_neg c3] at H
  have c3b0:(a0_0 == a1_0)=false:=beq_eq_false_iff_ne.mpr c3
  have c3b1:(a0_0 != a1_0)=true:=bne_iff_ne.mpr c3
  obtain rfl:=Option.some.inj H
  go_enter Try.func31,Try.ntmps31
  go_wp2_with (first |((with_reducible refine jB (N:=2) rfl ?_);refine bE (N:=2) (cs:=#[.int .i64 a0_0, .int .i64 a0_1, .int .i64 a0_2]) (t:=54) ?_;intro gb396 hg w21 hbox hb;have BK396:=am (hbox);have GW396:=am ((Y1:w.heap.size≤gb396));have GE396:=am ((Y1:w.heap.size≤gb396));replace HB:=am (jc (bq) hb);clear hb hbox hg) |((with_reducible refine jB (N:=3) rfl ?_);refine bE (N:=3) (cs:=#[.int .i64 a1_0, .int .i64 a1_1, .int .i64 a1_2]) (t:=54) ?_;intro gb397 hg w22 hbox hb;have BK397:=am (hbox);have GW397:=am ((Y21:w.heap.size≤gb397));have GE397:=am ((Y21:w.heap.size≤gb397));have NB396_397:=am ((Y49:gb396≠gb397));have NB397_396:=am ((Y50:gb397≠gb396));replace BK396:=am (je (g:=gb396) (o:=.cells #[.int .i64 a0_0, .int .i64 a0_1, .int .i64 a0_2] 54 (0,0)) (kq BK396.out) hb);replace HB:=am (jc (Y51) hb);clear hb hbox hg;have hnb23:=NB396_397.out;have hnc23:=NB397_396.out;have hcz24_0:=bc0 BK396.out;have hcz24_1:=bc1 BK396.out;have hcz24_2:=bc2 BK396.out;have hfz24_0:=ja BK396.out 0;have hfz24_1:=ja BK396.out 1;have hfz24_2:=ja BK396.out 2;have hcz25_0:=bc0 BK397.out;have hcz25_1:=bc1 BK397.out;have hcz25_2:=bc2 BK397.out;have hfz25_0:=ja BK397.out 0;have hfz25_1:=ja BK397.out 1;have hfz25_2:=ja BK397.out 2))
  go_ret
  exact ⟨Y0,Y52⟩
def jba.l0 : Nat → List (S54) → List (S54) → Int → Option (Bool)
 | 0,_,_,_=>none
 | k+1,x0,x1,x5=>if x5<(x0.length:Int) then (if 0≤x5 then (if x5<(x1.length:Int) then ((jhc.f ((jN x0 x5).f0) ((jN x0 x5).f1) ((jN x0 x5).f2) ((jN x1 x5).f0) ((jN x1 x5).f1) ((jN x1 x5).f2)).bind fun t400=>(if t400=true then (jba.l0 k x0 x1 (wrap64 (x5+1))) else (some false))) else (none)) else (none)) else (some true)
def jba.f (k : Nat) (l0 : List (S54)) (l1 : List (S54)) : Option (Bool) := if (l0.length : Int) = (l1.length : Int) then (jba.l0 k l0 l1 0) else (some false)
def jba.T6 : Bool × List (List Nat × List Nat) := (true, [([], []), ([], []), ([0, 1], [0, 1]), ([2], [2]), ([], []), ([], []), ([4, 5], [4, 5]), ([6], [6]), ([3, 7], [3, 7]), ([8], [8])])
def jba.B6 : List Nat := [0, 0, 3, 7, 0, 0, 48, 112, 255, 511]
theorem jba.tab6 : rtab .any (opsOf Try.f13 6) = jba.T6 := by kernel_rfl
theorem jba.bits6 : jDc jba.T6.2 jba.B6 = true := by kernel_rfl
set_option maxHeartbeats 8000000 in
set_option maxRecDepth 100000 in
theorem jba.calls (k : Nat) (A0 : Option Addr) (c0 : Nat) (l0 : List (S54)) (A1 : Option Addr) (c1 : Nat) (l1 : List (S54)) (r : Bool) (w : World) (hr0 : Kd.C k54 w A0 l0.length l0) (hc0 : l0.length ≤ c0) (hr1 : Kd.C k54 w A1 l1.length l1) (hc1 : l1.length ≤ c1) (h : jba.f k l0 l1 = some r) :
  Calls Try.prog 13 #[.slice A0 l0.length c0, .slice A1 l1.length c1] w fun e w'=>e=.returned (.bool r)∧Below w.heap.size w w':=by
 have hu54:=Try.underlying54
 have HR0:=am hr0
 have HC0:=am hc0
 clear hr0 hc0
 have HR1:=am hr1
 have HC1:=am hc1
 clear hr1 hc1
 have HB:=am (Below.refl w.heap.size w)
 have H:(if (l0.length:Int)=(l1.length:Int) then (jba.l0 k l0 l1 0) else (some false))=some r:=h
 clear h
 by_cases c3:(l0.length:Int)=(l1.length:Int)
 ·rw [if_pos c3] at H
  have c3b0:((l0.length:Int) == (l1.length:Int))=true:=beq_iff_eq.mpr c3
  have c3b1:((l0.length:Int) != (l1.length:Int))=false:=bne_eq_false_iff_eq.mpr c3
  have c3b2:(l0.length == l1.length)=true:=by first | simpa using c3 |(simp at c3 ⊢;omega)
  clear c3
  have H':=am H
  clear H
  go_enter Try.func13,Try.ntmps13
  go_wp2
  go_loopg [5] k (fun kq v5 w'=>∃ (x5_1:Int),v5=.int .i64 x5_1∧jq (jba.l0 kq l0 l1 x5_1=some r)∧jq (kq≤k)∧jq (Below w.heap.size w w'))
  case atStart=>exact ⟨(0),(sq),H',⟨Nat.le_refl _⟩,⟨bq⟩⟩
  case round =>
   clear H'
   try clear c1
   try clear p2
   try clear c3
   try clear c3b0
   try clear c3b1
   try clear c3b2
   obtain ⟨x5_1,rfl,HA,HK1,HB⟩:=hrel
   cases gk with
   | zero=>exact absurd HA.out (by simp [jba.l0])
   | succ k1 =>
    have H:=HA.out
    clear HA
    simp only [jba.l0] at H
    by_cases c4:x5_1<(l0.length:Int)
    ·rw [if_pos c4] at H
     have c4b0:decide (x5_1<(l0.length:Int))=true:=dzT c4
     clear c4
     by_cases c5:0≤x5_1
     ·rw [if_pos c5] at H
      have c5b0:decide (0≤x5_1)=true:=dzT c5
      clear c5
      by_cases c6:x5_1<(l1.length:Int)
      ·rw [if_pos c6] at H
       have c6b0:decide (x5_1<(l1.length:Int))=true:=dzT c6
       clear c6
       replace H:=bzS H
       obtain ⟨t400,A70,H⟩:=H
       replace H:(if t400=true then (jba.l0 k1 l0 l1 (wrap64 (x5_1+1))) else (some false))=some r:=H
       have A7:=am A70
       clear A70
       by_cases c8:t400=true
       ·subst c8
        have H1:(jba.l0 k1 l0 l1 (wrap64 (x5_1+1)))=some r:=by rw [if_pos rfl] at H;exact H
        clear H
        have H:=H1
        clear H1
        have H':=am H
        clear H
        try go_wp2
        replace HB:=am (jm HB.out)
        have p398:0≤(x5_1:Int):=ozD (uq)
        have q398:x5_1<(l0.length:Int):=ozD (uq)
        obtain ⟨ad398,e398,hx398_0,hx398_1,hx398_2⟩:=at_T54 HR0.out x5_1 p398 q398
        have hw398_2:=hx398_2
        have hw398_1:=hx398_1
        have hw398_0:=hx398_0
        cases e398
        replace hx398_0:=cb HB.out hx398_0
        replace hx398_1:=cb HB.out hx398_1
        replace hx398_2:=cb HB.out hx398_2
        replace p398:=ezT p398
        replace q398:=ezT q398
        have p399:0≤(x5_1:Int):=ozD (uq)
        have q399:x5_1<(l1.length:Int):=ozD (uq)
        obtain ⟨ad399,e399,hx399_0,hx399_1,hx399_2⟩:=at_T54 HR1.out x5_1 p399 q399
        have hw399_2:=hx399_2
        have hw399_1:=hx399_1
        have hw399_0:=hx399_0
        cases e399
        replace hx399_0:=cb HB.out hx399_0
        replace hx399_1:=cb HB.out hx399_1
        replace hx399_2:=cb HB.out hx399_2
        replace p399:=ezT p399
        replace q399:=ezT q399
        refine jxc (n:=10) (S:=fun w'=>w'.cell? (ad398.add ((x5_1).toNat * 3))=some (.int .i64 ((jN l0 x5_1).f0))∧w'.cell? ⟨(ad398.add ((x5_1).toNat * 3)).block,(ad398.add ((x5_1).toNat * 3)).off+1,none⟩=some (.int .i64 ((jN l0 x5_1).f1))∧w'.cell? ⟨(ad398.add ((x5_1).toNat * 3)).block,(ad398.add ((x5_1).toNat * 3)).off+2,none⟩=some (.int .i64 ((jN l0 x5_1).f2))∧w'.cell? (ad399.add ((x5_1).toNat * 3))=some (.int .i64 ((jN l1 x5_1).f0))∧w'.cell? ⟨(ad399.add ((x5_1).toNat * 3)).block,(ad399.add ((x5_1).toNat * 3)).off+1,none⟩=some (.int .i64 ((jN l1 x5_1).f1))∧w'.cell? ⟨(ad399.add ((x5_1).toNat * 3)).block,(ad399.add ((x5_1).toNat * 3)).off+2,none⟩=some (.int .i64 ((jN l1 x5_1).f2))) (ds:=[]) #[false,false,false,false,false,false,false,false,false,false] (by kernel_rfl) rfl rfl ⟨((HB.out.cell (World.block_lt_of_cell? w _ hw398_0)).trans hw398_0),((HB.out.cell (World.block_lt_of_cell? w _ hw398_1)).trans hw398_1),((HB.out.cell (World.block_lt_of_cell? w _ hw398_2)).trans hw398_2),((HB.out.cell (World.block_lt_of_cell? w _ hw399_0)).trans hw399_0),((HB.out.cell (World.block_lt_of_cell? w _ hw399_1)).trans hw399_1),((HB.out.cell (World.block_lt_of_cell? w _ hw399_2)).trans hw399_2)⟩ (fun hHeld=>?_);refine jWb jba.tab6 jba.bits6 (fun HT_ HW_=>?_)
        generalize wr.drew=w9 at HB hx398_0 hx398_1 hx398_2 hx399_0 hx399_1 hx399_2 hHeld ⊢
        refine pq (i:=0) (N:=some 17) #[true,false,false,false,false,false,false,false,false,false] ?_
        refine pq (i:=1) (N:=some 18) #[true,true,false,false,false,false,false,false,false,false] ?_
        refine pq (i:=2) (N:=some 19) #[true,true,true,false,false,false,false,false,false,false] ?_
        refine pq (i:=4) (N:=some 21) #[true,true,true,false,true,false,false,false,false,false] ?_
        refine pq (i:=5) (N:=some 22) #[true,true,true,false,true,true,false,false,false,false] ?_
        refine pq (i:=6) (N:=some 23) #[true,true,true,false,true,true,true,false,false,false] ?_
        refine jcc (i:=3) (N:=some 20) (v:=?_) (a':=?_) #[true,true,true,true,true,true,true,false,false,false] rfl rfl (jnb HT_.out HW_.out (by kernel_rfl)) (fun _ _ _ h=>h) (Or.inl ⟨by rfl,?_⟩) hHeld ?_ ?_
        rotate_left
        ·rintro w' ⟨s0,s1,s2,s3,s4,s5⟩
         go_simp
         with_reducible rfl
        rotate_left
        ·exact sa
        refine jcc (i:=7) (N:=some 24) (v:=?_) (a':=?_) #[true,true,true,true,true,true,true,true,false,false] rfl rfl (jnb HT_.out HW_.out (by kernel_rfl)) (fun _ _ _ h=>h) (Or.inl ⟨by rfl,?_⟩) hHeld ?_ ?_
        rotate_left
        ·rintro w' ⟨s0,s1,s2,s3,s4,s5⟩
         go_simp
         with_reducible rfl
        rotate_left
        ·exact sa
        refine one_ (i:=8) (N:=some 25) #[true,true,true,true,true,true,true,true,true,false] rfl rfl (joc HT_.out (by kernel_rfl)) (by decide) (fun K hK=>?_)
        refine jqc Try.func31 (by kernel_rfl) rfl #[.agg #[.int .i64 ((jN l0 x5_1).f0), .int .i64 ((jN l0 x5_1).f1), .int .i64 ((jN l0 x5_1).f2)], .agg #[.int .i64 ((jN l1 x5_1).f0), .int .i64 ((jN l1 x5_1).f1), .int .i64 ((jN l1 x5_1).f2)]] (by rfl) rfl rfl (aq) ?_
        with_reducible refine (jhc.calls ((jN l0 x5_1).f0) ((jN l0 x5_1).f1) ((jN l0 x5_1).f2) ((jN l1 x5_1).f0) ((jN l1 x5_1).f1) ((jN l1 x5_1).f2) true _ A7.out).mono ?_
        rintro e w10 ⟨rfl,hb⟩
        refine ⟨_,rfl,?_⟩
        replace HB:=am (jc (bq) hb)
        (try clear hb)
        (try clear hb2)
        (try clear hk)
        (try clear hi)
        refine hK.out _ _ ⟨((HB.out.cell (World.block_lt_of_cell? w _ hw398_0)).trans hw398_0),((HB.out.cell (World.block_lt_of_cell? w _ hw398_1)).trans hw398_1),((HB.out.cell (World.block_lt_of_cell? w _ hw398_2)).trans hw398_2),((HB.out.cell (World.block_lt_of_cell? w _ hw399_0)).trans hw399_0),((HB.out.cell (World.block_lt_of_cell? w _ hw399_1)).trans hw399_1),((HB.out.cell (World.block_lt_of_cell? w _ hw399_2)).trans hw399_2)⟩ (fun hHeld=>?_)
        clear hK K
        refine jGb (a':=?_) ?_ ?_
        rotate_left
        ·show Act.put _ (some 25) _=_
         simp only [Act.put,List.setIfInBounds_toArray,List.set_cons_zero,List.set_cons_succ,jcb,jdb]
         rfl
        refine pq (i:=9) (N:=some 26) #[true,true,true,true,true,true,true,true,true,true] ?_
        refine done_ (jKc HT_.out (by kernel_rfl)) ?_
        try go_wp2
        go_roundg k1
        case measure=>have:=HK1.out;omega
        case rel=>exact ⟨(wrap64 (x5_1+1)),(sq),H',⟨by have:=HK1.out;omega⟩,⟨bq⟩⟩
       ·replace c8:=Bool.eq_false_iff.mpr c8
        subst c8
        have H1:(some false)=some r:=by rw [if_neg (show ¬ (false=true) by decide)] at H;exact H
        clear H
        have H:=H1
        clear H1
        obtain rfl:=Option.some.inj H
        try go_wp2
        replace HB:=am (jm HB.out)
        have p398:0≤(x5_1:Int):=ozD (uq)
        have q398:x5_1<(l0.length:Int):=ozD (uq)
        obtain ⟨ad398,e398,hx398_0,hx398_1,hx398_2⟩:=at_T54 HR0.out x5_1 p398 q398
        have hw398_2:=hx398_2
        have hw398_1:=hx398_1
        have hw398_0:=hx398_0
        cases e398
        replace hx398_0:=cb HB.out hx398_0
        replace hx398_1:=cb HB.out hx398_1
        replace hx398_2:=cb HB.out hx398_2
        replace p398:=ezT p398
        replace q398:=ezT q398
        have p399:0≤(x5_1:Int):=ozD (uq)
        have q399:x5_1<(l1.length:Int):=ozD (uq)
        obtain ⟨ad399,e399,hx399_0,hx399_1,hx399_2⟩:=at_T54 HR1.out x5_1 p399 q399
        have hw399_2:=hx399_2
        have hw399_1:=hx399_1
        have hw399_0:=hx399_0
        cases e399
        replace hx399_0:=cb HB.out hx399_0
        replace hx399_1:=cb HB.out hx399_1
        replace hx399_2:=cb HB.out hx399_2
        replace p399:=ezT p399
        replace q399:=ezT q399
        refine jxc (n:=10) (S:=fun w'=>w'.cell? (ad398.add ((x5_1).toNat * 3))=some (.int .i64 ((jN l0 x5_1).f0))∧w'.cell? ⟨(ad398.add ((x5_1).toNat * 3)).block,(ad398.add ((x5_1).toNat * 3)).off+1,none⟩=some (.int .i64 ((jN l0 x5_1).f1))∧w'.cell? ⟨(ad398.add ((x5_1).toNat * 3)).block,(ad398.add ((x5_1).toNat * 3)).off+2,none⟩=some (.int .i64 ((jN l0 x5_1).f2))∧w'.cell? (ad399.add ((x5_1).toNat * 3))=some (.int .i64 ((jN l1 x5_1).f0))∧w'.cell? ⟨(ad399.add ((x5_1).toNat * 3)).block,(ad399.add ((x5_1).toNat * 3)).off+1,none⟩=some (.int .i64 ((jN l1 x5_1).f1))∧w'.cell? ⟨(ad399.add ((x5_1).toNat * 3)).block,(ad399.add ((x5_1).toNat * 3)).off+2,none⟩=some (.int .i64 ((jN l1 x5_1).f2))) (ds:=[]) #[false,false,false,false,false,false,false,false,false,false] (by kernel_rfl) rfl rfl ⟨((HB.out.cell (World.block_lt_of_cell? w _ hw398_0)).trans hw398_0),((HB.out.cell (World.block_lt_of_cell? w _ hw398_1)).trans hw398_1),((HB.out.cell (World.block_lt_of_cell? w _ hw398_2)).trans hw398_2),((HB.out.cell (World.block_lt_of_cell? w _ hw399_0)).trans hw399_0),((HB.out.cell (World.block_lt_of_cell? w _ hw399_1)).trans hw399_1),((HB.out.cell (World.block_lt_of_cell? w _ hw399_2)).trans hw399_2)⟩ (fun hHeld=>?_);refine jWb jba.tab6 jba.bits6 (fun HT_ HW_=>?_)
        generalize wr.drew=w11 at HB hx398_0 hx398_1 hx398_2 hx399_0 hx399_1 hx399_2 hHeld ⊢
        refine pq (i:=0) (N:=some 17) #[true,false,false,false,false,false,false,false,false,false] ?_
        refine pq (i:=1) (N:=some 18) #[true,true,false,false,false,false,false,false,false,false] ?_
        refine pq (i:=2) (N:=some 19) #[true,true,true,false,false,false,false,false,false,false] ?_
        refine pq (i:=4) (N:=some 21) #[true,true,true,false,true,false,false,false,false,false] ?_
        refine pq (i:=5) (N:=some 22) #[true,true,true,false,true,true,false,false,false,false] ?_
        refine pq (i:=6) (N:=some 23) #[true,true,true,false,true,true,true,false,false,false] ?_
        refine jcc (i:=3) (N:=some 20) (v:=?_) (a':=?_) #[true,true,true,true,true,true,true,false,false,false] rfl rfl (jnb HT_.out HW_.out (by kernel_rfl)) (fun _ _ _ h=>h) (Or.inl ⟨by rfl,?_⟩) hHeld ?_ ?_
        rotate_left
        ·rintro w' ⟨s0,s1,s2,s3,s4,s5⟩
         go_simp
         with_reducible rfl
        rotate_left
        ·exact sa
        refine jcc (i:=7) (N:=some 24) (v:=?_) (a':=?_) #[true,true,true,true,true,true,true,true,false,false] rfl rfl (jnb HT_.out HW_.out (by kernel_rfl)) (fun _ _ _ h=>h) (Or.inl ⟨by rfl,?_⟩) hHeld ?_ ?_
        rotate_left
        ·rintro w' ⟨s0,s1,s2,s3,s4,s5⟩
         go_simp
         with_reducible rfl
        rotate_left
        ·exact sa
        refine one_ (i:=8) (N:=some 25) #[true,true,true,true,true,true,true,true,true,false] rfl rfl (joc HT_.out (by kernel_rfl)) (by decide) (fun K hK=>?_)
        refine jqc Try.func31 (by kernel_rfl) rfl #[.agg #[.int .i64 ((jN l0 x5_1).f0), .int .i64 ((jN l0 x5_1).f1), .int .i64 ((jN l0 x5_1).f2)], .agg #[.int .i64 ((jN l1 x5_1).f0), .int .i64 ((jN l1 x5_1).f1), .int .i64 ((jN l1 x5_1).f2)]] (by rfl) rfl rfl (aq) ?_
        with_reducible refine (jhc.calls ((jN l0 x5_1).f0) ((jN l0 x5_1).f1) ((jN l0 x5_1).f2) ((jN l1 x5_1).f0) ((jN l1 x5_1).f1) ((jN l1 x5_1).f2) false _ A7.out).mono ?_
        rintro e w12 ⟨rfl,hb⟩
        refine ⟨_,rfl,?_⟩
        replace HB:=am (jc (bq) hb)
        (try clear hb)
        (try clear hb2)
        (try clear hk)
        (try clear hi)
        refine hK.out _ _ ⟨((HB.out.cell (World.block_lt_of_cell? w _ hw398_0)).trans hw398_0),((HB.out.cell (World.block_lt_of_cell? w _ hw398_1)).trans hw398_1),((HB.out.cell (World.block_lt_of_cell? w _ hw398_2)).trans hw398_2),((HB.out.cell (World.block_lt_of_cell? w _ hw399_0)).trans hw399_0),((HB.out.cell (World.block_lt_of_cell? w _ hw399_1)).trans hw399_1),((HB.out.cell (World.block_lt_of_cell? w _ hw399_2)).trans hw399_2)⟩ (fun hHeld=>?_)
        clear hK K
        refine jGb (a':=?_) ?_ ?_
        rotate_left
        ·show Act.put _ (some 25) _=_
         simp only [Act.put,List.setIfInBounds_toArray,List.set_cons_zero,List.set_cons_succ,jcb,jdb]
         rfl
        refine pq (i:=9) (N:=some 26) #[true,true,true,true,true,true,true,true,true,true] ?_
        refine done_ (jKc HT_.out (by kernel_rfl)) ?_
        try go_wp2
        go_ret
        exact ⟨Y0,bq⟩
      ·rw [if_neg c6] at H
       exact absurd H (by simp)
     ·rw [if_neg c5] at H
      exact absurd H (by simp)
    ·rw [if_neg c4] at H
     have c4b0:decide (x5_1<(l0.length:Int))=false:=dzF c4
     clear c4
     obtain rfl:=Option.some.inj H
     go_wp2
     go_ret
     exact ⟨Y0,bq⟩
 ·rw [if_neg c3] at H
  have c3b0:((l0.length:Int) == (l1.length:Int))=false:=beq_eq_false_iff_ne.mpr c3
  have c3b1:((l0.length:Int) != (l1.length:Int))=true:=bne_iff_ne.mpr c3
  have c3b2:(l0.length == l1.length)=false:=by first | simpa using c3 |(simp at c3 ⊢;omega)
  obtain rfl:=Option.some.inj H
  go_enter Try.func13,Try.ntmps13
  go_wp2
  go_ret
  exact ⟨Y0,bq⟩
def jMa.l0 : Nat → Int → ByteArray → Option (ByteArray)
 | 0,_,_=>none
 | k+1,x0,x3=>if x0 > 0 then ((some (([(wrap64 (48+(Int.tmod x0 10))) % 256]:List Int):List Int)).bind fun y401=>(if (strOfNums y401).size+x3.size≤9223372036854775807 then (jMa.l0 k (wrap64 (Int.tdiv x0 10)) ((strOfNums y401) ++ x3)) else (none))) else (if 1+x3.size≤9223372036854775807 then (some ((⟨#[109]⟩:ByteArray) ++ x3)) else (none))
def jMa.f (k : Nat) (a0 : Int) : Option (ByteArray) := if a0 ≤ 0 then (some (⟨#[109, 48]⟩ : ByteArray)) else (jMa.l0 k a0 (⟨#[]⟩ : ByteArray))
set_option maxHeartbeats 8000000 in
set_option maxRecDepth 100000 in
theorem jMa.calls (k : Nat) (a0 : Int) (r : ByteArray) (w : World) (h : jMa.f k a0 = some r) :
  Calls Try.prog 51 #[.int .i64 a0] w fun e w'=>e=.returned (.string r)∧Below w.heap.size w w':=by
 have HB:=am (Below.refl w.heap.size w)
 have H:(if a0≤0 then (some (⟨#[109,48]⟩:ByteArray)) else (jMa.l0 k a0 (⟨#[]⟩:ByteArray)))=some r:=h
 clear h
 by_cases c2:a0≤0
 ·rw [if_pos c2] at H
  have c2b0:decide (a0≤0)=true:=dzT c2
  clear c2
  obtain rfl:=Option.some.inj H
  go_enter Try.func51,Try.ntmps51
  go_wp2
  go_ret
  exact ⟨Y0,bq⟩
 ·rw [if_neg c2] at H
  have c2b0:decide (a0≤0)=false:=dzF c2
  clear c2
  have H':=am H
  clear H
  go_enter Try.func51,Try.ntmps51
  go_wp2
  go_loopg [0,3] k (fun kq v0 v3 w'=>∃ (x0_1:Int) (x3_1:ByteArray),v0=.int .i64 x0_1∧v3=.string x3_1∧jq (jMa.l0 kq x0_1 x3_1=some r)∧jq (kq≤k)∧jq (Below w.heap.size w w'))
  case atStart=>exact ⟨(a0),((⟨#[]⟩:ByteArray)),(sq),(sq),H',⟨Nat.le_refl _⟩,⟨bq⟩⟩
  case round =>
   clear H'
   try clear c2
   try clear c2b0
   try clear p2
   obtain ⟨x0_1,x3_1,rfl,rfl,HA,HK1,HB⟩:=hrel
   cases gk with
   | zero=>exact absurd HA.out (by simp [jMa.l0])
   | succ k1 =>
    have H:=HA.out
    clear HA
    simp only [jMa.l0] at H
    by_cases c3:x0_1 > 0
    ·rw [if_pos c3] at H
     have c3b0:decide (0<x0_1)=true:=dzT c3
     clear c3
     obtain ⟨y401,hy401⟩:∃ y_:List Int,y_=(([(wrap64 (48+(Int.tmod x0_1 10))) % 256]:List Int)):=⟨_,rfl⟩
     replace H:(if (strOfNums y401).size+x3_1.size≤9223372036854775807 then (jMa.l0 k1 (wrap64 (Int.tdiv x0_1 10)) ((strOfNums y401) ++ x3_1)) else (none))=some r:=by first |(rw [hy401];with_reducible exact H) |(have H2_:=(Option.bind_some _ _).symm.trans H;rw [hy401];with_reducible exact H2_) |(have H2_:=(Option.bind_some _ _).symm.trans H;with_reducible exact H2_) | with_reducible exact H |(rw [hy401];exact H) | exact H
     have Ny401:=am hy401
     clear hy401
     by_cases c4:(strOfNums y401).size+x3_1.size≤9223372036854775807
     ·rw [if_pos c4] at H
      have c4b0:=ezT c4
      have c4b1:decide ((strOfNums y401).size+x3_1.size≤9223372036854775807)=true:=dzT c4
      try have c4b2:(9223372036854775807<(strOfNums y401).size+x3_1.size)=False:=eq_false (Nat.not_lt.2 c4)
      have H':=am H
      clear H
      go_wp2_with (first |((with_reducible refine jB (N:=12) rfl ?_);refine Kd.R_lit (Kd.int .u8) _ 5 ?hg (N:=12) ?hd (xs:=([(wrap64 (48+(Int.tmod x0_1 10))) % 256]:List Int)) (inner:=[.int .u8 ((wrap64 (48+(Int.tmod x0_1 10))) % 256)]) (ok:=fun _=>True) (okp:=fun _=>True) ?hr ?hp (fun _ hk=>hk) trivial (Below.refl _ _) (Nat.le_refl _) (by simp) ?_;(case hd=>rfl);(case hg=>rfl);(case hr=>exact Y4);(case hp=>exact (Reps.one (show Kd.M (Kd.int .u8) _ _ _ ((wrap64 (48+(Int.tmod x0_1 10))) % 256) [.int .u8 ((wrap64 (48+(Int.tmod x0_1 10))) % 256)] from rfl) (Reps.none _ _)));intro v402 w5 ho6 hb hg_ hnew_;clear hg_ hnew_;(first | rw [← Ny401.out] at ho6 |(simp only [Int.reduceToNat] at ho6;rw [← Ny401.out] at ho6));have HO403:=am (Kd.jra ho6 (jv (bq)));replace HB:=am (jc (bq) hb);clear hb ho6;have hcv7:=own_string (P:=Try.prog) Try.underlying96 Try.underlying5 Try.underlying9 (Kd.own_of_R HO403.out)))
      go_roundg k1
      case measure=>have:=HK1.out;omega
      case rel=>exact ⟨(wrap64 (Int.tdiv x0_1 10)),((strOfNums y401) ++ x3_1),(sq),(sq),H',⟨by have:=HK1.out;omega⟩,⟨bq⟩⟩
     ·rw [if_neg c4] at H
      exact absurd H (by simp)
    ·rw [if_neg c3] at H
     have c3b0:decide (0<x0_1)=false:=dzF c3
     clear c3
     by_cases c8:1+x3_1.size≤9223372036854775807
     ·rw [if_pos c8] at H
      have c8b0:=ezT c8
      have c8b1:decide (1+x3_1.size≤9223372036854775807)=true:=dzT c8
      try have c8b2:(9223372036854775807<1+x3_1.size)=False:=eq_false (Nat.not_lt.2 c8)
      obtain rfl:=Option.some.inj H
      go_wp2
      go_ret
      exact ⟨Y0,bq⟩
     ·rw [if_neg c8] at H
      exact absurd H (by simp)
def jpa.l0 : Nat → List (S75) → Int → Int → Option (Int × (List (S75)))
 | 0,_,_,_=>none
 | k+1,x0,x1,x5=>if x5<(x0.length:Int) then ((jMa.f k x1).bind fun t404=>(if 0≤x5 then ((some (x0.set (x5:Int).toNat (⟨t404,(jM x0 x5).f1⟩:S75):List (S75))).bind fun y405=>(jpa.l0 k (y405.set (x5:Int).toNat (⟨(jM y405 x5).f0,wrap64 (x1+1)⟩:S75)) (wrap64 ((wrap64 (x1+1))+1)) (wrap64 (x5+1)))) else (none))) else (some (x1,x0))
def jpa.f (k : Nat) (l0 : List (S75)) (a1 : Int) : Option (Int × (List (S75))) := jpa.l0 k l0 a1 0
set_option maxHeartbeats 8000000 in
set_option maxRecDepth 100000 in
theorem jpa.calls (k : Nat) (P0_ : Nat → Prop) (u9000_ : Value) (l0 : List (S75)) (a1 : Int) (r1 : Int) (r2 : List (S75)) (w0 w : World) (hB : Below w0.heap.size w0 w) (ho0 : Kd.R k75 75 w w0.heap.size P0_ u9000_ l0) (h : jpa.f k l0 a1 = some (r1, r2)) :
  Calls Try.prog 32 #[u9000_, .int .i64 a1] w fun e w'=>e=.returned (.int .i64 r1)∧Kd.R k75 75 w' w0.heap.size (fun k_=>(P0_ k_∨w.heap.size≤k_)) u9000_ r2∧Below w0.heap.size w0 w'∧Kept w w' (fun k_=>P0_ k_):=by
 have HO0:=am (show Kd.R k75 75 w w0.heap.size (fun k_=>(P0_ k_∨w.heap.size≤k_)) u9000_ l0 from Kd.jca ho0 (fun k_ hk=>(.inl hk)))
 have HK:=am (Kept.refl w (fun k_=>P0_ k_))
 have HW0:=am hB.size
 have HB:=am hB
 clear hB
 have H:(jpa.l0 k l0 a1 0)=some (r1,r2):=h
 clear h
 have H':=am H
 clear H
 go_enter Try.func32,Try.ntmps32
 go_wp2
 go_loopg [1,5] k (fun kq v1 v5 w'=>∃ (x0_1:List (S75)) (x1_1:Int) (x5_1:Int),v1=.int .i64 x1_1∧v5=.int .i64 x5_1∧jq (jpa.l0 kq x0_1 x1_1 x5_1=some (r1,r2))∧jq (kq≤k)∧jq (Kd.R k75 75 w' w0.heap.size (fun k_=>(P0_ k_∨w.heap.size≤k_)) u9000_ x0_1)∧jq (Kept w w' (fun k_=>P0_ k_))∧jq (Below w0.heap.size w0 w'))
 case atStart=>exact ⟨(l0),(a1),(0),(sq),(sq),H',⟨Nat.le_refl _⟩,⟨rq HO0.out⟩,⟨Y7⟩,⟨bq⟩⟩
 case round =>
  clear H'
  try clear p2
  obtain ⟨x0_1,x1_1,x5_1,rfl,rfl,HA,HK1,HO_0,HK,HB⟩:=hrel
  cases gk with
  | zero=>exact absurd HA.out (by simp [jpa.l0])
  | succ k1 =>
   have H:=HA.out
   clear HA
   simp only [jpa.l0] at H
   by_cases c3:x5_1<(x0_1.length:Int)
   ·rw [if_pos c3] at H
    have c3b0:decide (x5_1<(x0_1.length:Int))=true:=dzT c3
    clear c3
    replace H:=bzS H
    obtain ⟨t404,A40,H⟩:=H
    replace H:(if 0≤x5_1 then ((some (x0_1.set (x5_1:Int).toNat (⟨t404,(jM x0_1 x5_1).f1⟩:S75):List (S75))).bind fun y405=>(jpa.l0 k1 (y405.set (x5_1:Int).toNat (⟨(jM y405 x5_1).f0,wrap64 (x1_1+1)⟩:S75)) (wrap64 ((wrap64 (x1_1+1))+1)) (wrap64 (x5_1+1)))) else (none))=some (r1,r2):=H
    have A4:=am A40
    clear A40
    by_cases c5:0≤x5_1
    ·rw [if_pos c5] at H
     have c5b0:decide (0≤x5_1)=true:=dzT c5
     clear c5
     obtain ⟨y405,hy405⟩:∃ y_:List (S75),y_=(x0_1.set (x5_1:Int).toNat (⟨t404,(jM x0_1 x5_1).f1⟩:S75)):=⟨_,rfl⟩
     replace H:(jpa.l0 k1 (y405.set (x5_1:Int).toNat (⟨(jM y405 x5_1).f0,wrap64 (x1_1+1)⟩:S75)) (wrap64 ((wrap64 (x1_1+1))+1)) (wrap64 (x5_1+1)))=some (r1,r2):=by first |(rw [hy405];with_reducible exact H) |(have H2_:=(Option.bind_some _ _).symm.trans H;rw [hy405];with_reducible exact H2_) |(have H2_:=(Option.bind_some _ _).symm.trans H;with_reducible exact H2_) | with_reducible exact H |(rw [hy405];exact H) | exact H
     have Ny405:=am hy405
     clear hy405
     obtain ⟨y406,hy406⟩:∃ y_:List (S75),y_=(y405.set (x5_1:Int).toNat (⟨(jM y405 x5_1).f0,wrap64 (x1_1+1)⟩:S75)):=⟨_,rfl⟩
     replace H:(jpa.l0 k1 y406 (wrap64 ((wrap64 (x1_1+1))+1)) (wrap64 (x5_1+1)))=some (r1,r2):=by first |(rw [hy406];with_reducible exact H) |(have H2_:=(Option.bind_some _ _).symm.trans H;rw [hy406];with_reducible exact H2_) |(have H2_:=(Option.bind_some _ _).symm.trans H;with_reducible exact H2_) | with_reducible exact H |(rw [hy406];exact H) | exact H
     have Ny406:=am hy406
     clear hy406
     have H':=am H
     clear H
     obtain ⟨Ao8,co8,eo8⟩:=Kd.jga HO_0.out
     subst eo8
     go_wp2_with (first |((with_reducible refine jg (f:=51) rfl ?_);refine gL (some 15) Try.func51 #[.int .i64 x1_1] ?_;(with_reducible refine (jMa.calls k1 x1_1 t404 _ A4.out).mono ?_);rintro e w9 ⟨rfl,hb⟩;refine ⟨_,rfl,?_⟩;replace HO_0:=am (Kd.jH (rq HO_0.out) hb);replace HK:=am (Kept.below (S:=(fun k_=>P0_ k_)) (Y7) hb);replace HB:=am (jc (bq) hb);(try clear hb);(try clear hb2);(try clear hk);(try clear hi);have p6:0≤(x5_1:Int):=ozD (uq);have q6:(x5_1:Int)<((x0_1.length:Int):Int):=ozD (uq);obtain ⟨go6,co6,eo6,gb6,gl6,cl6,HG6⟩:=Kd.R_form HO_0.out (by omega);(first | cases eo6 |(injection eo6 with ea_ en_ ec_;(first | subst ea_ |(injection ea_ with ea_;subst ea_));subst ec_;clear en_));have GB6:=am gb6;have GG6:=am HG6;clear gb6 gl6 HG6;have HMgo6:=am (show (P0_ go6∨w.heap.size≤go6) from (HO_0.out.1 _ rfl));obtain ⟨ce6,hcl6,hM6,hcc6,hfr6⟩:=Kd.jFb HO_0.out z75 (x5_1:Int) p6 q6;obtain rfl:=jGc hM6;have hx6_0:w9.cell? ⟨go6,(x5_1:Int).toNat * 2,none⟩=some (.string ((jM x0_1 x5_1).f0)):=hcc6 0 _ rfl;have hx6_1:w9.cell? ⟨go6,(x5_1:Int).toNat * 2+1,none⟩=some (.int .i64 ((jM x0_1 x5_1).f1)):=hcc6 1 _ rfl;have hf6_0:w9.frozen? ⟨go6,(x5_1:Int).toNat * 2,none⟩=false:=hfr6 0;have hf6_1:w9.frozen? ⟨go6,(x5_1:Int).toNat * 2+1,none⟩=false:=hfr6 1;clear hcl6 hcc6 hfr6 hM6;replace p6:=ezT p6;replace q6:=ezT q6;have HX10:=am (show Kd.R k75 75 w9 w0.heap.size (fun k_=>(P0_ k_∨w.heap.size≤k_)) (.slice (some ⟨go6,0,none⟩) x0_1.length co8) x0_1 from (rq HO_0.out));obtain ⟨ce10,hcl10,hM10,hcc10,hfr10⟩:=Kd.jFb HX10.out z75 (x5_1:Int) (ozD (uq)) (by have h_:(x5_1:Int)<((x0_1.length:Int):Int):=ozD (uq);first | exact h_ |(have e_:=(Kd.jw HO_0.out).1;omega) | simpa using h_);obtain rfl:=jGc hM10;have HP10:=Kd.R_seg HX10.out (x5_1:Int) (ozD (uq)) (by have h_:(x5_1:Int)<((x0_1.length:Int):Int):=ozD (uq);first | exact h_ |(have e_:=(Kd.jw HO_0.out).1;omega) | simpa using h_) (seg:=[.string t404]) (j:=0) hcl10 hcc10 (show 1≤2 from by decide) (x':=(⟨t404,(jM x0_1 x5_1).f1⟩:S75)) (k75_mkM _ _ _ (⟨t404,(jM x0_1 x5_1).f1⟩:S75) ) (fun _ hk=>hk);have hx10_0:=hcc10 0 _ rfl;(try simp only [show (k75).sz=2 from rfl,Nat.mul_one,Nat.add_zero] at hx10_0);have hf10_0:=hfr10 0;(try simp only [show (k75).sz=2 from rfl,Nat.mul_one,Nat.add_zero] at hf10_0);clear hcl10 hcc10 hfr10 hM10) |((with_reducible refine jpb (t:=9) (p:=17) rfl ?_);refine jhb (t:=9) (p:=17) (v:=?vo_w11) (w1:=(w9.setCell ⟨go6,(x5_1:Int).toNat * 2,none⟩ (.string t404))) ?hg ?ho ?hn ?hr ?_;(case ho=>rfl);(case hg=>rfl);(case hn=>rfl);(case hr=>exact Y4);intro w11 hw;have hg:w9.grownBy w11 (some go6):=(by rw [hw];exact HP10.2);have hp_:Kd.R k75 75 w11 w0.heap.size (fun k_=>(P0_ k_∨w.heap.size≤k_)) (.slice (some ⟨go6,0,none⟩) x0_1.length co8) y405:=(by rw [hw,Ny405.out];exact HP10.1);clear HP10;replace HB:=am ((by rw [hw];exact jl (HB.out) GB6.out:Below w0.heap.size w0 w11));replace HK:=am (Kept.jjc (S:=(fun k_=>P0_ k_)) hg (Y7) (fun k_ e_=>(HO_0.out.1 k_ e_)));replace HO_0:=am (hp_);clear hg hw hp_;have p7:0≤(x5_1:Int):=ozD (uq);have q7:(x5_1:Int)<((x0_1.length:Int):Int):=ozD (uq);obtain ⟨ce7,hcl7,hM7,hcc7,hfr7⟩:=Kd.jFb HO_0.out z75 (x5_1:Int) p7 q7;obtain rfl:=jGc hM7;have hx7_0:w11.cell? ⟨go6,(x5_1:Int).toNat * 2,none⟩=some (.string ((jM y405 x5_1).f0)):=hcc7 0 _ rfl;have hx7_1:w11.cell? ⟨go6,(x5_1:Int).toNat * 2+1,none⟩=some (.int .i64 ((jM y405 x5_1).f1)):=hcc7 1 _ rfl;have hf7_0:w11.frozen? ⟨go6,(x5_1:Int).toNat * 2,none⟩=false:=hfr7 0;have hf7_1:w11.frozen? ⟨go6,(x5_1:Int).toNat * 2+1,none⟩=false:=hfr7 1;clear hcl7 hcc7 hfr7 hM7;replace p7:=ezT p7;replace q7:=ezT q7;have HX12:=am (show Kd.R k75 75 w11 w0.heap.size (fun k_=>(P0_ k_∨w.heap.size≤k_)) (.slice (some ⟨go6,0,none⟩) x0_1.length co8) y405 from (rq HO_0.out));obtain ⟨ce12,hcl12,hM12,hcc12,hfr12⟩:=Kd.jFb HX12.out z75 (x5_1:Int) (ozD (uq)) (by have h_:(x5_1:Int)<((x0_1.length:Int):Int):=ozD (uq);first | exact h_ |(have e_:=(Kd.jw HO_0.out).1;omega) | simpa using h_);obtain rfl:=jGc hM12;have HP12:=Kd.R_seg HX12.out (x5_1:Int) (ozD (uq)) (by have h_:(x5_1:Int)<((x0_1.length:Int):Int):=ozD (uq);first | exact h_ |(have e_:=(Kd.jw HO_0.out).1;omega) | simpa using h_) (seg:=[.int .i64 (wrap64 (x1_1+1))]) (j:=1) hcl12 hcc12 (show 2≤2 from by decide) (x':=(⟨(jM y405 x5_1).f0,wrap64 (x1_1+1)⟩:S75)) (k75_mkM _ _ _ (⟨(jM y405 x5_1).f0,wrap64 (x1_1+1)⟩:S75) ) (fun _ hk=>hk);have hx12_1:=hcc12 1 _ rfl;(try simp only [show (k75).sz=2 from rfl,Nat.mul_one,Nat.add_zero] at hx12_1);have hf12_1:=hfr12 1;(try simp only [show (k75).sz=2 from rfl,Nat.mul_one,Nat.add_zero] at hf12_1);clear hcl12 hcc12 hfr12 hM12) |((with_reducible refine jpb (t:=3) (p:=24) rfl ?_);refine jhb (t:=3) (p:=24) (v:=?vo_w13) (w1:=(w11.setCell ⟨go6,(x5_1:Int).toNat * 2+1,none⟩ (.int .i64 (wrap64 (x1_1+1))))) ?hg ?ho ?hn ?hr ?_;(case ho=>rfl);(case hg=>rfl);(case hn=>rfl);(case hr=>exact Y4);intro w13 hw;have hg:w11.grownBy w13 (some go6):=(by rw [hw];exact HP12.2);have hp_:Kd.R k75 75 w13 w0.heap.size (fun k_=>(P0_ k_∨w.heap.size≤k_)) (.slice (some ⟨go6,0,none⟩) x0_1.length co8) y406:=(by rw [hw,Ny406.out];exact HP12.1);clear HP12;replace HB:=am ((by rw [hw];exact jl (HB.out) GB6.out:Below w0.heap.size w0 w13));replace HK:=am (Kept.jjc (S:=(fun k_=>P0_ k_)) hg (Y7) (fun k_ e_=>(HO_0.out.1 k_ e_)));replace HO_0:=am (hp_);clear hg hw hp_))
     go_roundg k1
     case measure=>have:=HK1.out;omega
     case rel=>exact ⟨(y406),(wrap64 ((wrap64 (x1_1+1))+1)),(wrap64 (x5_1+1)),(sq),(sq),H',⟨by have:=HK1.out;omega⟩,⟨rq HO_0.out⟩,⟨Y7⟩,⟨bq⟩⟩
    ·rw [if_neg c5] at H
     exact absurd H (by simp)
   ·rw [if_neg c3] at H
    have c3b0:decide (x5_1<(x0_1.length:Int))=false:=dzF c3
    clear c3
    simp only [Option.some.injEq,Prod.mk.injEq] at H
    obtain ⟨rfl,rfl⟩:=H
    obtain ⟨Ao14,co14,eo14⟩:=Kd.jga HO_0.out
    subst eo14
    go_wp2
    go_ret
    exact ⟨Y0,rq HO_0.out,bq,Y7⟩
def jXa.f (k : Nat) (l0_0 : List (S75)) (a1 : Int) : Option (Int × (List (S75))) := (jpa.f k l0_0 a1).bind fun bt408 => (some (bt408.1, bt408.2))
set_option maxHeartbeats 8000000 in
set_option maxRecDepth 100000 in
theorem jXa.calls (k : Nat) (P0_0_ : Nat → Prop) (u9000_ : Value) (l0_0 : List (S75)) (a1 : Int) (r1 : Int) (r2 : List (S75)) (w0 w : World) (hB : Below w0.heap.size w0 w) (ho0_0 : Kd.R k75 75 w w0.heap.size P0_0_ u9000_ l0_0) (h : jXa.f k l0_0 a1 = some (r1, r2)) :
  Calls Try.prog 14 #[.agg #[u9000_], .int .i64 a1] w fun e w'=>e=.returned (.int .i64 r1)∧Kd.R k75 75 w' w0.heap.size (fun k_=>(P0_0_ k_∨w.heap.size≤k_)) u9000_ r2∧Below w0.heap.size w0 w'∧Kept w w' (fun k_=>P0_0_ k_):=by
 have hu35:=Try.underlying35
 have HO0_0:=am (show Kd.R k75 75 w w0.heap.size (fun k_=>(P0_0_ k_∨w.heap.size≤k_)) u9000_ l0_0 from Kd.jca ho0_0 (fun k_ hk=>(.inl hk)))
 have HK:=am (Kept.refl w (fun k_=>P0_0_ k_))
 have HW0:=am hB.size
 have HB:=am hB
 clear hB
 have H:((jpa.f k l0_0 a1).bind fun bt408=>(some (bt408.1,bt408.2)))=some (r1,r2):=h
 clear h
 replace H:=bzS H
 obtain ⟨⟨t408,t409⟩,A30,H⟩:=H
 replace H:(some (t408,t409))=some (r1,r2):=H
 have A3:=am A30
 clear A30
 simp only [Option.some.injEq,Prod.mk.injEq] at H
 obtain ⟨rfl,rfl⟩:=H
 obtain ⟨Ao4,co4,eo4⟩:=Kd.jga HO0_0.out
 subst eo4
 go_enter Try.func14,Try.ntmps14
 go_wp2_with (first |((with_reducible refine jB (N:=2) rfl ?_);refine bE (N:=2) (cs:=#[.slice Ao4 l0_0.length co4]) (t:=35) ?_;intro gb407 hg w5 hbox hb;have BK407:=am (hbox);have GW407:=am ((by rw [hg];exact (by first | exact HK.out.1 | exact (show Kept w _ (fun k_=>P0_0_ k_) from by repeat (first |(with_reducible first | exact HK.out | apply Kept.alloc | apply Kept.drewN | apply Kept.drew) | exact HK.out)).1):w.heap.size≤gb407));have GE407:=am ((Y1:w0.heap.size≤gb407));replace HO0_0:=am (Kd.jH (rq HO0_0.out) hb);replace HK:=am (Kept.below (S:=(fun k_=>P0_0_ k_)) (Y7) hb);replace HB:=am (jc (bq) hb);clear hb hbox hg;have hcz6_0:=bc0 BK407.out;have hfz6_0:=ja BK407.out 0) |((with_reducible refine jg (f:=32) rfl ?_);refine gL (some 8) Try.func32 #[.slice Ao4 l0_0.length co4, .int .i64 a1] ?_;(with_reducible refine (jpa.calls k (fun k_=>some k_=(.slice Ao4 l0_0.length co4:Value).ownBlock) (.slice Ao4 l0_0.length co4) l0_0 a1 t408 t409 w0 _ ?side1 ?side2 A3.out).mono ?_);(case side1=>exact Y92);(case side2=>exact Kd.R_tight rfl HO0_0.out);rintro e w7 ⟨rfl,hy0,hb,hkp⟩;refine ⟨_,rfl,?_⟩;replace BK407:=am (jOb (kq BK407.out) hkp (fun hs_=>(fun e_=>(Kd.R_ne HO0_0.out BK407.out (by decide)) e_) hs_));replace HK:=am (Kept.then_ (S:=(fun k_=>P0_0_ k_)) (Y93) hkp (fun k_ hs_=>(fun e_=>(HO0_0.out.1 k_ e_.symm)) hs_));replace HO0_0:=am (Kd.R_reok rfl hy0 (fun k_ e_=>HO0_0.out.1 k_ e_));replace HB:=am (hb);(try clear hb);(try clear hkp);(try clear hy0)))
 go_ret
 exact ⟨Y0,rq HO0_0.out,Y92,Y93⟩
def jW.l0 : Nat → List (S54) → Int → Int → Option (Int × (List (S54)))
 | 0,_,_,_=>none
 | k+1,x0,x1,x5=>if x5<(x0.length:Int) then (if 0≤x5 then ((some (x0.set (x5:Int).toNat (⟨x1,(jN x0 x5).f1,(jN x0 x5).f2⟩:S54):List (S54))).bind fun y410=>((some (y410.set (x5:Int).toNat (⟨(jN y410 x5).f0,wrap64 (x1+1),(jN y410 x5).f2⟩:S54):List (S54))).bind fun y411=>(jW.l0 k (y411.set (x5:Int).toNat (⟨(jN y411 x5).f0,(jN y411 x5).f1,wrap64 ((wrap64 (x1+1))+1)⟩:S54)) (wrap64 ((wrap64 ((wrap64 (x1+1))+1))+1)) (wrap64 (x5+1))))) else (none)) else (some (x1,x0))
def jW.f (k : Nat) (l0 : List (S54)) (a1 : Int) : Option (Int × (List (S54))) := jW.l0 k l0 a1 0
set_option maxHeartbeats 8000000 in
set_option maxRecDepth 100000 in
theorem jW.calls (k : Nat) (P0_ : Nat → Prop) (u9000_ : Value) (l0 : List (S54)) (a1 : Int) (r1 : Int) (r2 : List (S54)) (w0 w : World) (hB : Below w0.heap.size w0 w) (ho0 : Kd.R k54 54 w w0.heap.size P0_ u9000_ l0) (h : jW.f k l0 a1 = some (r1, r2)) :
  Calls Try.prog 15 #[u9000_, .int .i64 a1] w fun e w'=>e=.returned (.int .i64 r1)∧Kd.R k54 54 w' w0.heap.size (fun k_=>(P0_ k_∨w.heap.size≤k_)) u9000_ r2∧Below w0.heap.size w0 w'∧Kept w w' (fun k_=>P0_ k_):=by
 have HO0:=am (show Kd.R k54 54 w w0.heap.size (fun k_=>(P0_ k_∨w.heap.size≤k_)) u9000_ l0 from Kd.jca ho0 (fun k_ hk=>(.inl hk)))
 have HK:=am (Kept.refl w (fun k_=>P0_ k_))
 have HW0:=am hB.size
 have HB:=am hB
 clear hB
 have H:(jW.l0 k l0 a1 0)=some (r1,r2):=h
 clear h
 have H':=am H
 clear H
 go_enter Try.func15,Try.ntmps15
 go_wp2
 go_loopg [1,5] k (fun kq v1 v5 w'=>∃ (x0_1:List (S54)) (x1_1:Int) (x5_1:Int),v1=.int .i64 x1_1∧v5=.int .i64 x5_1∧jq (jW.l0 kq x0_1 x1_1 x5_1=some (r1,r2))∧jq (kq≤k)∧jq (Kd.R k54 54 w' w0.heap.size (fun k_=>(P0_ k_∨w.heap.size≤k_)) u9000_ x0_1)∧jq (Kept w w' (fun k_=>P0_ k_))∧jq (Below w0.heap.size w0 w'))
 case atStart=>exact ⟨(l0),(a1),(0),(sq),(sq),H',⟨Nat.le_refl _⟩,⟨rq HO0.out⟩,⟨Y7⟩,⟨bq⟩⟩
 case round =>
  clear H'
  try clear c1
  try clear p2
  obtain ⟨x0_1,x1_1,x5_1,rfl,rfl,HA,HK1,HO_0,HK,HB⟩:=hrel
  cases gk with
  | zero=>exact absurd HA.out (by simp [jW.l0])
  | succ k1 =>
   have H:=HA.out
   clear HA
   simp only [jW.l0] at H
   by_cases c3:x5_1<(x0_1.length:Int)
   ·rw [if_pos c3] at H
    have c3b0:decide (x5_1<(x0_1.length:Int))=true:=dzT c3
    clear c3
    by_cases c4:0≤x5_1
    ·rw [if_pos c4] at H
     have c4b0:decide (0≤x5_1)=true:=dzT c4
     clear c4
     obtain ⟨y410,hy410⟩:∃ y_:List (S54),y_=(x0_1.set (x5_1:Int).toNat (⟨x1_1,(jN x0_1 x5_1).f1,(jN x0_1 x5_1).f2⟩:S54)):=⟨_,rfl⟩
     replace H:((some (y410.set (x5_1:Int).toNat (⟨(jN y410 x5_1).f0,wrap64 (x1_1+1),(jN y410 x5_1).f2⟩:S54):List (S54))).bind fun y411=>(jW.l0 k1 (y411.set (x5_1:Int).toNat (⟨(jN y411 x5_1).f0,(jN y411 x5_1).f1,wrap64 ((wrap64 (x1_1+1))+1)⟩:S54)) (wrap64 ((wrap64 ((wrap64 (x1_1+1))+1))+1)) (wrap64 (x5_1+1))))=some (r1,r2):=by first |(rw [hy410];with_reducible exact H) |(have H2_:=(Option.bind_some _ _).symm.trans H;rw [hy410];with_reducible exact H2_) |(have H2_:=(Option.bind_some _ _).symm.trans H;with_reducible exact H2_) | with_reducible exact H |(rw [hy410];exact H) | exact H
     have Ny410:=am hy410
     clear hy410
     obtain ⟨y411,hy411⟩:∃ y_:List (S54),y_=(y410.set (x5_1:Int).toNat (⟨(jN y410 x5_1).f0,wrap64 (x1_1+1),(jN y410 x5_1).f2⟩:S54)):=⟨_,rfl⟩
     replace H:(jW.l0 k1 (y411.set (x5_1:Int).toNat (⟨(jN y411 x5_1).f0,(jN y411 x5_1).f1,wrap64 ((wrap64 (x1_1+1))+1)⟩:S54)) (wrap64 ((wrap64 ((wrap64 (x1_1+1))+1))+1)) (wrap64 (x5_1+1)))=some (r1,r2):=by first |(rw [hy411];with_reducible exact H) |(have H2_:=(Option.bind_some _ _).symm.trans H;rw [hy411];with_reducible exact H2_) |(have H2_:=(Option.bind_some _ _).symm.trans H;with_reducible exact H2_) | with_reducible exact H |(rw [hy411];exact H) | exact H
     have Ny411:=am hy411
     clear hy411
     obtain ⟨y412,hy412⟩:∃ y_:List (S54),y_=(y411.set (x5_1:Int).toNat (⟨(jN y411 x5_1).f0,(jN y411 x5_1).f1,wrap64 ((wrap64 (x1_1+1))+1)⟩:S54)):=⟨_,rfl⟩
     replace H:(jW.l0 k1 y412 (wrap64 ((wrap64 ((wrap64 (x1_1+1))+1))+1)) (wrap64 (x5_1+1)))=some (r1,r2):=by first |(rw [hy412];with_reducible exact H) |(have H2_:=(Option.bind_some _ _).symm.trans H;rw [hy412];with_reducible exact H2_) |(have H2_:=(Option.bind_some _ _).symm.trans H;with_reducible exact H2_) | with_reducible exact H |(rw [hy412];exact H) | exact H
     have Ny412:=am hy412
     clear hy412
     have H':=am H
     clear H
     obtain ⟨Ao8,co8,eo8⟩:=Kd.jga HO_0.out
     subst eo8
     have p5:0≤(x5_1:Int):=ozD (uq)
     have q5:(x5_1:Int)<((x0_1.length:Int):Int):=ozD (uq)
     obtain ⟨go5,co5,eo5,gb5,gl5,cl5,HG5⟩:=Kd.R_form HO_0.out (by omega)
     (first | cases eo5 |(injection eo5 with ea_ en_ ec_;(first | subst ea_ |(injection ea_ with ea_;subst ea_));subst ec_;clear en_))
     have GB5:=am gb5
     have GG5:=am HG5
     clear gb5 gl5 HG5
     have HMgo5:=am (show (P0_ go5∨w.heap.size≤go5) from (HO_0.out.1 _ rfl))
     obtain ⟨ce5,hcl5,hM5,hcc5,hfr5⟩:=Kd.jFb HO_0.out z54 (x5_1:Int) p5 q5
     obtain rfl:=jmc hM5
     have hx5_0:wr.cell? ⟨go5,(x5_1:Int).toNat * 3,none⟩=some (.int .i64 ((jN x0_1 x5_1).f0)):=hcc5 0 _ rfl
     have hx5_1:wr.cell? ⟨go5,(x5_1:Int).toNat * 3+1,none⟩=some (.int .i64 ((jN x0_1 x5_1).f1)):=hcc5 1 _ rfl
     have hx5_2:wr.cell? ⟨go5,(x5_1:Int).toNat * 3+2,none⟩=some (.int .i64 ((jN x0_1 x5_1).f2)):=hcc5 2 _ rfl
     have hf5_0:wr.frozen? ⟨go5,(x5_1:Int).toNat * 3,none⟩=false:=hfr5 0
     have hf5_1:wr.frozen? ⟨go5,(x5_1:Int).toNat * 3+1,none⟩=false:=hfr5 1
     have hf5_2:wr.frozen? ⟨go5,(x5_1:Int).toNat * 3+2,none⟩=false:=hfr5 2
     clear hcl5 hcc5 hfr5 hM5
     replace p5:=ezT p5
     replace q5:=ezT q5
     have HX9:=am (show Kd.R k54 54 wr w0.heap.size (fun k_=>(P0_ k_∨w.heap.size≤k_)) (.slice (some ⟨go5,0,none⟩) x0_1.length co8) x0_1 from (rq HO_0.out))
     obtain ⟨ce9,hcl9,hM9,hcc9,hfr9⟩:=Kd.jFb HX9.out z54 (x5_1:Int) (ozD (uq)) (by have h_:(x5_1:Int)<((x0_1.length:Int):Int):=ozD (uq);first | exact h_ |(have e_:=(Kd.jw HO_0.out).1;omega) | simpa using h_)
     obtain rfl:=jmc hM9
     have HP9:=Kd.R_seg HX9.out (x5_1:Int) (ozD (uq)) (by have h_:(x5_1:Int)<((x0_1.length:Int):Int):=ozD (uq);first | exact h_ |(have e_:=(Kd.jw HO_0.out).1;omega) | simpa using h_) (seg:=[.int .i64 x1_1]) (j:=0) hcl9 hcc9 (show 1≤3 from by decide) (x':=(⟨x1_1,(jN x0_1 x5_1).f1,(jN x0_1 x5_1).f2⟩:S54)) (k54_mkM _ _ _ (⟨x1_1,(jN x0_1 x5_1).f1,(jN x0_1 x5_1).f2⟩:S54) ) (fun _ hk=>hk)
     have hx9_0:=hcc9 0 _ rfl
     (try simp only [show (k54).sz=3 from rfl,Nat.mul_one,Nat.add_zero] at hx9_0)
     have hf9_0:=hfr9 0
     (try simp only [show (k54).sz=3 from rfl,Nat.mul_one,Nat.add_zero] at hf9_0)
     clear hcl9 hcc9 hfr9 hM9
     go_wp2_with (first |((with_reducible refine jpb (t:=3) (p:=16) rfl ?_);refine jhb (t:=3) (p:=16) (v:=?vo_w10) (w1:=(wr.setCell ⟨go5,(x5_1:Int).toNat * 3,none⟩ (.int .i64 x1_1))) ?hg ?ho ?hn ?hr ?_;(case ho=>rfl);(case hg=>rfl);(case hn=>rfl);(case hr=>exact Y4);intro w10 hw;have hg:wr.grownBy w10 (some go5):=(by rw [hw];exact HP9.2);have hp_:Kd.R k54 54 w10 w0.heap.size (fun k_=>(P0_ k_∨w.heap.size≤k_)) (.slice (some ⟨go5,0,none⟩) x0_1.length co8) y410:=(by rw [hw,Ny410.out];exact HP9.1);clear HP9;replace HB:=am ((by rw [hw];exact jl (HB.out) GB5.out:Below w0.heap.size w0 w10));replace HK:=am (Kept.jjc (S:=(fun k_=>P0_ k_)) hg (Y7) (fun k_ e_=>(HO_0.out.1 k_ e_)));replace HO_0:=am (hp_);clear hg hw hp_;have p6:0≤(x5_1:Int):=ozD (uq);have q6:(x5_1:Int)<((x0_1.length:Int):Int):=ozD (uq);obtain ⟨ce6,hcl6,hM6,hcc6,hfr6⟩:=Kd.jFb HO_0.out z54 (x5_1:Int) p6 q6;obtain rfl:=jmc hM6;have hx6_0:w10.cell? ⟨go5,(x5_1:Int).toNat * 3,none⟩=some (.int .i64 ((jN y410 x5_1).f0)):=hcc6 0 _ rfl;have hx6_1:w10.cell? ⟨go5,(x5_1:Int).toNat * 3+1,none⟩=some (.int .i64 ((jN y410 x5_1).f1)):=hcc6 1 _ rfl;have hx6_2:w10.cell? ⟨go5,(x5_1:Int).toNat * 3+2,none⟩=some (.int .i64 ((jN y410 x5_1).f2)):=hcc6 2 _ rfl;have hf6_0:w10.frozen? ⟨go5,(x5_1:Int).toNat * 3,none⟩=false:=hfr6 0;have hf6_1:w10.frozen? ⟨go5,(x5_1:Int).toNat * 3+1,none⟩=false:=hfr6 1;have hf6_2:w10.frozen? ⟨go5,(x5_1:Int).toNat * 3+2,none⟩=false:=hfr6 2;clear hcl6 hcc6 hfr6 hM6;replace p6:=ezT p6;replace q6:=ezT q6;have HX11:=am (show Kd.R k54 54 w10 w0.heap.size (fun k_=>(P0_ k_∨w.heap.size≤k_)) (.slice (some ⟨go5,0,none⟩) x0_1.length co8) y410 from (rq HO_0.out));obtain ⟨ce11,hcl11,hM11,hcc11,hfr11⟩:=Kd.jFb HX11.out z54 (x5_1:Int) (ozD (uq)) (by have h_:(x5_1:Int)<((x0_1.length:Int):Int):=ozD (uq);first | exact h_ |(have e_:=(Kd.jw HO_0.out).1;omega) | simpa using h_);obtain rfl:=jmc hM11;have HP11:=Kd.R_seg HX11.out (x5_1:Int) (ozD (uq)) (by have h_:(x5_1:Int)<((x0_1.length:Int):Int):=ozD (uq);first | exact h_ |(have e_:=(Kd.jw HO_0.out).1;omega) | simpa using h_) (seg:=[.int .i64 (wrap64 (x1_1+1))]) (j:=1) hcl11 hcc11 (show 2≤3 from by decide) (x':=(⟨(jN y410 x5_1).f0,wrap64 (x1_1+1),(jN y410 x5_1).f2⟩:S54)) (k54_mkM _ _ _ (⟨(jN y410 x5_1).f0,wrap64 (x1_1+1),(jN y410 x5_1).f2⟩:S54) ) (fun _ hk=>hk);have hx11_1:=hcc11 1 _ rfl;(try simp only [show (k54).sz=3 from rfl,Nat.mul_one,Nat.add_zero] at hx11_1);have hf11_1:=hfr11 1;(try simp only [show (k54).sz=3 from rfl,Nat.mul_one,Nat.add_zero] at hf11_1);clear hcl11 hcc11 hfr11 hM11) |((with_reducible refine jpb (t:=3) (p:=23) rfl ?_);refine jhb (t:=3) (p:=23) (v:=?vo_w12) (w1:=(w10.setCell ⟨go5,(x5_1:Int).toNat * 3+1,none⟩ (.int .i64 (wrap64 (x1_1+1))))) ?hg ?ho ?hn ?hr ?_;(case ho=>rfl);(case hg=>rfl);(case hn=>rfl);(case hr=>exact Y4);intro w12 hw;have hg:w10.grownBy w12 (some go5):=(by rw [hw];exact HP11.2);have hp_:Kd.R k54 54 w12 w0.heap.size (fun k_=>(P0_ k_∨w.heap.size≤k_)) (.slice (some ⟨go5,0,none⟩) x0_1.length co8) y411:=(by rw [hw,Ny411.out];exact HP11.1);clear HP11;replace HB:=am ((by rw [hw];exact jl (HB.out) GB5.out:Below w0.heap.size w0 w12));replace HK:=am (Kept.jjc (S:=(fun k_=>P0_ k_)) hg (Y7) (fun k_ e_=>(HO_0.out.1 k_ e_)));replace HO_0:=am (hp_);clear hg hw hp_;have p7:0≤(x5_1:Int):=ozD (uq);have q7:(x5_1:Int)<((x0_1.length:Int):Int):=ozD (uq);obtain ⟨ce7,hcl7,hM7,hcc7,hfr7⟩:=Kd.jFb HO_0.out z54 (x5_1:Int) p7 q7;obtain rfl:=jmc hM7;have hx7_0:w12.cell? ⟨go5,(x5_1:Int).toNat * 3,none⟩=some (.int .i64 ((jN y411 x5_1).f0)):=hcc7 0 _ rfl;have hx7_1:w12.cell? ⟨go5,(x5_1:Int).toNat * 3+1,none⟩=some (.int .i64 ((jN y411 x5_1).f1)):=hcc7 1 _ rfl;have hx7_2:w12.cell? ⟨go5,(x5_1:Int).toNat * 3+2,none⟩=some (.int .i64 ((jN y411 x5_1).f2)):=hcc7 2 _ rfl;have hf7_0:w12.frozen? ⟨go5,(x5_1:Int).toNat * 3,none⟩=false:=hfr7 0;have hf7_1:w12.frozen? ⟨go5,(x5_1:Int).toNat * 3+1,none⟩=false:=hfr7 1;have hf7_2:w12.frozen? ⟨go5,(x5_1:Int).toNat * 3+2,none⟩=false:=hfr7 2;clear hcl7 hcc7 hfr7 hM7;replace p7:=ezT p7;replace q7:=ezT q7;have HX13:=am (show Kd.R k54 54 w12 w0.heap.size (fun k_=>(P0_ k_∨w.heap.size≤k_)) (.slice (some ⟨go5,0,none⟩) x0_1.length co8) y411 from (rq HO_0.out));obtain ⟨ce13,hcl13,hM13,hcc13,hfr13⟩:=Kd.jFb HX13.out z54 (x5_1:Int) (ozD (uq)) (by have h_:(x5_1:Int)<((x0_1.length:Int):Int):=ozD (uq);first | exact h_ |(have e_:=(Kd.jw HO_0.out).1;omega) | simpa using h_);obtain rfl:=jmc hM13;have HP13:=Kd.R_seg HX13.out (x5_1:Int) (ozD (uq)) (by have h_:(x5_1:Int)<((x0_1.length:Int):Int):=ozD (uq);first | exact h_ |(have e_:=(Kd.jw HO_0.out).1;omega) | simpa using h_) (seg:=[.int .i64 (wrap64 ((wrap64 (x1_1+1))+1))]) (j:=2) hcl13 hcc13 (show 3≤3 from by decide) (x':=(⟨(jN y411 x5_1).f0,(jN y411 x5_1).f1,wrap64 ((wrap64 (x1_1+1))+1)⟩:S54)) (k54_mkM _ _ _ (⟨(jN y411 x5_1).f0,(jN y411 x5_1).f1,wrap64 ((wrap64 (x1_1+1))+1)⟩:S54) ) (fun _ hk=>hk);have hx13_2:=hcc13 2 _ rfl;(try simp only [show (k54).sz=3 from rfl,Nat.mul_one,Nat.add_zero] at hx13_2);have hf13_2:=hfr13 2;(try simp only [show (k54).sz=3 from rfl,Nat.mul_one,Nat.add_zero] at hf13_2);clear hcl13 hcc13 hfr13 hM13) |((with_reducible refine jpb (t:=3) (p:=30) rfl ?_);refine jhb (t:=3) (p:=30) (v:=?vo_w14) (w1:=(w12.setCell ⟨go5,(x5_1:Int).toNat * 3+2,none⟩ (.int .i64 (wrap64 ((wrap64 (x1_1+1))+1))))) ?hg ?ho ?hn ?hr ?_;(case ho=>rfl);(case hg=>rfl);(case hn=>rfl);(case hr=>exact Y4);intro w14 hw;have hg:w12.grownBy w14 (some go5):=(by rw [hw];exact HP13.2);have hp_:Kd.R k54 54 w14 w0.heap.size (fun k_=>(P0_ k_∨w.heap.size≤k_)) (.slice (some ⟨go5,0,none⟩) x0_1.length co8) y412:=(by rw [hw,Ny412.out];exact HP13.1);clear HP13;replace HB:=am ((by rw [hw];exact jl (HB.out) GB5.out:Below w0.heap.size w0 w14));replace HK:=am (Kept.jjc (S:=(fun k_=>P0_ k_)) hg (Y7) (fun k_ e_=>(HO_0.out.1 k_ e_)));replace HO_0:=am (hp_);clear hg hw hp_))
     go_roundg k1
     case measure=>have:=HK1.out;omega
     case rel=>exact ⟨(y412),(wrap64 ((wrap64 ((wrap64 (x1_1+1))+1))+1)),(wrap64 (x5_1+1)),(sq),(sq),H',⟨by have:=HK1.out;omega⟩,⟨rq HO_0.out⟩,⟨Y7⟩,⟨bq⟩⟩
    ·rw [if_neg c4] at H
     exact absurd H (by simp)
   ·rw [if_neg c3] at H
    have c3b0:decide (x5_1<(x0_1.length:Int))=false:=dzF c3
    clear c3
    simp only [Option.some.injEq,Prod.mk.injEq] at H
    obtain ⟨rfl,rfl⟩:=H
    obtain ⟨Ao15,co15,eo15⟩:=Kd.jga HO_0.out
    subst eo15
    go_wp2
    go_ret
    exact ⟨Y0,rq HO_0.out,bq,Y7⟩
def jsa.l0 : Nat → List (S51) → Int → Int → Option (Int × (List (S51)))
 | 0,_,_,_=>none
 | k+1,x0,x1,x5=>if x5<(x0.length:Int) then (if 0≤x5 then ((some (x0.set (x5:Int).toNat (⟨x1,(jd x0 x5).f1,(jd x0 x5).f2,(jd x0 x5).f3⟩:S51):List (S51))).bind fun y413=>((some (y413.set (x5:Int).toNat (⟨(jd y413 x5).f0,wrap64 (x1+1),(jd y413 x5).f2,(jd y413 x5).f3⟩:S51):List (S51))).bind fun y414=>((some (y414.set (x5:Int).toNat (⟨(jd y414 x5).f0,(jd y414 x5).f1,wrap64 ((wrap64 (x1+1))+1),(jd y414 x5).f3⟩:S51):List (S51))).bind fun y415=>(jsa.l0 k (y415.set (x5:Int).toNat (⟨(jd y415 x5).f0,(jd y415 x5).f1,(jd y415 x5).f2,wrap64 ((wrap64 ((wrap64 (x1+1))+1))+1)⟩:S51)) (wrap64 ((wrap64 ((wrap64 ((wrap64 (x1+1))+1))+1))+1)) (wrap64 (x5+1)))))) else (none)) else (some (x1,x0))
def jsa.f (k : Nat) (l0 : List (S51)) (a1 : Int) : Option (Int × (List (S51))) := jsa.l0 k l0 a1 0
set_option maxHeartbeats 8000000 in
set_option maxRecDepth 100000 in
theorem jsa.calls (k : Nat) (P0_ : Nat → Prop) (u9000_ : Value) (l0 : List (S51)) (a1 : Int) (r1 : Int) (r2 : List (S51)) (w0 w : World) (hB : Below w0.heap.size w0 w) (ho0 : Kd.R k51 51 w w0.heap.size P0_ u9000_ l0) (h : jsa.f k l0 a1 = some (r1, r2)) :
  Calls Try.prog 16 #[u9000_, .int .i64 a1] w fun e w'=>e=.returned (.int .i64 r1)∧Kd.R k51 51 w' w0.heap.size (fun k_=>(P0_ k_∨w.heap.size≤k_)) u9000_ r2∧Below w0.heap.size w0 w'∧Kept w w' (fun k_=>P0_ k_):=by
 have HO0:=am (show Kd.R k51 51 w w0.heap.size (fun k_=>(P0_ k_∨w.heap.size≤k_)) u9000_ l0 from Kd.jca ho0 (fun k_ hk=>(.inl hk)))
 have HK:=am (Kept.refl w (fun k_=>P0_ k_))
 have HW0:=am hB.size
 have HB:=am hB
 clear hB
 have H:(jsa.l0 k l0 a1 0)=some (r1,r2):=h
 clear h
 have H':=am H
 clear H
 go_enter Try.func16,Try.ntmps16
 go_wp2
 go_loopg [1,5] k (fun kq v1 v5 w'=>∃ (x0_1:List (S51)) (x1_1:Int) (x5_1:Int),v1=.int .i64 x1_1∧v5=.int .i64 x5_1∧jq (jsa.l0 kq x0_1 x1_1 x5_1=some (r1,r2))∧jq (kq≤k)∧jq (Kd.R k51 51 w' w0.heap.size (fun k_=>(P0_ k_∨w.heap.size≤k_)) u9000_ x0_1)∧jq (Kept w w' (fun k_=>P0_ k_))∧jq (Below w0.heap.size w0 w'))
 case atStart=>exact ⟨(l0),(a1),(0),(sq),(sq),H',⟨Nat.le_refl _⟩,⟨rq HO0.out⟩,⟨Y7⟩,⟨bq⟩⟩
 case round =>
  clear H'
  try clear c1
  try clear p2
  obtain ⟨x0_1,x1_1,x5_1,rfl,rfl,HA,HK1,HO_0,HK,HB⟩:=hrel
  cases gk with
  | zero=>exact absurd HA.out (by simp [jsa.l0])
  | succ k1 =>
   have H:=HA.out
   clear HA
   simp only [jsa.l0] at H
   by_cases c3:x5_1<(x0_1.length:Int)
   ·rw [if_pos c3] at H
    have c3b0:decide (x5_1<(x0_1.length:Int))=true:=dzT c3
    clear c3
    by_cases c4:0≤x5_1
    ·rw [if_pos c4] at H
     have c4b0:decide (0≤x5_1)=true:=dzT c4
     clear c4
     obtain ⟨y413,hy413⟩:∃ y_:List (S51),y_=(x0_1.set (x5_1:Int).toNat (⟨x1_1,(jd x0_1 x5_1).f1,(jd x0_1 x5_1).f2,(jd x0_1 x5_1).f3⟩:S51)):=⟨_,rfl⟩
     replace H:((some (y413.set (x5_1:Int).toNat (⟨(jd y413 x5_1).f0,wrap64 (x1_1+1),(jd y413 x5_1).f2,(jd y413 x5_1).f3⟩:S51):List (S51))).bind fun y414=>((some (y414.set (x5_1:Int).toNat (⟨(jd y414 x5_1).f0,(jd y414 x5_1).f1,wrap64 ((wrap64 (x1_1+1))+1),(jd y414 x5_1).f3⟩:S51):List (S51))).bind fun y415=>(jsa.l0 k1 (y415.set (x5_1:Int).toNat (⟨(jd y415 x5_1).f0,(jd y415 x5_1).f1,(jd y415 x5_1).f2,wrap64 ((wrap64 ((wrap64 (x1_1+1))+1))+1)⟩:S51)) (wrap64 ((wrap64 ((wrap64 ((wrap64 (x1_1+1))+1))+1))+1)) (wrap64 (x5_1+1)))))=some (r1,r2):=by first |(rw [hy413];with_reducible exact H) |(have H2_:=(Option.bind_some _ _).symm.trans H;rw [hy413];with_reducible exact H2_) |(have H2_:=(Option.bind_some _ _).symm.trans H;with_reducible exact H2_) | with_reducible exact H |(rw [hy413];exact H) | exact H
     have Ny413:=am hy413
     clear hy413
     obtain ⟨y414,hy414⟩:∃ y_:List (S51),y_=(y413.set (x5_1:Int).toNat (⟨(jd y413 x5_1).f0,wrap64 (x1_1+1),(jd y413 x5_1).f2,(jd y413 x5_1).f3⟩:S51)):=⟨_,rfl⟩
     replace H:((some (y414.set (x5_1:Int).toNat (⟨(jd y414 x5_1).f0,(jd y414 x5_1).f1,wrap64 ((wrap64 (x1_1+1))+1),(jd y414 x5_1).f3⟩:S51):List (S51))).bind fun y415=>(jsa.l0 k1 (y415.set (x5_1:Int).toNat (⟨(jd y415 x5_1).f0,(jd y415 x5_1).f1,(jd y415 x5_1).f2,wrap64 ((wrap64 ((wrap64 (x1_1+1))+1))+1)⟩:S51)) (wrap64 ((wrap64 ((wrap64 ((wrap64 (x1_1+1))+1))+1))+1)) (wrap64 (x5_1+1))))=some (r1,r2):=by first |(rw [hy414];with_reducible exact H) |(have H2_:=(Option.bind_some _ _).symm.trans H;rw [hy414];with_reducible exact H2_) |(have H2_:=(Option.bind_some _ _).symm.trans H;with_reducible exact H2_) | with_reducible exact H |(rw [hy414];exact H) | exact H
     have Ny414:=am hy414
     clear hy414
     obtain ⟨y415,hy415⟩:∃ y_:List (S51),y_=(y414.set (x5_1:Int).toNat (⟨(jd y414 x5_1).f0,(jd y414 x5_1).f1,wrap64 ((wrap64 (x1_1+1))+1),(jd y414 x5_1).f3⟩:S51)):=⟨_,rfl⟩
     replace H:(jsa.l0 k1 (y415.set (x5_1:Int).toNat (⟨(jd y415 x5_1).f0,(jd y415 x5_1).f1,(jd y415 x5_1).f2,wrap64 ((wrap64 ((wrap64 (x1_1+1))+1))+1)⟩:S51)) (wrap64 ((wrap64 ((wrap64 ((wrap64 (x1_1+1))+1))+1))+1)) (wrap64 (x5_1+1)))=some (r1,r2):=by first |(rw [hy415];with_reducible exact H) |(have H2_:=(Option.bind_some _ _).symm.trans H;rw [hy415];with_reducible exact H2_) |(have H2_:=(Option.bind_some _ _).symm.trans H;with_reducible exact H2_) | with_reducible exact H |(rw [hy415];exact H) | exact H
     have Ny415:=am hy415
     clear hy415
     obtain ⟨y416,hy416⟩:∃ y_:List (S51),y_=(y415.set (x5_1:Int).toNat (⟨(jd y415 x5_1).f0,(jd y415 x5_1).f1,(jd y415 x5_1).f2,wrap64 ((wrap64 ((wrap64 (x1_1+1))+1))+1)⟩:S51)):=⟨_,rfl⟩
     replace H:(jsa.l0 k1 y416 (wrap64 ((wrap64 ((wrap64 ((wrap64 (x1_1+1))+1))+1))+1)) (wrap64 (x5_1+1)))=some (r1,r2):=by first |(rw [hy416];with_reducible exact H) |(have H2_:=(Option.bind_some _ _).symm.trans H;rw [hy416];with_reducible exact H2_) |(have H2_:=(Option.bind_some _ _).symm.trans H;with_reducible exact H2_) | with_reducible exact H |(rw [hy416];exact H) | exact H
     have Ny416:=am hy416
     clear hy416
     have H':=am H
     clear H
     obtain ⟨Ao9,co9,eo9⟩:=Kd.jga HO_0.out
     subst eo9
     have p5:0≤(x5_1:Int):=ozD (uq)
     have q5:(x5_1:Int)<((x0_1.length:Int):Int):=ozD (uq)
     obtain ⟨go5,co5,eo5,gb5,gl5,cl5,HG5⟩:=Kd.R_form HO_0.out (by omega)
     (first | cases eo5 |(injection eo5 with ea_ en_ ec_;(first | subst ea_ |(injection ea_ with ea_;subst ea_));subst ec_;clear en_))
     have GB5:=am gb5
     have GG5:=am HG5
     clear gb5 gl5 HG5
     have HMgo5:=am (show (P0_ go5∨w.heap.size≤go5) from (HO_0.out.1 _ rfl))
     obtain ⟨ce5,hcl5,hM5,hcc5,hfr5⟩:=Kd.jFb HO_0.out z51 (x5_1:Int) p5 q5
     obtain rfl:=jTb hM5
     have hx5_0:wr.cell? ⟨go5,(x5_1:Int).toNat * 4,none⟩=some (.int .i64 ((jd x0_1 x5_1).f0)):=hcc5 0 _ rfl
     have hx5_1:wr.cell? ⟨go5,(x5_1:Int).toNat * 4+1,none⟩=some (.int .i64 ((jd x0_1 x5_1).f1)):=hcc5 1 _ rfl
     have hx5_2:wr.cell? ⟨go5,(x5_1:Int).toNat * 4+2,none⟩=some (.int .i64 ((jd x0_1 x5_1).f2)):=hcc5 2 _ rfl
     have hx5_3:wr.cell? ⟨go5,(x5_1:Int).toNat * 4+3,none⟩=some (.int .i64 ((jd x0_1 x5_1).f3)):=hcc5 3 _ rfl
     have hf5_0:wr.frozen? ⟨go5,(x5_1:Int).toNat * 4,none⟩=false:=hfr5 0
     have hf5_1:wr.frozen? ⟨go5,(x5_1:Int).toNat * 4+1,none⟩=false:=hfr5 1
     have hf5_2:wr.frozen? ⟨go5,(x5_1:Int).toNat * 4+2,none⟩=false:=hfr5 2
     have hf5_3:wr.frozen? ⟨go5,(x5_1:Int).toNat * 4+3,none⟩=false:=hfr5 3
     clear hcl5 hcc5 hfr5 hM5
     replace p5:=ezT p5
     replace q5:=ezT q5
     have HX10:=am (show Kd.R k51 51 wr w0.heap.size (fun k_=>(P0_ k_∨w.heap.size≤k_)) (.slice (some ⟨go5,0,none⟩) x0_1.length co9) x0_1 from (rq HO_0.out))
     obtain ⟨ce10,hcl10,hM10,hcc10,hfr10⟩:=Kd.jFb HX10.out z51 (x5_1:Int) (ozD (uq)) (by have h_:(x5_1:Int)<((x0_1.length:Int):Int):=ozD (uq);first | exact h_ |(have e_:=(Kd.jw HO_0.out).1;omega) | simpa using h_)
     obtain rfl:=jTb hM10
     have HP10:=Kd.R_seg HX10.out (x5_1:Int) (ozD (uq)) (by have h_:(x5_1:Int)<((x0_1.length:Int):Int):=ozD (uq);first | exact h_ |(have e_:=(Kd.jw HO_0.out).1;omega) | simpa using h_) (seg:=[.int .i64 x1_1]) (j:=0) hcl10 hcc10 (show 1≤4 from by decide) (x':=(⟨x1_1,(jd x0_1 x5_1).f1,(jd x0_1 x5_1).f2,(jd x0_1 x5_1).f3⟩:S51)) (jfb _ _ _ (⟨x1_1,(jd x0_1 x5_1).f1,(jd x0_1 x5_1).f2,(jd x0_1 x5_1).f3⟩:S51) ) (fun _ hk=>hk)
     have hx10_0:=hcc10 0 _ rfl
     (try simp only [show (k51).sz=4 from rfl,Nat.mul_one,Nat.add_zero] at hx10_0)
     have hf10_0:=hfr10 0
     (try simp only [show (k51).sz=4 from rfl,Nat.mul_one,Nat.add_zero] at hf10_0)
     clear hcl10 hcc10 hfr10 hM10
     go_wp2_with (first |((with_reducible refine jpb (t:=3) (p:=16) rfl ?_);refine jhb (t:=3) (p:=16) (v:=?vo_w11) (w1:=(wr.setCell ⟨go5,(x5_1:Int).toNat * 4,none⟩ (.int .i64 x1_1))) ?hg ?ho ?hn ?hr ?_;(case ho=>rfl);(case hg=>rfl);(case hn=>rfl);(case hr=>exact Y4);intro w11 hw;have hg:wr.grownBy w11 (some go5):=(by rw [hw];exact HP10.2);have hp_:Kd.R k51 51 w11 w0.heap.size (fun k_=>(P0_ k_∨w.heap.size≤k_)) (.slice (some ⟨go5,0,none⟩) x0_1.length co9) y413:=(by rw [hw,Ny413.out];exact HP10.1);clear HP10;replace HB:=am ((by rw [hw];exact jl (HB.out) GB5.out:Below w0.heap.size w0 w11));replace HK:=am (Kept.jjc (S:=(fun k_=>P0_ k_)) hg (Y7) (fun k_ e_=>(HO_0.out.1 k_ e_)));replace HO_0:=am (hp_);clear hg hw hp_;have p6:0≤(x5_1:Int):=ozD (uq);have q6:(x5_1:Int)<((x0_1.length:Int):Int):=ozD (uq);obtain ⟨ce6,hcl6,hM6,hcc6,hfr6⟩:=Kd.jFb HO_0.out z51 (x5_1:Int) p6 q6;obtain rfl:=jTb hM6;have hx6_0:w11.cell? ⟨go5,(x5_1:Int).toNat * 4,none⟩=some (.int .i64 ((jd y413 x5_1).f0)):=hcc6 0 _ rfl;have hx6_1:w11.cell? ⟨go5,(x5_1:Int).toNat * 4+1,none⟩=some (.int .i64 ((jd y413 x5_1).f1)):=hcc6 1 _ rfl;have hx6_2:w11.cell? ⟨go5,(x5_1:Int).toNat * 4+2,none⟩=some (.int .i64 ((jd y413 x5_1).f2)):=hcc6 2 _ rfl;have hx6_3:w11.cell? ⟨go5,(x5_1:Int).toNat * 4+3,none⟩=some (.int .i64 ((jd y413 x5_1).f3)):=hcc6 3 _ rfl;have hf6_0:w11.frozen? ⟨go5,(x5_1:Int).toNat * 4,none⟩=false:=hfr6 0;have hf6_1:w11.frozen? ⟨go5,(x5_1:Int).toNat * 4+1,none⟩=false:=hfr6 1;have hf6_2:w11.frozen? ⟨go5,(x5_1:Int).toNat * 4+2,none⟩=false:=hfr6 2;have hf6_3:w11.frozen? ⟨go5,(x5_1:Int).toNat * 4+3,none⟩=false:=hfr6 3;clear hcl6 hcc6 hfr6 hM6;replace p6:=ezT p6;replace q6:=ezT q6;have HX12:=am (show Kd.R k51 51 w11 w0.heap.size (fun k_=>(P0_ k_∨w.heap.size≤k_)) (.slice (some ⟨go5,0,none⟩) x0_1.length co9) y413 from (rq HO_0.out));obtain ⟨ce12,hcl12,hM12,hcc12,hfr12⟩:=Kd.jFb HX12.out z51 (x5_1:Int) (ozD (uq)) (by have h_:(x5_1:Int)<((x0_1.length:Int):Int):=ozD (uq);first | exact h_ |(have e_:=(Kd.jw HO_0.out).1;omega) | simpa using h_);obtain rfl:=jTb hM12;have HP12:=Kd.R_seg HX12.out (x5_1:Int) (ozD (uq)) (by have h_:(x5_1:Int)<((x0_1.length:Int):Int):=ozD (uq);first | exact h_ |(have e_:=(Kd.jw HO_0.out).1;omega) | simpa using h_) (seg:=[.int .i64 (wrap64 (x1_1+1))]) (j:=1) hcl12 hcc12 (show 2≤4 from by decide) (x':=(⟨(jd y413 x5_1).f0,wrap64 (x1_1+1),(jd y413 x5_1).f2,(jd y413 x5_1).f3⟩:S51)) (jfb _ _ _ (⟨(jd y413 x5_1).f0,wrap64 (x1_1+1),(jd y413 x5_1).f2,(jd y413 x5_1).f3⟩:S51) ) (fun _ hk=>hk);have hx12_1:=hcc12 1 _ rfl;(try simp only [show (k51).sz=4 from rfl,Nat.mul_one,Nat.add_zero] at hx12_1);have hf12_1:=hfr12 1;(try simp only [show (k51).sz=4 from rfl,Nat.mul_one,Nat.add_zero] at hf12_1);clear hcl12 hcc12 hfr12 hM12) |((with_reducible refine jpb (t:=3) (p:=23) rfl ?_);refine jhb (t:=3) (p:=23) (v:=?vo_w13) (w1:=(w11.setCell ⟨go5,(x5_1:Int).toNat * 4+1,none⟩ (.int .i64 (wrap64 (x1_1+1))))) ?hg ?ho ?hn ?hr ?_;(case ho=>rfl);(case hg=>rfl);(case hn=>rfl);(case hr=>exact Y4);intro w13 hw;have hg:w11.grownBy w13 (some go5):=(by rw [hw];exact HP12.2);have hp_:Kd.R k51 51 w13 w0.heap.size (fun k_=>(P0_ k_∨w.heap.size≤k_)) (.slice (some ⟨go5,0,none⟩) x0_1.length co9) y414:=(by rw [hw,Ny414.out];exact HP12.1);clear HP12;replace HB:=am ((by rw [hw];exact jl (HB.out) GB5.out:Below w0.heap.size w0 w13));replace HK:=am (Kept.jjc (S:=(fun k_=>P0_ k_)) hg (Y7) (fun k_ e_=>(HO_0.out.1 k_ e_)));replace HO_0:=am (hp_);clear hg hw hp_;have p7:0≤(x5_1:Int):=ozD (uq);have q7:(x5_1:Int)<((x0_1.length:Int):Int):=ozD (uq);obtain ⟨ce7,hcl7,hM7,hcc7,hfr7⟩:=Kd.jFb HO_0.out z51 (x5_1:Int) p7 q7;obtain rfl:=jTb hM7;have hx7_0:w13.cell? ⟨go5,(x5_1:Int).toNat * 4,none⟩=some (.int .i64 ((jd y414 x5_1).f0)):=hcc7 0 _ rfl;have hx7_1:w13.cell? ⟨go5,(x5_1:Int).toNat * 4+1,none⟩=some (.int .i64 ((jd y414 x5_1).f1)):=hcc7 1 _ rfl;have hx7_2:w13.cell? ⟨go5,(x5_1:Int).toNat * 4+2,none⟩=some (.int .i64 ((jd y414 x5_1).f2)):=hcc7 2 _ rfl;have hx7_3:w13.cell? ⟨go5,(x5_1:Int).toNat * 4+3,none⟩=some (.int .i64 ((jd y414 x5_1).f3)):=hcc7 3 _ rfl;have hf7_0:w13.frozen? ⟨go5,(x5_1:Int).toNat * 4,none⟩=false:=hfr7 0;have hf7_1:w13.frozen? ⟨go5,(x5_1:Int).toNat * 4+1,none⟩=false:=hfr7 1;have hf7_2:w13.frozen? ⟨go5,(x5_1:Int).toNat * 4+2,none⟩=false:=hfr7 2;have hf7_3:w13.frozen? ⟨go5,(x5_1:Int).toNat * 4+3,none⟩=false:=hfr7 3;clear hcl7 hcc7 hfr7 hM7;replace p7:=ezT p7;replace q7:=ezT q7;have HX14:=am (show Kd.R k51 51 w13 w0.heap.size (fun k_=>(P0_ k_∨w.heap.size≤k_)) (.slice (some ⟨go5,0,none⟩) x0_1.length co9) y414 from (rq HO_0.out));obtain ⟨ce14,hcl14,hM14,hcc14,hfr14⟩:=Kd.jFb HX14.out z51 (x5_1:Int) (ozD (uq)) (by have h_:(x5_1:Int)<((x0_1.length:Int):Int):=ozD (uq);first | exact h_ |(have e_:=(Kd.jw HO_0.out).1;omega) | simpa using h_);obtain rfl:=jTb hM14;have HP14:=Kd.R_seg HX14.out (x5_1:Int) (ozD (uq)) (by have h_:(x5_1:Int)<((x0_1.length:Int):Int):=ozD (uq);first | exact h_ |(have e_:=(Kd.jw HO_0.out).1;omega) | simpa using h_) (seg:=[.int .i64 (wrap64 ((wrap64 (x1_1+1))+1))]) (j:=2) hcl14 hcc14 (show 3≤4 from by decide) (x':=(⟨(jd y414 x5_1).f0,(jd y414 x5_1).f1,wrap64 ((wrap64 (x1_1+1))+1),(jd y414 x5_1).f3⟩:S51)) (jfb _ _ _ (⟨(jd y414 x5_1).f0,(jd y414 x5_1).f1,wrap64 ((wrap64 (x1_1+1))+1),(jd y414 x5_1).f3⟩:S51) ) (fun _ hk=>hk);have hx14_2:=hcc14 2 _ rfl;(try simp only [show (k51).sz=4 from rfl,Nat.mul_one,Nat.add_zero] at hx14_2);have hf14_2:=hfr14 2;(try simp only [show (k51).sz=4 from rfl,Nat.mul_one,Nat.add_zero] at hf14_2);clear hcl14 hcc14 hfr14 hM14) |((with_reducible refine jpb (t:=3) (p:=30) rfl ?_);refine jhb (t:=3) (p:=30) (v:=?vo_w15) (w1:=(w13.setCell ⟨go5,(x5_1:Int).toNat * 4+2,none⟩ (.int .i64 (wrap64 ((wrap64 (x1_1+1))+1))))) ?hg ?ho ?hn ?hr ?_;(case ho=>rfl);(case hg=>rfl);(case hn=>rfl);(case hr=>exact Y4);intro w15 hw;have hg:w13.grownBy w15 (some go5):=(by rw [hw];exact HP14.2);have hp_:Kd.R k51 51 w15 w0.heap.size (fun k_=>(P0_ k_∨w.heap.size≤k_)) (.slice (some ⟨go5,0,none⟩) x0_1.length co9) y415:=(by rw [hw,Ny415.out];exact HP14.1);clear HP14;replace HB:=am ((by rw [hw];exact jl (HB.out) GB5.out:Below w0.heap.size w0 w15));replace HK:=am (Kept.jjc (S:=(fun k_=>P0_ k_)) hg (Y7) (fun k_ e_=>(HO_0.out.1 k_ e_)));replace HO_0:=am (hp_);clear hg hw hp_;have p8:0≤(x5_1:Int):=ozD (uq);have q8:(x5_1:Int)<((x0_1.length:Int):Int):=ozD (uq);obtain ⟨ce8,hcl8,hM8,hcc8,hfr8⟩:=Kd.jFb HO_0.out z51 (x5_1:Int) p8 q8;obtain rfl:=jTb hM8;have hx8_0:w15.cell? ⟨go5,(x5_1:Int).toNat * 4,none⟩=some (.int .i64 ((jd y415 x5_1).f0)):=hcc8 0 _ rfl;have hx8_1:w15.cell? ⟨go5,(x5_1:Int).toNat * 4+1,none⟩=some (.int .i64 ((jd y415 x5_1).f1)):=hcc8 1 _ rfl;have hx8_2:w15.cell? ⟨go5,(x5_1:Int).toNat * 4+2,none⟩=some (.int .i64 ((jd y415 x5_1).f2)):=hcc8 2 _ rfl;have hx8_3:w15.cell? ⟨go5,(x5_1:Int).toNat * 4+3,none⟩=some (.int .i64 ((jd y415 x5_1).f3)):=hcc8 3 _ rfl;have hf8_0:w15.frozen? ⟨go5,(x5_1:Int).toNat * 4,none⟩=false:=hfr8 0;have hf8_1:w15.frozen? ⟨go5,(x5_1:Int).toNat * 4+1,none⟩=false:=hfr8 1;have hf8_2:w15.frozen? ⟨go5,(x5_1:Int).toNat * 4+2,none⟩=false:=hfr8 2;have hf8_3:w15.frozen? ⟨go5,(x5_1:Int).toNat * 4+3,none⟩=false:=hfr8 3;clear hcl8 hcc8 hfr8 hM8;replace p8:=ezT p8;replace q8:=ezT q8;have HX16:=am (show Kd.R k51 51 w15 w0.heap.size (fun k_=>(P0_ k_∨w.heap.size≤k_)) (.slice (some ⟨go5,0,none⟩) x0_1.length co9) y415 from (rq HO_0.out));obtain ⟨ce16,hcl16,hM16,hcc16,hfr16⟩:=Kd.jFb HX16.out z51 (x5_1:Int) (ozD (uq)) (by have h_:(x5_1:Int)<((x0_1.length:Int):Int):=ozD (uq);first | exact h_ |(have e_:=(Kd.jw HO_0.out).1;omega) | simpa using h_);obtain rfl:=jTb hM16;have HP16:=Kd.R_seg HX16.out (x5_1:Int) (ozD (uq)) (by have h_:(x5_1:Int)<((x0_1.length:Int):Int):=ozD (uq);first | exact h_ |(have e_:=(Kd.jw HO_0.out).1;omega) | simpa using h_) (seg:=[.int .i64 (wrap64 ((wrap64 ((wrap64 (x1_1+1))+1))+1))]) (j:=3) hcl16 hcc16 (show 4≤4 from by decide) (x':=(⟨(jd y415 x5_1).f0,(jd y415 x5_1).f1,(jd y415 x5_1).f2,wrap64 ((wrap64 ((wrap64 (x1_1+1))+1))+1)⟩:S51)) (jfb _ _ _ (⟨(jd y415 x5_1).f0,(jd y415 x5_1).f1,(jd y415 x5_1).f2,wrap64 ((wrap64 ((wrap64 (x1_1+1))+1))+1)⟩:S51) ) (fun _ hk=>hk);have hx16_3:=hcc16 3 _ rfl;(try simp only [show (k51).sz=4 from rfl,Nat.mul_one,Nat.add_zero] at hx16_3);have hf16_3:=hfr16 3;(try simp only [show (k51).sz=4 from rfl,Nat.mul_one,Nat.add_zero] at hf16_3);clear hcl16 hcc16 hfr16 hM16) |((with_reducible refine jpb (t:=3) (p:=37) rfl ?_);refine jhb (t:=3) (p:=37) (v:=?vo_w17) (w1:=(w15.setCell ⟨go5,(x5_1:Int).toNat * 4+3,none⟩ (.int .i64 (wrap64 ((wrap64 ((wrap64 (x1_1+1))+1))+1))))) ?hg ?ho ?hn ?hr ?_;(case ho=>rfl);(case hg=>rfl);(case hn=>rfl);(case hr=>exact Y4);intro w17 hw;have hg:w15.grownBy w17 (some go5):=(by rw [hw];exact HP16.2);have hp_:Kd.R k51 51 w17 w0.heap.size (fun k_=>(P0_ k_∨w.heap.size≤k_)) (.slice (some ⟨go5,0,none⟩) x0_1.length co9) y416:=(by rw [hw,Ny416.out];exact HP16.1);clear HP16;replace HB:=am ((by rw [hw];exact jl (HB.out) GB5.out:Below w0.heap.size w0 w17));replace HK:=am (Kept.jjc (S:=(fun k_=>P0_ k_)) hg (Y7) (fun k_ e_=>(HO_0.out.1 k_ e_)));replace HO_0:=am (hp_);clear hg hw hp_))
     go_roundg k1
     case measure=>have:=HK1.out;omega
     case rel=>exact ⟨(y416),(wrap64 ((wrap64 ((wrap64 ((wrap64 (x1_1+1))+1))+1))+1)),(wrap64 (x5_1+1)),(sq),(sq),H',⟨by have:=HK1.out;omega⟩,⟨rq HO_0.out⟩,⟨Y7⟩,⟨bq⟩⟩
    ·rw [if_neg c4] at H
     exact absurd H (by simp)
   ·rw [if_neg c3] at H
    have c3b0:decide (x5_1<(x0_1.length:Int))=false:=dzF c3
    clear c3
    simp only [Option.some.injEq,Prod.mk.injEq] at H
    obtain ⟨rfl,rfl⟩:=H
    obtain ⟨Ao18,co18,eo18⟩:=Kd.jga HO_0.out
    subst eo18
    go_wp2
    go_ret
    exact ⟨Y0,rq HO_0.out,bq,Y7⟩
end Go.Proofs.Ytbbmgiloikkpiaa.P
end
