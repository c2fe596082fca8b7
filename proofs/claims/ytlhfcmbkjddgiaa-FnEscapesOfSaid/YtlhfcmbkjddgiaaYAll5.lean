/- One part of the proofs on this program: functions of the program as plain functions, that the code comes to them, and facts on them. -/
import Derived.Test.YtlhfcmbkjddgiaaYAll1
import Derived.Test.YtlhfcmbkjddgiaaYAll4
import Derived.Test.YtlhfcmbkjddgiaaYWAuto
section
namespace Go.Proofs.Ytlhfcmbkjddgiaa.P
open Go.RowKit Go.Proofs.YtlhfcmbkjddgiaaW.PrintWords Go.Proofs.YtlhfcmbkjddgiaaW.PrintLast Go.Proofs.YtlhfcmbkjddgiaaW.PrintMore
attribute [local go_sem] jX jV jka jja jN jM jW jU jh
set_option linter.unusedVariables false
set_option linter.unusedSimpArgs false
def jAa.j0 : Nat → Int → Bool → List (S106) → Int → Int → Int → Option (Bool)
 | 0,_,_,_,_,_,_=>none
 | k+1,x6,x7,x109000,x110000,x110001,x110002=>if x7=true then ((jsa.f x110001 0 99).bind fun t110=>(if t110=true then (some (x110002 == 0)) else (some false))) else (if x6=2 then ((jYa.f x109000 x110001).bind fun t111=>(if t111=true then (some (x110002 == 0)) else (some false))) else (if x6=3 then ((jYa.f x109000 x110001).bind fun t112=>(if t112=true then ((jsa.f x110002 0 99).bind fun t113=>(some t113)) else (some false))) else (some false)))
def jAa.f (k : Nat) (l0_0 : List (S106)) (a1_0 : Int) (a1_1 : Int) (a1_2 : Int) : Option (Bool) := if a1_0 = 0 then (jAa.j0 k a1_0 (a1_0 == 0) l0_0 a1_0 a1_1 a1_2) else (jAa.j0 k a1_0 (a1_0 == 1) l0_0 a1_0 a1_1 a1_2)
set_option maxHeartbeats 8000000 in
set_option maxRecDepth 100000 in
theorem jAa.calls (k : Nat) (A0_0 : Option Addr) (c0_0 : Nat) (l0_0 : List (S106)) (a1_0 : Int) (a1_1 : Int) (a1_2 : Int) (r : Bool) (w : World) (hr0_0 : Kd.C k106 w A0_0 l0_0.length l0_0) (hc0_0 : l0_0.length ≤ c0_0) (h : jAa.f k l0_0 a1_0 a1_1 a1_2 = some r) :
  Calls Try.prog 66 #[.agg #[.slice A0_0 l0_0.length c0_0], .agg #[.int .i64 a1_0, .int .i64 a1_1, .int .i64 a1_2]] w fun e w'=>e=.returned (.bool r)∧Below w.heap.size w w':=by
 have hu31:=Try.underlying31
 have hu44:=Try.underlying44
 have HR0_0:=am hr0_0
 have HC0_0:=am hc0_0
 clear hr0_0 hc0_0
 have HB:=am (Below.refl w.heap.size w)
 have H:(if a1_0=0 then (jAa.j0 k a1_0 (a1_0 == 0) l0_0 a1_0 a1_1 a1_2) else (jAa.j0 k a1_0 (a1_0 == 1) l0_0 a1_0 a1_1 a1_2))=some r:=h
 clear h
 have HC3:=am H
 clear H
 go_enter Try.func66,Try.ntmps66
 go_upto_if 7 with (first |((with_reducible refine jG (N:=2) rfl ?_);refine bE (N:=2) (cs:=#[.slice A0_0 l0_0.length c0_0]) (t:=31) ?_;intro gb108 hg w4 hbox hb;have BK108:=am (hbox);have GW108:=am ((Y2:w.heap.size≤gb108));have GE108:=am ((Y2:w.heap.size≤gb108));replace HB:=am (jg (bq) hb);clear hb hbox hg) |((with_reducible refine jG (N:=3) rfl ?_);refine bE (N:=3) (cs:=#[.int .i64 a1_0, .int .i64 a1_1, .int .i64 a1_2]) (t:=44) ?_;intro gb109 hg w5 hbox hb;have BK109:=am (hbox);have GW109:=am ((Y113:w.heap.size≤gb109));have GE109:=am ((Y113:w.heap.size≤gb109));have NB108_109:=am ((by rw [hg];exact Nat.ne_of_lt (jva (g:=gb108) (o:=.cells #[.slice A0_0 l0_0.length c0_0] 31 (0,0)) (kq BK108.out)):gb108≠gb109));have NB109_108:=am ((by rw [hg];exact Nat.ne_of_gt (jva (g:=gb108) (o:=.cells #[.slice A0_0 l0_0.length c0_0] 31 (0,0)) (kq BK108.out)):gb109≠gb108));replace BK108:=am (jc (g:=gb108) (o:=.cells #[.slice A0_0 l0_0.length c0_0] 31 (0,0)) (kq BK108.out) hb);replace HB:=am (jg (by repeat (first |(with_reducible first | exact HB.out | apply jF | apply jq | apply jD | refine jy ?_ GE108.out) | exact HB.out)) hb);clear hb hbox hg;have hnb6:=NB109_108.out;have hnc6:=NB108_109.out;have hcz7_0:=bc0 BK109.out;have hcz7_1:=bc1 BK109.out;have hcz7_2:=bc2 BK109.out;have hfz7_0:=ja BK109.out 0;have hfz7_1:=ja BK109.out 1;have hfz7_2:=ja BK109.out 2))
 (try simp only [Act.put,List.setIfInBounds_toArray,List.set_cons_zero,List.set_cons_succ])
 go_cut [7] (fun v7 wc=>∃ (kq:Nat) (x7_2:Bool),v7=.bool x7_2∧jE (jAa.j0 kq a1_0 x7_2 l0_0 a1_0 a1_1 a1_2=some r)∧jE (kq≤k)∧jE (wc.heap[gb108]?=some (.cells #[(.slice A0_0 l0_0.length c0_0)] 31 (0,0)))∧jE (wc.heap[gb109]?=some (.cells #[.int .i64 a1_0, .int .i64 a1_1, .int .i64 a1_2] 44 (0,0)))∧jE (Below w.heap.size w wc))
 case first =>
  have H:=HC3.out
  clear HC3
  by_cases c8:a1_0=0
  ·rw [if_pos c8] at H
   have c8b0:(a1_0 == 0)=true:=beq_iff_eq.mpr c8
   have c8b1:(a1_0 != 0)=false:=bne_eq_false_iff_eq.mpr c8
   clear c8
   (first | rw [c8b0] |(simp only [jHb,jLb];rw [c8b0]) | skip)
   have H':=am H
   clear H
   go_wp2
   go_meet
   case rel=>exact ⟨_,((a1_0 == 0)),(sq),H',⟨Y34⟩,⟨kq BK108.out⟩,⟨kq BK109.out⟩,⟨Y20⟩⟩
  ·rw [if_neg c8] at H
   have c8b0:(a1_0 == 0)=false:=beq_eq_false_iff_ne.mpr c8
   have c8b1:(a1_0 != 0)=true:=bne_iff_ne.mpr c8
   (first | rw [c8b0] |(simp only [jHb,jLb];rw [c8b0]) | skip)
   have H':=am H
   clear H
   go_wp2
   go_meet
   case rel=>exact ⟨_,((a1_0 == 1)),(sq),H',⟨Y34⟩,⟨kq BK108.out⟩,⟨kq BK109.out⟩,⟨Y20⟩⟩
 case rest =>
  clear HC3
  try clear p2
  try clear c6
  try clear c8
  try clear c8b0
  try clear c8b1
  try clear hcz7_0
  try clear hcz7_1
  try clear hcz7_2
  try clear hfz7_0
  try clear hfz7_1
  try clear hfz7_2
  obtain ⟨kq,x7_2,rfl,HA,HJ2,BK108,BK109,HB⟩:=hcut
  cases kq with
  | zero=>exact absurd HA.out (by simp [jAa.j0])
  | succ kj2 =>
   have H:=HA.out
   clear HA
   simp only [jAa.j0] at H
   by_cases c9:x7_2=true
   ·subst c9
    have H1:((jsa.f a1_1 0 99).bind fun t110=>(if t110=true then (some (a1_2 == 0)) else (some false)))=some r:=by rw [if_pos rfl] at H;exact H
    clear H
    have H:=H1
    clear H1
    replace H:=bzS H
    obtain ⟨t110,A100,H⟩:=H
    replace H:(if t110=true then (some (a1_2 == 0)) else (some false))=some r:=H
    have A10:=am A100
    clear A100
    by_cases c11:t110=true
    ·subst c11
     have H1:(some (a1_2 == 0))=some r:=by rw [if_pos rfl] at H;exact H
     clear H
     have H:=H1
     clear H1
     obtain rfl:=Option.some.inj H
     have hnb12:=NB109_108.out
     have hnc12:=NB108_109.out
     have hcz13_0:=bc0 BK109.out
     have hcz13_1:=bc1 BK109.out
     have hcz13_2:=bc2 BK109.out
     have hfz13_0:=ja BK109.out 0
     have hfz13_1:=ja BK109.out 1
     have hfz13_2:=ja BK109.out 2
     go_wp2_with (first |((with_reducible refine jo (f:=92) rfl ?_);refine gL (some 12) Try.func92 #[.int .i64 a1_1, .int .i64 0, .int .i64 99] ?_;(with_reducible refine (jsa.calls a1_1 0 99 true _ A10.out).mono ?_);rintro e w' ⟨rfl,⟨nd,rfl⟩⟩;refine ⟨_,rfl,?_⟩))
     go_ret
     exact ⟨Y0,Y20⟩
    ·replace c11:=Bool.eq_false_iff.mpr c11
     subst c11
     have H1:(some false)=some r:=by rw [if_neg (show ¬ (false=true) by decide)] at H;exact H
     clear H
     have H:=H1
     clear H1
     obtain rfl:=Option.some.inj H
     have hnb14:=NB109_108.out
     have hnc14:=NB108_109.out
     have hcz15_0:=bc0 BK109.out
     have hcz15_1:=bc1 BK109.out
     have hcz15_2:=bc2 BK109.out
     have hfz15_0:=ja BK109.out 0
     have hfz15_1:=ja BK109.out 1
     have hfz15_2:=ja BK109.out 2
     go_wp2_with (first |((with_reducible refine jo (f:=92) rfl ?_);refine gL (some 12) Try.func92 #[.int .i64 a1_1, .int .i64 0, .int .i64 99] ?_;(with_reducible refine (jsa.calls a1_1 0 99 false _ A10.out).mono ?_);rintro e w' ⟨rfl,⟨nd,rfl⟩⟩;refine ⟨_,rfl,?_⟩))
     go_ret
     exact ⟨Y0,Y20⟩
   ·replace c9:=Bool.eq_false_iff.mpr c9
    subst c9
    have H1:(if a1_0=2 then ((jYa.f l0_0 a1_1).bind fun t111=>(if t111=true then (some (a1_2 == 0)) else (some false))) else (if a1_0=3 then ((jYa.f l0_0 a1_1).bind fun t112=>(if t112=true then ((jsa.f a1_2 0 99).bind fun t113=>(some t113)) else (some false))) else (some false)))=some r:=by rw [if_neg (show ¬ (false=true) by decide)] at H;exact H
    clear H
    have H:=H1
    clear H1
    by_cases c16:a1_0=2
    ·rw [if_pos c16] at H
     have c16b0:(a1_0 == 2)=true:=beq_iff_eq.mpr c16
     have c16b1:(a1_0 != 2)=false:=bne_eq_false_iff_eq.mpr c16
     clear c16
     replace H:=bzS H
     obtain ⟨t111,A170,H⟩:=H
     replace H:(if t111=true then (some (a1_2 == 0)) else (some false))=some r:=H
     have A17:=am A170
     clear A170
     by_cases c18:t111=true
     ·subst c18
      have H1:(some (a1_2 == 0))=some r:=by rw [if_pos rfl] at H;exact H
      clear H
      have H:=H1
      clear H1
      obtain rfl:=Option.some.inj H
      have hnb19:=NB108_109.out
      have hnc19:=NB109_108.out
      have hcz20_0:=bc0 BK108.out
      have hfz20_0:=ja BK108.out 0
      have hcz21_0:=bc0 BK109.out
      have hcz21_1:=bc1 BK109.out
      have hcz21_2:=bc2 BK109.out
      have hfz21_0:=ja BK109.out 0
      have hfz21_1:=ja BK109.out 1
      have hfz21_2:=ja BK109.out 2
      go_wp2_with (first |((with_reducible refine jo (f:=93) rfl ?_);refine gL (some 23) Try.func93 #[.agg #[.slice A0_0 l0_0.length c0_0], .int .i64 a1_1] ?_;(with_reducible refine (jYa.calls _ _ l0_0 a1_1 true _ ?side1 ?side2 A17.out).mono ?_);(case side1=>exact cq (Kd.jZ HR0_0.out HB.out));(case side2=>exact HC0_0.out);rintro e w22 ⟨rfl,hb⟩;refine ⟨_,rfl,?_⟩;replace BK108:=am (jc (g:=gb108) (o:=.cells #[.slice A0_0 l0_0.length c0_0] 31 (0,0)) (kq BK108.out) hb);replace BK109:=am (jc (g:=gb109) (o:=.cells #[.int .i64 a1_0, .int .i64 a1_1, .int .i64 a1_2] 44 (0,0)) (kq BK109.out) hb);replace HB:=am (jg (Y20) hb);(try clear hb);(try clear hb2);(try clear hk);(try clear hi);have hcz23_0:=bc0 BK109.out;have hcz23_1:=bc1 BK109.out;have hcz23_2:=bc2 BK109.out;have hfz23_0:=ja BK109.out 0;have hfz23_1:=ja BK109.out 1;have hfz23_2:=ja BK109.out 2))
      go_ret
      exact ⟨Y0,Y20⟩
     ·replace c18:=Bool.eq_false_iff.mpr c18
      subst c18
      have H1:(some false)=some r:=by rw [if_neg (show ¬ (false=true) by decide)] at H;exact H
      clear H
      have H:=H1
      clear H1
      obtain rfl:=Option.some.inj H
      have hnb24:=NB108_109.out
      have hnc24:=NB109_108.out
      have hcz25_0:=bc0 BK108.out
      have hfz25_0:=ja BK108.out 0
      have hcz26_0:=bc0 BK109.out
      have hcz26_1:=bc1 BK109.out
      have hcz26_2:=bc2 BK109.out
      have hfz26_0:=ja BK109.out 0
      have hfz26_1:=ja BK109.out 1
      have hfz26_2:=ja BK109.out 2
      go_wp2_with (first |((with_reducible refine jo (f:=93) rfl ?_);refine gL (some 23) Try.func93 #[.agg #[.slice A0_0 l0_0.length c0_0], .int .i64 a1_1] ?_;(with_reducible refine (jYa.calls _ _ l0_0 a1_1 false _ ?side1 ?side2 A17.out).mono ?_);(case side1=>exact cq (Kd.jZ HR0_0.out HB.out));(case side2=>exact HC0_0.out);rintro e w27 ⟨rfl,hb⟩;refine ⟨_,rfl,?_⟩;replace BK108:=am (jc (g:=gb108) (o:=.cells #[.slice A0_0 l0_0.length c0_0] 31 (0,0)) (kq BK108.out) hb);replace BK109:=am (jc (g:=gb109) (o:=.cells #[.int .i64 a1_0, .int .i64 a1_1, .int .i64 a1_2] 44 (0,0)) (kq BK109.out) hb);replace HB:=am (jg (Y20) hb);(try clear hb);(try clear hb2);(try clear hk);(try clear hi)))
      go_ret
      exact ⟨Y0,Y20⟩
    ·rw [if_neg c16] at H
     have c16b0:(a1_0 == 2)=false:=beq_eq_false_iff_ne.mpr c16
     have c16b1:(a1_0 != 2)=true:=bne_iff_ne.mpr c16
     by_cases c28:a1_0=3
     ·rw [if_pos c28] at H
      have c28b0:(a1_0 == 3)=true:=beq_iff_eq.mpr c28
      have c28b1:(a1_0 != 3)=false:=bne_eq_false_iff_eq.mpr c28
      clear c28
      replace H:=bzS H
      obtain ⟨t112,A290,H⟩:=H
      replace H:(if t112=true then ((jsa.f a1_2 0 99).bind fun t113=>(some t113)) else (some false))=some r:=H
      have A29:=am A290
      clear A290
      by_cases c30:t112=true
      ·subst c30
       have H1:((jsa.f a1_2 0 99).bind fun t113=>(some t113))=some r:=by rw [if_pos rfl] at H;exact H
       clear H
       have H:=H1
       clear H1
       replace H:=bzS H
       obtain ⟨t113,A310,H⟩:=H
       replace H:(some t113)=some r:=H
       have A31:=am A310
       clear A310
       obtain rfl:=Option.some.inj H
       have hnb32:=NB108_109.out
       have hnc32:=NB109_108.out
       have hcz33_0:=bc0 BK108.out
       have hfz33_0:=ja BK108.out 0
       have hcz34_0:=bc0 BK109.out
       have hcz34_1:=bc1 BK109.out
       have hcz34_2:=bc2 BK109.out
       have hfz34_0:=ja BK109.out 0
       have hfz34_1:=ja BK109.out 1
       have hfz34_2:=ja BK109.out 2
       go_wp2_with (first |((with_reducible refine jo (f:=93) rfl ?_);refine gL (some 34) Try.func93 #[.agg #[.slice A0_0 l0_0.length c0_0], .int .i64 a1_1] ?_;(with_reducible refine (jYa.calls _ _ l0_0 a1_1 true _ ?side1 ?side2 A29.out).mono ?_);(case side1=>exact cq (Kd.jZ HR0_0.out HB.out));(case side2=>exact HC0_0.out);rintro e w35 ⟨rfl,hb⟩;refine ⟨_,rfl,?_⟩;replace BK108:=am (jc (g:=gb108) (o:=.cells #[.slice A0_0 l0_0.length c0_0] 31 (0,0)) (kq BK108.out) hb);replace BK109:=am (jc (g:=gb109) (o:=.cells #[.int .i64 a1_0, .int .i64 a1_1, .int .i64 a1_2] 44 (0,0)) (kq BK109.out) hb);replace HB:=am (jg (Y20) hb);(try clear hb);(try clear hb2);(try clear hk);(try clear hi);have hcz36_0:=bc0 BK109.out;have hcz36_1:=bc1 BK109.out;have hcz36_2:=bc2 BK109.out;have hfz36_0:=ja BK109.out 0;have hfz36_1:=ja BK109.out 1;have hfz36_2:=ja BK109.out 2) |(go_at_call 92;(with_reducible refine (jsa.calls a1_2 0 99 t113 _ A31.out).mono ?_);rintro e w' ⟨rfl,⟨nd,rfl⟩⟩))
       go_ret
       exact ⟨Y0,Y20⟩
      ·replace c30:=Bool.eq_false_iff.mpr c30
       subst c30
       have H1:(some false)=some r:=by rw [if_neg (show ¬ (false=true) by decide)] at H;exact H
       clear H
       have H:=H1
       clear H1
       obtain rfl:=Option.some.inj H
       have hnb37:=NB108_109.out
       have hnc37:=NB109_108.out
       have hcz38_0:=bc0 BK108.out
       have hfz38_0:=ja BK108.out 0
       have hcz39_0:=bc0 BK109.out
       have hcz39_1:=bc1 BK109.out
       have hcz39_2:=bc2 BK109.out
       have hfz39_0:=ja BK109.out 0
       have hfz39_1:=ja BK109.out 1
       have hfz39_2:=ja BK109.out 2
       go_wp2_with (first |((with_reducible refine jo (f:=93) rfl ?_);refine gL (some 34) Try.func93 #[.agg #[.slice A0_0 l0_0.length c0_0], .int .i64 a1_1] ?_;(with_reducible refine (jYa.calls _ _ l0_0 a1_1 false _ ?side1 ?side2 A29.out).mono ?_);(case side1=>exact cq (Kd.jZ HR0_0.out HB.out));(case side2=>exact HC0_0.out);rintro e w40 ⟨rfl,hb⟩;refine ⟨_,rfl,?_⟩;replace BK108:=am (jc (g:=gb108) (o:=.cells #[.slice A0_0 l0_0.length c0_0] 31 (0,0)) (kq BK108.out) hb);replace BK109:=am (jc (g:=gb109) (o:=.cells #[.int .i64 a1_0, .int .i64 a1_1, .int .i64 a1_2] 44 (0,0)) (kq BK109.out) hb);replace HB:=am (jg (Y20) hb);(try clear hb);(try clear hb2);(try clear hk);(try clear hi)))
       go_ret
       exact ⟨Y0,Y20⟩
     ·rw [if_neg c28] at H
      have c28b0:(a1_0 == 3)=false:=beq_eq_false_iff_ne.mpr c28
      have c28b1:(a1_0 != 3)=true:=bne_iff_ne.mpr c28
      obtain rfl:=Option.some.inj H
      go_wp2
      go_ret
      exact ⟨Y0,Y20⟩
def jFa.l0 : Nat → ByteArray → Int → Option (Bool)
 | 0,_,_=>none
 | k+1,x0,x3=>if x3<(x0.size:Int) then (if 0≤x3 then (if (bt x0 x3)<97 then (some false) else (if (bt x0 x3) > 122 then (some false) else (jFa.l0 k x0 (wrap64 (x3+1))))) else (none)) else ((jsa.f (x0.size:Int) 1 6).bind fun t114=>(some t114))
def jFa.f (k : Nat) (a0 : ByteArray) : Option (Bool) := jFa.l0 k a0 0
set_option maxHeartbeats 8000000 in
set_option maxRecDepth 100000 in
theorem jFa.calls (k : Nat) (a0 : ByteArray) (r : Bool) (w : World) (h : jFa.f k a0 = some r) :
  Calls Try.prog 94 #[.string a0] w fun e w'=>e=.returned (.bool r)∧jhb w w':=by
 have H:(jFa.l0 k a0 0)=some r:=h
 clear h
 have H':=am H
 clear H
 go_enter Try.func94,Try.ntmps94
 go_wp2
 go_loopg [3] k (fun kq v3 w'=>∃ (x3_1:Int),v3=.int .i64 x3_1∧jE (jFa.l0 kq a0 x3_1=some r)∧jE (kq≤k)∧jhb w w')
 case atStart=>exact ⟨(0),(sq),H',⟨Nat.le_refl _⟩,Y4⟩
 case round =>
  clear H'
  obtain ⟨x3_1,rfl,HA,HK1,⟨m1,rfl⟩⟩:=hrel
  cases gk with
  | zero=>exact absurd HA.out (by simp [jFa.l0])
  | succ k1 =>
   have H:=HA.out
   clear HA
   simp only [jFa.l0] at H
   by_cases c2:x3_1<(a0.size:Int)
   ·rw [if_pos c2] at H
    have c2b0:decide (x3_1<(a0.size:Int))=true:=dzT c2
    clear c2
    by_cases c3:0≤x3_1
    ·rw [if_pos c3] at H
     have c3b0:decide (0≤x3_1)=true:=dzT c3
     clear c3
     by_cases c5:(bt a0 x3_1)<97
     ·rw [if_pos c5] at H
      have c5b0:decide ((bt a0 x3_1)<97)=true:=dzT c5
      clear c5
      obtain rfl:=Option.some.inj H
      have p4:0≤(x3_1:Int):=ozD (uq)
      have q4:x3_1<(a0.size:Int):=ozD (uq)
      have hx4:=bt_at a0 x3_1
      replace p4:=ezT p4
      replace q4:=ezT q4
      go_wp2
      go_ret
      exact ⟨sq,Y4⟩
     ·rw [if_neg c5] at H
      have c5b0:decide ((bt a0 x3_1)<97)=false:=dzF c5
      clear c5
      by_cases c7:(bt a0 x3_1) > 122
      ·rw [if_pos c7] at H
       have c7b0:decide (122<(bt a0 x3_1))=true:=dzT c7
       clear c7
       obtain rfl:=Option.some.inj H
       have p4:0≤(x3_1:Int):=ozD (uq)
       have q4:x3_1<(a0.size:Int):=ozD (uq)
       have hx4:=bt_at a0 x3_1
       replace p4:=ezT p4
       replace q4:=ezT q4
       have p6:0≤(x3_1:Int):=ozD (uq)
       have q6:x3_1<(a0.size:Int):=ozD (uq)
       have hx6:=bt_at a0 x3_1
       replace p6:=ezT p6
       replace q6:=ezT q6
       go_wp2
       go_ret
       exact ⟨sq,Y4⟩
      ·rw [if_neg c7] at H
       have c7b0:decide (122<(bt a0 x3_1))=false:=dzF c7
       clear c7
       have H':=am H
       clear H
       have p4:0≤(x3_1:Int):=ozD (uq)
       have q4:x3_1<(a0.size:Int):=ozD (uq)
       have hx4:=bt_at a0 x3_1
       replace p4:=ezT p4
       replace q4:=ezT q4
       have p6:0≤(x3_1:Int):=ozD (uq)
       have q6:x3_1<(a0.size:Int):=ozD (uq)
       have hx6:=bt_at a0 x3_1
       replace p6:=ezT p6
       replace q6:=ezT q6
       go_wp2
       go_roundg k1
       case measure=>have:=HK1.out;omega
       case rel=>exact ⟨(wrap64 (x3_1+1)),(sq),H',⟨by have:=HK1.out;omega⟩,Y4⟩
    ·rw [if_neg c3] at H
     exact absurd H (by simp)
   ·rw [if_neg c2] at H
    have c2b0:decide (x3_1<(a0.size:Int))=false:=dzF c2
    clear c2
    replace H:=bzS H
    obtain ⟨t114,A80,H⟩:=H
    replace H:(some t114)=some r:=H
    have A8:=am A80
    clear A80
    obtain rfl:=Option.some.inj H
    go_wp2_with (first |((with_reducible refine jo (f:=92) rfl ?_);refine gL (some 22) Try.func92 #[.int .i64 (a0.size:Int), .int .i64 1, .int .i64 6] ?_;(with_reducible refine (jsa.calls (a0.size:Int) 1 6 t114 _ A8.out).mono ?_);rintro e w' ⟨rfl,⟨nd,rfl⟩⟩;refine ⟨_,rfl,?_⟩))
    go_ret
    exact ⟨sq,Y4⟩
def jBa.l0 : Nat → List (S106) → ByteArray → Int → Option (Int)
 | 0,_,_,_=>none
 | k+1,x0,x1,x5=>if x5<(x0.length:Int) then (if 0≤x5 then (if ((jH x0 x5).f0).toList=x1.toList then (some x5) else (jBa.l0 k x0 x1 (wrap64 (x5+1)))) else (none)) else (some (-1))
def jBa.f (k : Nat) (l0 : List (S106)) (a1 : ByteArray) : Option (Int) := jBa.l0 k l0 a1 0
set_option maxHeartbeats 8000000 in
set_option maxRecDepth 100000 in
theorem jBa.calls (k : Nat) (A0 : Option Addr) (c0 : Nat) (l0 : List (S106)) (a1 : ByteArray) (r : Int) (w : World) (hr0 : Kd.C k106 w A0 l0.length l0) (hc0 : l0.length ≤ c0) (h : jBa.f k l0 a1 = some r) :
  Calls Try.prog 95 #[.slice A0 l0.length c0, .string a1] w fun e w'=>e=.returned (.int .i64 r)∧jhb w w':=by
 have HR0:=am hr0
 have HC0:=am hc0
 clear hr0 hc0
 have H:(jBa.l0 k l0 a1 0)=some r:=h
 clear h
 have H':=am H
 clear H
 go_enter Try.func95,Try.ntmps95
 go_wp2
 go_loopg [5] k (fun kq v5 w'=>∃ (x5_1:Int),v5=.int .i64 x5_1∧jE (jBa.l0 kq l0 a1 x5_1=some r)∧jE (kq≤k)∧jhb w w')
 case atStart=>exact ⟨(0),(sq),H',⟨Nat.le_refl _⟩,Y4⟩
 case round =>
  clear H'
  try clear p2
  obtain ⟨x5_1,rfl,HA,HK1,⟨m1,rfl⟩⟩:=hrel
  cases gk with
  | zero=>exact absurd HA.out (by simp [jBa.l0])
  | succ k1 =>
   have H:=HA.out
   clear HA
   simp only [jBa.l0] at H
   by_cases c3:x5_1<(l0.length:Int)
   ·rw [if_pos c3] at H
    have c3b0:decide (x5_1<(l0.length:Int))=true:=dzT c3
    clear c3
    by_cases c4:0≤x5_1
    ·rw [if_pos c4] at H
     have c4b0:decide (0≤x5_1)=true:=dzT c4
     clear c4
     by_cases c5:((jH l0 x5_1).f0).toList=a1.toList
     ·rw [if_pos c5] at H
      have c5b0:(((jH l0 x5_1).f0).toList == a1.toList)=true:=beq_iff_eq.mpr c5
      have c5b1:(((jH l0 x5_1).f0).toList != a1.toList)=false:=bne_eq_false_iff_eq.mpr c5
      clear c5
      obtain rfl:=Option.some.inj H
      have p115:0≤(x5_1:Int):=ozD (uq)
      have q115:x5_1<(l0.length:Int):=ozD (uq)
      obtain ⟨ad115,e115,hx115_0,hx115_1⟩:=at_T106 HR0.out x5_1 p115 q115
      cases e115
      replace p115:=ezT p115
      replace q115:=ezT q115
      go_wp2
      go_ret
      exact ⟨sq,Y4⟩
     ·rw [if_neg c5] at H
      have c5b0:(((jH l0 x5_1).f0).toList == a1.toList)=false:=beq_eq_false_iff_ne.mpr c5
      have c5b1:(((jH l0 x5_1).f0).toList != a1.toList)=true:=bne_iff_ne.mpr c5
      have H':=am H
      clear H
      have p115:0≤(x5_1:Int):=ozD (uq)
      have q115:x5_1<(l0.length:Int):=ozD (uq)
      obtain ⟨ad115,e115,hx115_0,hx115_1⟩:=at_T106 HR0.out x5_1 p115 q115
      cases e115
      replace p115:=ezT p115
      replace q115:=ezT q115
      go_wp2
      go_roundg k1
      case measure=>have:=HK1.out;omega
      case rel=>exact ⟨(wrap64 (x5_1+1)),(sq),H',⟨by have:=HK1.out;omega⟩,Y4⟩
    ·rw [if_neg c4] at H
     exact absurd H (by simp)
   ·rw [if_neg c3] at H
    have c3b0:decide (x5_1<(l0.length:Int))=false:=dzF c3
    clear c3
    obtain rfl:=Option.some.inj H
    go_wp2
    go_ret
    exact ⟨sq,Y4⟩
mutual
def jO.l0 : Nat → Int → List (S106) → Option (Bool)
 | 0,_,_=>none
 | k+1,x3,x155000=>if x3<(x155000.length:Int) then (if 0≤x3 then ((jFa.f k ((jH x155000 x3).f0)).bind fun t158=>(if t158=true then (if x3≤(x155000.length:Int) then ((jBa.f k (x155000.take (x3:Int).toNat) ((jH x155000 x3).f0)).bind fun t163=>(if t163≥0 then (jO.j1 k x3 true x155000) else (if x3=0 then (if ((jH x155000 x3).f1)=(-1) then (if x3 > 0 then ((jsa.f ((jH x155000 x3).f1) 0 (wrap64 (x3 - 1))).bind fun t164=>(jO.j1 k x3 (!t164) x155000)) else (jO.j1 k x3 false x155000)) else (jO.j1 k x3 true x155000)) else (if x3 > 0 then ((jsa.f ((jH x155000 x3).f1) 0 (wrap64 (x3 - 1))).bind fun t165=>(jO.j1 k x3 (!t165) x155000)) else (jO.j1 k x3 false x155000))))) else (none)) else (jO.j1 k x3 true x155000))) else (none)) else ((jsa.f (x155000.length:Int) 1 8).bind fun t155=>(some t155))
def jO.j1 : Nat → Int → Bool → List (S106) → Option (Bool)
 | 0,_,_,_=>none
 | k+1,x3,x51,x155000=>if x51=true then (some false) else (jO.l0 k (wrap64 (x3+1)) x155000)
end
def jO.f (k : Nat) (l0_0 : List (S106)) : Option (Bool) := jO.l0 k 0 l0_0
set_option maxHeartbeats 8000000 in
set_option maxRecDepth 100000 in
theorem jO.calls (k : Nat) (A0_0 : Option Addr) (c0_0 : Nat) (l0_0 : List (S106)) (r : Bool) (w : World) (hr0_0 : Kd.C k106 w A0_0 l0_0.length l0_0) (hc0_0 : l0_0.length ≤ c0_0) (h : jO.f k l0_0 = some r) :
  Calls Try.prog 67 #[.agg #[.slice A0_0 l0_0.length c0_0]] w fun e w'=>e=.returned (.bool r)∧Below w.heap.size w w':=by
 have hu31:=Try.underlying31
 have hu106:=Try.underlying106
 have HR0_0:=am hr0_0
 have HC0_0:=am hc0_0
 clear hr0_0 hc0_0
 have HB:=am (Below.refl w.heap.size w)
 have H:(jO.l0 k 0 l0_0)=some r:=h
 clear h
 have H':=am H
 clear H
 go_enter Try.func67,Try.ntmps67
 go_wp2_with (first |((with_reducible refine jG (N:=1) rfl ?_);refine bE (N:=1) (cs:=#[.slice A0_0 l0_0.length c0_0]) (t:=31) ?_;intro gb154 hg w2 hbox hb;have BK154:=am (hbox);have GW154:=am ((Y2:w.heap.size≤gb154));have GE154:=am ((Y2:w.heap.size≤gb154));replace HB:=am (jg (bq) hb);clear hb hbox hg))
 go_loopg [3] k (fun kq v3 w'=>∃ (x3_1:Int),v3=.int .i64 x3_1∧jE (jO.l0 kq x3_1 l0_0=some r)∧jE (kq≤k)∧jE (w'.heap[gb154]?=some (.cells #[(.slice A0_0 l0_0.length c0_0)] 31 (0,0)))∧jE (Below w.heap.size w w'))
 case atStart=>exact ⟨(0),(sq),H',⟨Nat.le_refl _⟩,⟨kq BK154.out⟩,⟨Y86⟩⟩
 case round =>
  clear H'
  try clear c1
  try clear p2
  obtain ⟨x3_1,rfl,HA,HK1,BK154,HB⟩:=hrel
  cases gk with
  | zero=>exact absurd HA.out (by simp [jO.l0])
  | succ k1 =>
   have H:=HA.out
   clear HA
   simp only [jO.l0] at H
   by_cases c3:x3_1<(l0_0.length:Int)
   ·rw [if_pos c3] at H
    have c3b0:decide (x3_1<(l0_0.length:Int))=true:=dzT c3
    clear c3
    by_cases c4:0≤x3_1
    ·rw [if_pos c4] at H
     have c4b0:decide (0≤x3_1)=true:=dzT c4
     clear c4
     have HC5:=am H
     clear H
     have hcz6_0:=bc0 BK154.out
     have hfz6_0:=ja BK154.out 0
     have p156:0≤(x3_1:Int):=ozD (uq)
     have q156:x3_1<(l0_0.length:Int):=ozD (uq)
     obtain ⟨ad156,e156,hx156_0,hx156_1⟩:=at_T106 HR0_0.out x3_1 p156 q156
     cases e156
     replace hx156_0:=cb HB.out hx156_0
     replace hx156_1:=cb HB.out hx156_1
     replace p156:=ezT p156
     replace q156:=ezT q156
     go_upto_region 5 with (first |((with_reducible refine jG (N:=4) rfl ?_);refine bE (N:=4) (cs:=#[.string (⟨#[]⟩:ByteArray), .int .i64 0]) (t:=106) ?_;intro gb157 hg w7 hbox hb;have BK157:=am (hbox);have GW157:=am ((Y114:w.heap.size≤gb157));have GE157:=am ((Y114:w.heap.size≤gb157));have NB154_157:=am ((by rw [hg];exact Nat.ne_of_lt (jva (g:=gb154) (o:=.cells #[.slice (some ad156) l0_0.length c0_0] 31 (0,0)) (kq BK154.out)):gb154≠gb157));have NB157_154:=am ((by rw [hg];exact Nat.ne_of_gt (jva (g:=gb154) (o:=.cells #[.slice (some ad156) l0_0.length c0_0] 31 (0,0)) (kq BK154.out)):gb157≠gb154));replace BK154:=am (jc (g:=gb154) (o:=.cells #[.slice (some ad156) l0_0.length c0_0] 31 (0,0)) (kq BK154.out) hb);replace HB:=am (jg (Y86) hb);clear hb hbox hg;have hnb8:=NB157_154.out;have hnc8:=NB154_157.out;have hcz9_0:=bc0 BK157.out;have hcz9_1:=bc1 BK157.out;have hfz9_0:=ja BK157.out 0;have hfz9_1:=ja BK157.out 1))
     (try simp only [Act.put,List.setIfInBounds_toArray,List.set_cons_zero,List.set_cons_succ])
     go_cut [51] (fun v51 wc=>∃ (kq:Nat) (x51_4:Bool),v51=.bool x51_4∧jE (jO.j1 kq x3_1 x51_4 l0_0=some r)∧jE (kq≤k1)∧jE (wc.heap[gb154]?=some (.cells #[(.slice (some ad156) l0_0.length c0_0)] 31 (0,0)))∧jE (wc.heap[gb157]?=some (.cells #[.string ((jH l0_0 x3_1).f0), .int .i64 ((jH l0_0 x3_1).f1)] 106 (0,0)))∧jE (Below w.heap.size w wc))
     case first =>
      have n0_:jE (((w7.setCell ⟨gb157,0,none⟩ (.string ((jH l0_0 x3_1).f0))).setCell ⟨gb157,1,none⟩ (.int .i64 ((jH l0_0 x3_1).f1))).heap[gb154]?=some (.cells #[.slice (some ad156) l0_0.length c0_0] 31 (0,0))):=⟨by (with_reducible repeat (first | refine jd ?_ _ | refine jf ?_ | refine jb ?_ _));refine jT ?_ NB154_157.out _;(with_reducible repeat (first | refine jd ?_ _ | refine jf ?_ | refine jb ?_ _));refine jT ?_ NB154_157.out _;(with_reducible repeat (first | refine jd ?_ _ | refine jf ?_ | refine jb ?_ _));exact BK154.out⟩
      have n1_:jE (((w7.setCell ⟨gb157,0,none⟩ (.string ((jH l0_0 x3_1).f0))).setCell ⟨gb157,1,none⟩ (.int .i64 ((jH l0_0 x3_1).f1))).heap[gb157]?=some (.cells #[.string ((jH l0_0 x3_1).f0), .int .i64 ((jH l0_0 x3_1).f1)] 106 (0,0))):=⟨by (with_reducible repeat (first | refine jd ?_ _ | refine jf ?_ | refine jb ?_ _));refine jS (cs:=#[.string ((jH l0_0 x3_1).f0), .int .i64 0]) ?_ 1 _ rfl;(with_reducible repeat (first | refine jd ?_ _ | refine jf ?_ | refine jb ?_ _));refine jS (cs:=#[.string (⟨#[]⟩:ByteArray), .int .i64 0]) ?_ 0 _ rfl;(with_reducible repeat (first | refine jd ?_ _ | refine jf ?_ | refine jb ?_ _));exact BK157.out⟩
      have n2_:jE (Below w.heap.size w ((w7.setCell ⟨gb157,0,none⟩ (.string ((jH l0_0 x3_1).f0))).setCell ⟨gb157,1,none⟩ (.int .i64 ((jH l0_0 x3_1).f1)))):=⟨Y87⟩
      clear BK154 BK157 HB hcz9_0 hcz9_1 hfz9_0 hfz9_1
      generalize ((w7.setCell ⟨gb157,0,none⟩ (.string ((jH l0_0 x3_1).f0))).setCell ⟨gb157,1,none⟩ (.int .i64 ((jH l0_0 x3_1).f1)))=w16 at n0_ n1_ n2_ ⊢
      have BK154:=n0_
      have BK157:=n1_
      have HB:=n2_
      clear n0_ n1_ n2_
      have HRW:=am (Kd.jZ HR0_0.out HB.out)
      have e0:w16.cell? ⟨gb157,0,none⟩=some (.string ((jH l0_0 x3_1).f0)):=(jw BK157.out 0).trans rfl
      have e1:w16.cell? ⟨gb157,1,none⟩=some (.int .i64 ((jH l0_0 x3_1).f1)):=(jw BK157.out 1).trans rfl
      have e2:w16.cell? ⟨gb154,0,none⟩=some (.slice (some ad156) l0_0.length c0_0):=(jw BK154.out 0).trans rfl
      have H:=HC5.out
      clear HC5
      obtain ⟨v,hv,H⟩:=bzS H
      have HN:=am (fun W=>(jFa.calls k1 _ v W hv).mono fun e w' h=>(⟨h.1,h.2.out⟩:e=.returned (.bool v)∧∃ m,w'=W.drewN m))
      clear hv hx156_0 hx156_1
      generalize hgx:jH l0_0 x3_1=x at H e0 e1 HN BK157
      have HGX:=am hgx
      clear hgx
      cases v with
      | false =>
       have H':=am (show jO.j1 k1 x3_1 true l0_0=some r from H)
       clear H
       go_big_quiet ((go_at_call 94;exact Calls.quiet_of (HN.out _)))
       go_wp2
       go_meet
       case rel=>exact ⟨_,_,rfl,H',⟨by have:=HK1.out;omega⟩,⟨jd BK154.out _⟩,⟨by rw [HGX.out];exact jd BK157.out _⟩,⟨jq HB.out _⟩⟩
      | true =>
       replace H:(if x3_1≤(l0_0.length:Int) then ((jBa.f k1 (l0_0.take (x3_1:Int).toNat) x.f0).bind fun t163=>(if t163≥0 then (jO.j1 k1 x3_1 true l0_0) else (if x3_1=0 then (if x.f1=(-1) then (if x3_1 > 0 then ((jsa.f x.f1 0 (wrap64 (x3_1 - 1))).bind fun t164=>(jO.j1 k1 x3_1 (!t164) l0_0)) else (jO.j1 k1 x3_1 false l0_0)) else (jO.j1 k1 x3_1 true l0_0)) else (if x3_1 > 0 then ((jsa.f x.f1 0 (wrap64 (x3_1 - 1))).bind fun t165=>(jO.j1 k1 x3_1 (!t165) l0_0)) else (jO.j1 k1 x3_1 false l0_0))))) else (none))=some r:=H
       have hle:x3_1≤(l0_0.length:Int):=by have:=ozD c3b0;omega
       have h0:0≤x3_1:=ozD c4b0
       rw [if_pos hle] at H
       obtain ⟨c,hc,H⟩:=bzS H
       obtain ⟨i0,hi0,_,_,_⟩:=info_parts info106
       have hcut:=cut_to (P:=Try.prog) 29 106 .i64 Try.underlying29 hi0 (some ad156) l0_0.length c0_0 x3_1 h0 hle HC0_0.out
       have hr18:=Kd.C_take (m:=(x3_1:Int).toNat) HRW.out (by omega)
       obtain ⟨y,hy⟩:∃ y:List S106,y=l0_0.take (x3_1:Int).toNat:=⟨_,rfl⟩
       have hyl:y.length=(x3_1:Int).toNat:=by rw [hy,List.length_take];omega
       have hyc:y.length≤c0_0:=by have:=HC0_0.out;omega
       rw [← hy] at hr18
       rw [← hyl] at hcut
       rw [← hy] at hc
       have HCN:=am (fun m=>(jBa.calls k1 _ _ y x.f0 c (w16.drewN m) (Kd.C_drewN hr18 m) hyc hc).mono fun e w' h=>(⟨h.1,h.2.out⟩:e=.returned (.int .i64 c)∧∃ m',w'=(w16.drewN m).drewN m'))
       clear hr18 hc hy hyl hyc
       have b0:=ezT h0
       have b1:=ezT hle
       by_cases hc0:c≥0
       ·rw [if_pos hc0] at H
        have b2:decide (0≤c)=true:=dzT hc0
        have H':=am H
        clear H hc0 h0 hle
        go_big_quiet (first |(go_at_call 94;exact Calls.quiet_of (HN.out _)) |(go_at_call 95;exact Calls.quiet_of (HCN.out _)))
        go_wp2
        go_meet
        case rel=>exact ⟨_,_,rfl,H',⟨by have:=HK1.out;omega⟩,⟨jd BK154.out _⟩,⟨by rw [HGX.out];exact jd BK157.out _⟩,⟨jq HB.out _⟩⟩
       ·rw [if_neg hc0] at H
        have b2:decide (0≤c)=false:=dzF hc0
        clear hc0
        by_cases hz:x3_1=0
        ·rw [if_pos hz] at H
         have b3:(x3_1 == 0)=true:=beq_iff_eq.2 hz
         have b4:decide (0<x3_1)=false:=dzF (by omega)
         by_cases hf:x.f1 = -1
         ·rw [if_pos hf,if_neg (by omega)] at H
          have b5:(x.f1 != -1)=false:=by simpa using hf
          have H':=am H
          clear H hf h0 hle hz
          go_big_quiet (first |(go_at_call 94;exact Calls.quiet_of (HN.out _)) |(go_at_call 95;exact Calls.quiet_of (HCN.out _)))
          go_wp2
          go_meet
          case rel=>exact ⟨_,_,rfl,H',⟨by have:=HK1.out;omega⟩,⟨jd BK154.out _⟩,⟨by rw [HGX.out];exact jd BK157.out _⟩,⟨jq HB.out _⟩⟩
         ·rw [if_neg hf] at H
          have b5:(x.f1 != -1)=true:=by simpa using hf
          have H':=am H
          clear H hf h0 hle hz
          go_big_quiet (first |(go_at_call 94;exact Calls.quiet_of (HN.out _)) |(go_at_call 95;exact Calls.quiet_of (HCN.out _)))
          go_wp2
          go_meet
          case rel=>exact ⟨_,_,rfl,H',⟨by have:=HK1.out;omega⟩,⟨jd BK154.out _⟩,⟨by rw [HGX.out];exact jd BK157.out _⟩,⟨jq HB.out _⟩⟩
        ·rw [if_neg hz,if_pos (by omega)] at H
         have b3:(x3_1 == 0)=false:=beq_eq_false_iff_ne.2 hz
         have b4:decide (0<x3_1)=true:=dzT (by omega)
         obtain ⟨t,ht,H⟩:=bzS H
         have H':=am H
         have HI:=am (fun W=>(jsa.calls _ _ _ t W ht).mono fun e w' h=>(⟨h.1,h.2.out⟩:e=.returned (.bool t)∧∃ m,w'=W.drewN m))
         clear H ht h0 hle hz
         go_big_quiet (first |(go_at_call 94;exact Calls.quiet_of (HN.out _)) |(go_at_call 95;exact Calls.quiet_of (HCN.out _)) |(go_at_call 92;exact Calls.quiet_of (HI.out _)))
         go_wp2
         go_meet
         case rel=>exact ⟨_,_,rfl,H',⟨by have:=HK1.out;omega⟩,⟨jd BK154.out _⟩,⟨by rw [HGX.out];exact jd BK157.out _⟩,⟨jq HB.out _⟩⟩
     case rest =>
      clear HC5
      try clear c1
      try clear c2
      try clear p2
      try clear c3
      try clear q3
      try clear p6
      try clear c11
      try clear c12
      try clear c13
      try clear c21
      try clear c32
      try clear c32b0
      try clear q39
      try clear q39
      obtain ⟨kq,x51_4,rfl,HA,HJ4,BK154,BK157,HB⟩:=hcut
      cases kq with
      | zero=>exact absurd HA.out (by simp [jO.j1])
      | succ kj4 =>
       have H:=HA.out
       clear HA
       simp only [jO.j1] at H
       by_cases c42:x51_4=true
       ·subst c42
        have H1:(some false)=some r:=by rw [if_pos rfl] at H;exact H
        clear H
        have H:=H1
        clear H1
        obtain rfl:=Option.some.inj H
        go_wp2
        go_ret
        exact ⟨Y0,Y87⟩
       ·replace c42:=Bool.eq_false_iff.mpr c42
        subst c42
        have H1:(jO.l0 kj4 (wrap64 (x3_1+1)) l0_0)=some r:=by rw [if_neg (show ¬ (false=true) by decide)] at H;exact H
        clear H
        have H:=H1
        clear H1
        have H':=am H
        clear H
        go_wp2
        go_roundg kj4
        case measure=>have:=HK1.out;have:=HJ4.out;omega
        case rel=>exact ⟨(wrap64 (x3_1+1)),(sq),H',⟨by have:=HK1.out;have:=HJ4.out;omega⟩,⟨kq BK154.out⟩,⟨Y87⟩⟩
    ·rw [if_neg c4] at H
     exact absurd H (by simp)
   ·rw [if_neg c3] at H
    have c3b0:decide (x3_1<(l0_0.length:Int))=false:=dzF c3
    clear c3
    replace H:=bzS H
    obtain ⟨t155,A430,H⟩:=H
    replace H:(some t155)=some r:=H
    have A43:=am A430
    clear A430
    obtain rfl:=Option.some.inj H
    have hcz44_0:=bc0 BK154.out
    have hfz44_0:=ja BK154.out 0
    go_wp2_with (first |((with_reducible refine jo (f:=92) rfl ?_);refine gL (some 55) Try.func92 #[.int .i64 (l0_0.length:Int), .int .i64 1, .int .i64 8] ?_;(with_reducible refine (jsa.calls (l0_0.length:Int) 1 8 t155 _ A43.out).mono ?_);rintro e w' ⟨rfl,⟨nd,rfl⟩⟩;refine ⟨_,rfl,?_⟩))
    go_ret
    exact ⟨Y0,Y86⟩
def jta.l0 : Nat → List (S44) → Int → List (S106) → Option (Bool)
 | 0,_,_,_=>none
 | k+1,x1,x5,x117000=>if x5<(x1.length:Int) then (if 0≤x5 then ((jAa.f k x117000 ((jL x1 x5).f0) ((jL x1 x5).f1) ((jL x1 x5).f2)).bind fun t119=>(if t119=true then (jta.l0 k x1 (wrap64 (x5+1)) x117000) else (some false))) else (none)) else ((jO.f k x117000).bind fun t117=>(if t117=true then (some (decide ((x1.length:Int)≤8))) else (some false)))
def jta.f (k : Nat) (l0_0 : List (S106)) (l1 : List (S44)) : Option (Bool) := jta.l0 k l1 0 l0_0
set_option maxHeartbeats 8000000 in
set_option maxRecDepth 100000 in
theorem jta.calls (k : Nat) (A0_0 : Option Addr) (c0_0 : Nat) (l0_0 : List (S106)) (A1 : Option Addr) (c1 : Nat) (l1 : List (S44)) (r : Bool) (w : World) (hr0_0 : Kd.C k106 w A0_0 l0_0.length l0_0) (hc0_0 : l0_0.length ≤ c0_0) (hr1 : Kd.C k44 w A1 l1.length l1) (hc1 : l1.length ≤ c1) (h : jta.f k l0_0 l1 = some r) :
  Calls Try.prog 35 #[.agg #[.slice A0_0 l0_0.length c0_0], .slice A1 l1.length c1] w fun e w'=>e=.returned (.bool r)∧Below w.heap.size w w':=by
 have hu31:=Try.underlying31
 have hu44:=Try.underlying44
 have HR0_0:=am hr0_0
 have HC0_0:=am hc0_0
 clear hr0_0 hc0_0
 have HR1:=am hr1
 have HC1:=am hc1
 clear hr1 hc1
 have HB:=am (Below.refl w.heap.size w)
 have H:(jta.l0 k l1 0 l0_0)=some r:=h
 clear h
 have H':=am H
 clear H
 go_enter Try.func35,Try.ntmps35
 go_wp2_with (first |((with_reducible refine jG (N:=2) rfl ?_);(try (refine jJa (by rfl) ?_;dsimp only));refine jUa ?hg (N:=2) ?hd (cs:=#[.slice A0_0 l0_0.length c0_0]) (t:=31) ?hr ?_;(case hd=>rfl);(case hg=>rfl);(case hr=>exact Y3);intro gb116 hg w3 hbox hb;have BK116:=am (hbox);have GW116:=am ((Y2:w.heap.size≤gb116));have GE116:=am ((Y2:w.heap.size≤gb116));replace HB:=am (jg (bq) hb);clear hb hbox hg))
 go_loopg [5] k (fun kq v5 w'=>∃ (x5_1:Int),v5=.int .i64 x5_1∧jE (jta.l0 kq l1 x5_1 l0_0=some r)∧jE (kq≤k)∧jE (w'.heap[gb116]?=some (.cells #[(.slice A0_0 l0_0.length c0_0)] 31 (0,0)))∧jE (Below w.heap.size w w'))
 case atStart=>exact ⟨(0),(sq),H',⟨Nat.le_refl _⟩,⟨kq BK116.out⟩,⟨Y43⟩⟩
 case round =>
  clear H'
  try clear c1
  try clear p2
  try clear c3
  obtain ⟨x5_1,rfl,HA,HK1,BK116,HB⟩:=hrel
  cases gk with
  | zero=>exact absurd HA.out (by simp [jta.l0])
  | succ k1 =>
   have H:=HA.out
   clear HA
   simp only [jta.l0] at H
   by_cases c4:x5_1<(l1.length:Int)
   ·rw [if_pos c4] at H
    have c4b0:decide (x5_1<(l1.length:Int))=true:=dzT c4
    clear c4
    by_cases c5:0≤x5_1
    ·rw [if_pos c5] at H
     have c5b0:decide (0≤x5_1)=true:=dzT c5
     clear c5
     replace H:=bzS H
     obtain ⟨t119,A60,H⟩:=H
     replace H:(if t119=true then (jta.l0 k1 l1 (wrap64 (x5_1+1)) l0_0) else (some false))=some r:=H
     have A6:=am A60
     clear A60
     by_cases c7:t119=true
     ·subst c7
      have H1:(jta.l0 k1 l1 (wrap64 (x5_1+1)) l0_0)=some r:=by rw [if_pos rfl] at H;exact H
      clear H
      have H:=H1
      clear H1
      have H':=am H
      clear H
      try go_wp2
      replace BK116:=am (jf BK116.out)
      replace HB:=am (jD HB.out)
      have p118:0≤(x5_1:Int):=ozD (uq)
      have q118:x5_1<(l1.length:Int):=ozD (uq)
      obtain ⟨ad118,e118,hx118_0,hx118_1,hx118_2⟩:=at_T44 HR1.out x5_1 p118 q118
      have hw118_2:=hx118_2
      have hw118_1:=hx118_1
      have hw118_0:=hx118_0
      cases e118
      replace hx118_0:=cb HB.out hx118_0
      replace hx118_1:=cb HB.out hx118_1
      replace hx118_2:=cb HB.out hx118_2
      replace p118:=ezT p118
      replace q118:=ezT q118
      refine start_ (n:=7) (S:=fun w'=>w'.cell? ⟨gb116,0,none⟩=some (.slice A0_0 l0_0.length c0_0)∧w'.cell? (ad118.add ((x5_1).toNat * 3))=some (.int .i64 ((jL l1 x5_1).f0))∧w'.cell? ⟨(ad118.add ((x5_1).toNat * 3)).block,(ad118.add ((x5_1).toNat * 3)).off+1,none⟩=some (.int .i64 ((jL l1 x5_1).f1))∧w'.cell? ⟨(ad118.add ((x5_1).toNat * 3)).block,(ad118.add ((x5_1).toNat * 3)).off+2,none⟩=some (.int .i64 ((jL l1 x5_1).f2))) (ds:=[]) #[false,false,false,false,false,false,false] (by kernel_rfl) rfl rfl ⟨(jw BK116.out 0).trans rfl,((HB.out.cell (World.block_lt_of_cell? w _ hw118_0)).trans hw118_0),((HB.out.cell (World.block_lt_of_cell? w _ hw118_1)).trans hw118_1),((HB.out.cell (World.block_lt_of_cell? w _ hw118_2)).trans hw118_2)⟩ (fun hHeld=>?_)
      generalize wr.drew=w8 at BK116 HB hx118_0 hx118_1 hx118_2 hHeld ⊢
      refine jwb (i:=1) (N:=some 13) (v:=?_) (a':=?_) #[false,true,false,false,false,false,false] rfl rfl (by kernel_rfl) (fun _ _ _ h=>h) (Or.inl ⟨by rfl,?_⟩) ?_ ?_
      rotate_left
      ·exact sb
      rotate_left
      ·exact sa
      refine jwb (i:=2) (N:=some 14) (v:=?_) (a':=?_) #[false,true,true,false,false,false,false] rfl rfl (by kernel_rfl) (fun _ _ _ h=>h) (Or.inl ⟨by rfl,?_⟩) ?_ ?_
      rotate_left
      ·exact sb
      rotate_left
      ·exact sa
      refine jwb (i:=3) (N:=some 15) (v:=?_) (a':=?_) #[false,true,true,true,false,false,false] rfl rfl (by kernel_rfl) (fun _ _ _ h=>h) (Or.inl ⟨by rfl,?_⟩) ?_ ?_
      rotate_left
      ·exact sb
      rotate_left
      ·exact sa
      refine jYb (i:=0) (N:=some 12) (v:=?_) (a':=?_) #[true,true,true,true,false,false,false] rfl rfl (by kernel_rfl) (fun _ _ _ h=>h) (Or.inl ⟨by rfl,?_⟩) hHeld ?_ ?_
      rotate_left
      ·rintro w' ⟨s0,s1,s2,s3⟩
       go_simp
       with_reducible rfl
      rotate_left
      ·exact sa
      refine jYb (i:=4) (N:=some 16) (v:=?_) (a':=?_) #[true,true,true,true,true,false,false] rfl rfl (by kernel_rfl) (fun _ _ _ h=>h) (Or.inl ⟨by rfl,?_⟩) hHeld ?_ ?_
      rotate_left
      ·rintro w' ⟨s0,s1,s2,s3⟩
       go_simp
       with_reducible rfl
      rotate_left
      ·exact sa
      refine one_ (i:=5) (N:=some 17) #[true,true,true,true,true,true,false] rfl rfl (by kernel_rfl) (by decide) (fun K hK=>?_)
      refine goes_ Try.func66 (by kernel_rfl) rfl #[.agg #[.slice A0_0 l0_0.length c0_0], .agg #[.int .i64 ((jL l1 x5_1).f0), .int .i64 ((jL l1 x5_1).f1), .int .i64 ((jL l1 x5_1).f2)]] (by rfl) rfl rfl (aq) ?_
      with_reducible refine (jAa.calls k1 _ _ l0_0 ((jL l1 x5_1).f0) ((jL l1 x5_1).f1) ((jL l1 x5_1).f2) true _ ?side1 ?side2 A6.out).mono ?_
      (case side1=>exact cq (Kd.jZ HR0_0.out HB.out))
      (case side2=>exact HC0_0.out)
      rintro e w9 ⟨rfl,hb⟩
      refine ⟨_,rfl,?_⟩
      replace BK116:=am (jc (g:=gb116) (o:=.cells #[.slice A0_0 l0_0.length c0_0] 31 (0,0)) (kq BK116.out) hb)
      replace HB:=am (jg (Y43) hb)
      (try clear hb)
      (try clear hb2)
      (try clear hk)
      (try clear hi)
      refine hK.out _ _ ⟨(jw BK116.out 0).trans rfl,((HB.out.cell (World.block_lt_of_cell? w _ hw118_0)).trans hw118_0),((HB.out.cell (World.block_lt_of_cell? w _ hw118_1)).trans hw118_1),((HB.out.cell (World.block_lt_of_cell? w _ hw118_2)).trans hw118_2)⟩ (fun hHeld=>?_)
      clear hK K
      refine norm_ (a':=?_) ?_ ?_
      rotate_left
      ·show Act.put _ (some 17) _=_
       simp only [Act.put,List.setIfInBounds_toArray,List.set_cons_zero,List.set_cons_succ,jHb,jLb]
       rfl
      refine jwb (i:=6) (N:=some 18) (v:=?_) (a':=?_) #[true,true,true,true,true,true,true] rfl rfl (by kernel_rfl) (fun _ _ _ h=>h) (Or.inl ⟨by rfl,?_⟩) ?_ ?_
      rotate_left
      ·exact sb
      rotate_left
      ·exact sa
      refine done_ (by kernel_rfl) ?_
      try go_wp2
      go_roundg k1
      case measure=>have:=HK1.out;omega
      case rel=>exact ⟨(wrap64 (x5_1+1)),(sq),H',⟨by have:=HK1.out;omega⟩,⟨kq BK116.out⟩,⟨Y43⟩⟩
     ·replace c7:=Bool.eq_false_iff.mpr c7
      subst c7
      have H1:(some false)=some r:=by rw [if_neg (show ¬ (false=true) by decide)] at H;exact H
      clear H
      have H:=H1
      clear H1
      obtain rfl:=Option.some.inj H
      try go_wp2
      replace BK116:=am (jf BK116.out)
      replace HB:=am (jD HB.out)
      have p118:0≤(x5_1:Int):=ozD (uq)
      have q118:x5_1<(l1.length:Int):=ozD (uq)
      obtain ⟨ad118,e118,hx118_0,hx118_1,hx118_2⟩:=at_T44 HR1.out x5_1 p118 q118
      have hw118_2:=hx118_2
      have hw118_1:=hx118_1
      have hw118_0:=hx118_0
      cases e118
      replace hx118_0:=cb HB.out hx118_0
      replace hx118_1:=cb HB.out hx118_1
      replace hx118_2:=cb HB.out hx118_2
      replace p118:=ezT p118
      replace q118:=ezT q118
      refine start_ (n:=7) (S:=fun w'=>w'.cell? ⟨gb116,0,none⟩=some (.slice A0_0 l0_0.length c0_0)∧w'.cell? (ad118.add ((x5_1).toNat * 3))=some (.int .i64 ((jL l1 x5_1).f0))∧w'.cell? ⟨(ad118.add ((x5_1).toNat * 3)).block,(ad118.add ((x5_1).toNat * 3)).off+1,none⟩=some (.int .i64 ((jL l1 x5_1).f1))∧w'.cell? ⟨(ad118.add ((x5_1).toNat * 3)).block,(ad118.add ((x5_1).toNat * 3)).off+2,none⟩=some (.int .i64 ((jL l1 x5_1).f2))) (ds:=[]) #[false,false,false,false,false,false,false] (by kernel_rfl) rfl rfl ⟨(jw BK116.out 0).trans rfl,((HB.out.cell (World.block_lt_of_cell? w _ hw118_0)).trans hw118_0),((HB.out.cell (World.block_lt_of_cell? w _ hw118_1)).trans hw118_1),((HB.out.cell (World.block_lt_of_cell? w _ hw118_2)).trans hw118_2)⟩ (fun hHeld=>?_)
      generalize wr.drew=w10 at BK116 HB hx118_0 hx118_1 hx118_2 hHeld ⊢
      refine jwb (i:=1) (N:=some 13) (v:=?_) (a':=?_) #[false,true,false,false,false,false,false] rfl rfl (by kernel_rfl) (fun _ _ _ h=>h) (Or.inl ⟨by rfl,?_⟩) ?_ ?_
      rotate_left
      ·exact sb
      rotate_left
      ·exact sa
      refine jwb (i:=2) (N:=some 14) (v:=?_) (a':=?_) #[false,true,true,false,false,false,false] rfl rfl (by kernel_rfl) (fun _ _ _ h=>h) (Or.inl ⟨by rfl,?_⟩) ?_ ?_
      rotate_left
      ·exact sb
      rotate_left
      ·exact sa
      refine jwb (i:=3) (N:=some 15) (v:=?_) (a':=?_) #[false,true,true,true,false,false,false] rfl rfl (by kernel_rfl) (fun _ _ _ h=>h) (Or.inl ⟨by rfl,?_⟩) ?_ ?_
      rotate_left
      ·exact sb
      rotate_left
      ·exact sa
      refine jYb (i:=0) (N:=some 12) (v:=?_) (a':=?_) #[true,true,true,true,false,false,false] rfl rfl (by kernel_rfl) (fun _ _ _ h=>h) (Or.inl ⟨by rfl,?_⟩) hHeld ?_ ?_
      rotate_left
      ·rintro w' ⟨s0,s1,s2,s3⟩
       go_simp
       with_reducible rfl
      rotate_left
      ·exact sa
      refine jYb (i:=4) (N:=some 16) (v:=?_) (a':=?_) #[true,true,true,true,true,false,false] rfl rfl (by kernel_rfl) (fun _ _ _ h=>h) (Or.inl ⟨by rfl,?_⟩) hHeld ?_ ?_
      rotate_left
      ·rintro w' ⟨s0,s1,s2,s3⟩
       go_simp
       with_reducible rfl
      rotate_left
      ·exact sa
      refine one_ (i:=5) (N:=some 17) #[true,true,true,true,true,true,false] rfl rfl (by kernel_rfl) (by decide) (fun K hK=>?_)
      refine goes_ Try.func66 (by kernel_rfl) rfl #[.agg #[.slice A0_0 l0_0.length c0_0], .agg #[.int .i64 ((jL l1 x5_1).f0), .int .i64 ((jL l1 x5_1).f1), .int .i64 ((jL l1 x5_1).f2)]] (by rfl) rfl rfl (aq) ?_
      with_reducible refine (jAa.calls k1 _ _ l0_0 ((jL l1 x5_1).f0) ((jL l1 x5_1).f1) ((jL l1 x5_1).f2) false _ ?side1 ?side2 A6.out).mono ?_
      (case side1=>exact cq (Kd.jZ HR0_0.out HB.out))
      (case side2=>exact HC0_0.out)
      rintro e w11 ⟨rfl,hb⟩
      refine ⟨_,rfl,?_⟩
      replace BK116:=am (jc (g:=gb116) (o:=.cells #[.slice A0_0 l0_0.length c0_0] 31 (0,0)) (kq BK116.out) hb)
      replace HB:=am (jg (Y43) hb)
      (try clear hb)
      (try clear hb2)
      (try clear hk)
      (try clear hi)
      refine hK.out _ _ ⟨(jw BK116.out 0).trans rfl,((HB.out.cell (World.block_lt_of_cell? w _ hw118_0)).trans hw118_0),((HB.out.cell (World.block_lt_of_cell? w _ hw118_1)).trans hw118_1),((HB.out.cell (World.block_lt_of_cell? w _ hw118_2)).trans hw118_2)⟩ (fun hHeld=>?_)
      clear hK K
      refine norm_ (a':=?_) ?_ ?_
      rotate_left
      ·show Act.put _ (some 17) _=_
       simp only [Act.put,List.setIfInBounds_toArray,List.set_cons_zero,List.set_cons_succ,jHb,jLb]
       rfl
      refine jwb (i:=6) (N:=some 18) (v:=?_) (a':=?_) #[true,true,true,true,true,true,true] rfl rfl (by kernel_rfl) (fun _ _ _ h=>h) (Or.inl ⟨by rfl,?_⟩) ?_ ?_
      rotate_left
      ·exact sb
      rotate_left
      ·exact sa
      refine done_ (by kernel_rfl) ?_
      try go_wp2
      go_ret
      exact ⟨Y0,Y43⟩
    ·rw [if_neg c5] at H
     exact absurd H (by simp)
   ·rw [if_neg c4] at H
    have c4b0:decide (x5_1<(l1.length:Int))=false:=dzF c4
    clear c4
    replace H:=bzS H
    obtain ⟨t117,A120,H⟩:=H
    replace H:(if t117=true then (some (decide ((l1.length:Int)≤8))) else (some false))=some r:=H
    have A12:=am A120
    clear A120
    by_cases c13:t117=true
    ·subst c13
     have H1:(some (decide ((l1.length:Int)≤8)))=some r:=by rw [if_pos rfl] at H;exact H
     clear H
     have H:=H1
     clear H1
     obtain rfl:=Option.some.inj H
     have hcz14_0:=bc0 BK116.out
     have hfz14_0:=ja BK116.out 0
     go_wp2_with (first |((with_reducible refine jo (f:=67) rfl ?_);refine gL (some 20) Try.func67 #[.agg #[.slice A0_0 l0_0.length c0_0]] ?_;(with_reducible refine (jO.calls k1 _ _ l0_0 true _ ?side1 ?side2 A12.out).mono ?_);(case side1=>exact cq (Kd.jZ HR0_0.out HB.out));(case side2=>exact HC0_0.out);rintro e w15 ⟨rfl,hb⟩;refine ⟨_,rfl,?_⟩;replace BK116:=am (jc (g:=gb116) (o:=.cells #[.slice A0_0 l0_0.length c0_0] 31 (0,0)) (kq BK116.out) hb);replace HB:=am (jg (Y43) hb);(try clear hb);(try clear hb2);(try clear hk);(try clear hi)))
     go_ret
     exact ⟨Y0,Y43⟩
    ·replace c13:=Bool.eq_false_iff.mpr c13
     subst c13
     have H1:(some false)=some r:=by rw [if_neg (show ¬ (false=true) by decide)] at H;exact H
     clear H
     have H:=H1
     clear H1
     obtain rfl:=Option.some.inj H
     have hcz16_0:=bc0 BK116.out
     have hfz16_0:=ja BK116.out 0
     go_wp2_with (first |((with_reducible refine jo (f:=67) rfl ?_);refine gL (some 20) Try.func67 #[.agg #[.slice A0_0 l0_0.length c0_0]] ?_;(with_reducible refine (jO.calls k1 _ _ l0_0 false _ ?side1 ?side2 A12.out).mono ?_);(case side1=>exact cq (Kd.jZ HR0_0.out HB.out));(case side2=>exact HC0_0.out);rintro e w17 ⟨rfl,hb⟩;refine ⟨_,rfl,?_⟩;replace BK116:=am (jc (g:=gb116) (o:=.cells #[.slice A0_0 l0_0.length c0_0] 31 (0,0)) (kq BK116.out) hb);replace HB:=am (jg (Y43) hb);(try clear hb);(try clear hb2);(try clear hk);(try clear hi)))
     go_ret
     exact ⟨Y0,Y43⟩
def jNa.l0 : Nat → List Int → Int → Int → Option (Bool)
 | 0,_,_,_=>none
 | k+1,x0,x1,x5=>if x5<(x0.length:Int) then (if 0≤x5 then (if (rd x0 x5)=x1 then (some true) else (jNa.l0 k x0 x1 (wrap64 (x5+1)))) else (none)) else (some false)
def jNa.f (k : Nat) (l0 : List Int) (a1 : Int) : Option (Bool) := jNa.l0 k l0 a1 0
set_option maxHeartbeats 8000000 in
set_option maxRecDepth 100000 in
theorem jNa.calls (k : Nat) (A0 : Option Addr) (c0 : Nat) (l0 : List Int) (a1 : Int) (r : Bool) (w : World) (hr0 : Kd.C (Kd.int .i64) w A0 l0.length l0) (hc0 : l0.length ≤ c0) (h : jNa.f k l0 a1 = some r) :
  Calls Try.prog 98 #[.slice A0 l0.length c0, .int .i64 a1] w fun e w'=>e=.returned (.bool r)∧jhb w w':=by
 have HR0:=am hr0
 have HC0:=am hc0
 clear hr0 hc0
 have H:(jNa.l0 k l0 a1 0)=some r:=h
 clear h
 have H':=am H
 clear H
 go_enter Try.func98,Try.ntmps98
 go_wp2
 go_loopg [5] k (fun kq v5 w'=>∃ (x5_1:Int),v5=.int .i64 x5_1∧jE (jNa.l0 kq l0 a1 x5_1=some r)∧jE (kq≤k)∧jhb w w')
 case atStart=>exact ⟨(0),(sq),H',⟨Nat.le_refl _⟩,Y4⟩
 case round =>
  clear H'
  try clear p2
  obtain ⟨x5_1,rfl,HA,HK1,⟨m1,rfl⟩⟩:=hrel
  cases gk with
  | zero=>exact absurd HA.out (by simp [jNa.l0])
  | succ k1 =>
   have H:=HA.out
   clear HA
   simp only [jNa.l0] at H
   by_cases c3:x5_1<(l0.length:Int)
   ·rw [if_pos c3] at H
    have c3b0:decide (x5_1<(l0.length:Int))=true:=dzT c3
    clear c3
    by_cases c4:0≤x5_1
    ·rw [if_pos c4] at H
     have c4b0:decide (0≤x5_1)=true:=dzT c4
     clear c4
     by_cases c5:(rd l0 x5_1)=a1
     ·rw [if_pos c5] at H
      have c5b0:((rd l0 x5_1) == a1)=true:=beq_iff_eq.mpr c5
      have c5b1:((rd l0 x5_1) != a1)=false:=bne_eq_false_iff_eq.mpr c5
      clear c5
      obtain rfl:=Option.some.inj H
      have p157:0≤(x5_1:Int):=ozD (uq)
      have q157:x5_1<(l0.length:Int):=ozD (uq)
      obtain ⟨ad157,e157,hx157_0⟩:=Kd.jsb HR0.out x5_1 p157 q157
      cases e157
      replace p157:=ezT p157
      replace q157:=ezT q157
      go_wp2
      go_ret
      exact ⟨sq,Y4⟩
     ·rw [if_neg c5] at H
      have c5b0:((rd l0 x5_1) == a1)=false:=beq_eq_false_iff_ne.mpr c5
      have c5b1:((rd l0 x5_1) != a1)=true:=bne_iff_ne.mpr c5
      have H':=am H
      clear H
      have p157:0≤(x5_1:Int):=ozD (uq)
      have q157:x5_1<(l0.length:Int):=ozD (uq)
      obtain ⟨ad157,e157,hx157_0⟩:=Kd.jsb HR0.out x5_1 p157 q157
      cases e157
      replace p157:=ezT p157
      replace q157:=ezT q157
      go_wp2
      go_roundg k1
      case measure=>have:=HK1.out;omega
      case rel=>exact ⟨(wrap64 (x5_1+1)),(sq),H',⟨by have:=HK1.out;omega⟩,Y4⟩
    ·rw [if_neg c4] at H
     exact absurd H (by simp)
   ·rw [if_neg c3] at H
    have c3b0:decide (x5_1<(l0.length:Int))=false:=dzF c3
    clear c3
    obtain rfl:=Option.some.inj H
    go_wp2
    go_ret
    exact ⟨sq,Y4⟩
def jVa.l0 : Nat → Int → List Int → List (S106) → Option (List Int)
 | 0,_,_,_=>none
 | k+1,x1,x5,x159000=>if x1≥0 then (if x5.length<17592186044416 then (if 0≤x1 then (if x1<(x159000.length:Int) then (jVa.l0 k ((jH x159000 x1).f1) (x5 ++ [x1]) x159000) else (none)) else (none)) else (none)) else (some x5)
def jVa.f (k : Nat) (l0_0 : List (S106)) (a1 : Int) : Option (List Int) := jVa.l0 k a1 (([] : List Int)) l0_0
set_option maxHeartbeats 8000000 in
set_option maxRecDepth 100000 in
theorem jVa.calls (k : Nat) (A0_0 : Option Addr) (c0_0 : Nat) (l0_0 : List (S106)) (a1 : Int) (r : List Int) (w : World) (hr0_0 : Kd.C k106 w A0_0 l0_0.length l0_0) (hc0_0 : l0_0.length ≤ c0_0) (h : jVa.f k l0_0 a1 = some r) :
  Calls Try.prog 99 #[.agg #[.slice A0_0 l0_0.length c0_0], .int .i64 a1] w fun e w'=>∃ v0_:Value,e=.returned (v0_)∧Kd.R (Kd.int .i64) 3 w' w.heap.size (fun _=>True) v0_ r∧Below w.heap.size w w':=by
 have hu31:=Try.underlying31
 have HR0_0:=am hr0_0
 have HC0_0:=am hc0_0
 clear hr0_0 hc0_0
 have HB:=am (Below.refl w.heap.size w)
 have H:(jVa.l0 k a1 (([]:List Int)) l0_0)=some r:=h
 clear h
 obtain ⟨y159,hy159⟩:∃ y_:List Int,y_=(([]:List Int)):=⟨_,rfl⟩
 replace H:(jVa.l0 k a1 y159 l0_0)=some r:=by first |(rw [hy159];with_reducible exact H) |(have H2_:=(Option.bind_some _ _).symm.trans H;rw [hy159];with_reducible exact H2_) |(have H2_:=(Option.bind_some _ _).symm.trans H;with_reducible exact H2_) | with_reducible exact H |(rw [hy159];exact H) | exact H
 have Ny159:=am hy159
 clear hy159
 have H':=am H
 clear H
 go_enter Try.func99,Try.ntmps99
 go_wp2_with (first |((with_reducible refine jG (N:=2) rfl ?_);refine bE (N:=2) (cs:=#[.slice A0_0 l0_0.length c0_0]) (t:=31) ?_;intro gb158 hg w3 hbox hb;have BK158:=am (hbox);have GW158:=am ((Y2:w.heap.size≤gb158));have GE158:=am ((Y2:w.heap.size≤gb158));replace HB:=am (jg (bq) hb);clear hb hbox hg) |((with_reducible refine jG (N:=6) rfl ?_);refine Kd.R_lit (Kd.int .i64) _ 3 ?hg (N:=6) ?hd (xs:=([]:List Int)) (inner:=[]) (ok:=fun _=>True) (okp:=fun _=>True) ?hr ?hp (fun _ hk=>hk) trivial (Below.refl _ _) (Nat.le_refl _) (by simp) ?_;(case hd=>rfl);(case hg=>rfl);(case hr=>exact Y3);(case hp=>exact (Reps.none _ _));intro v160 w4 ho5 hb hg_ hnew_;clear hg_ hnew_;(first | rw [← Ny159.out] at ho5 |(simp only [Int.reduceToNat] at ho5;rw [← Ny159.out] at ho5));have HO161:=am (Kd.jpa ho5 (jba (Y51)));replace BK158:=am (jc (g:=gb158) (o:=.cells #[.slice A0_0 l0_0.length c0_0] 31 (0,0)) (kq BK158.out) hb);replace HB:=am (jg (Y51) hb);clear hb ho5))
 go_loopg [1,5] k (fun kq v1 v5 w'=>∃ (x1_1:Int) (x5_1:List Int),v1=.int .i64 x1_1∧jE (jVa.l0 kq x1_1 x5_1 l0_0=some r)∧jE (kq≤k)∧jE (Kd.R (Kd.int .i64) 3 w' w.heap.size (fun _=>True) v5 x5_1)∧jE (w'.heap[gb158]?=some (.cells #[(.slice A0_0 l0_0.length c0_0)] 31 (0,0)))∧jE (Below w.heap.size w w'))
 case atStart=>exact ⟨(a1),(y159),(sq),H',⟨Nat.le_refl _⟩,⟨rq HO161.out⟩,⟨kq BK158.out⟩,⟨Y51⟩⟩
 case round =>
  clear H'
  try clear p2
  obtain ⟨x1_1,x5_1,rfl,HA,HK1,HO_5,BK158,HB⟩:=hrel
  cases gk with
  | zero=>exact absurd HA.out (by simp [jVa.l0])
  | succ k1 =>
   have H:=HA.out
   clear HA
   simp only [jVa.l0] at H
   by_cases c6:x1_1≥0
   ·rw [if_pos c6] at H
    have c6b0:decide (0≤x1_1)=true:=dzT c6
    clear c6
    by_cases c7:x5_1.length<17592186044416
    ·rw [if_pos c7] at H
     have LMc7:=am c7
     clear c7
     obtain ⟨y162,hy162⟩:∃ y_:List Int,y_=(x5_1 ++ [x1_1]):=⟨_,rfl⟩
     replace H:(if 0≤x1_1 then (if x1_1<(l0_0.length:Int) then (jVa.l0 k1 ((jH l0_0 x1_1).f1) y162 l0_0) else (none)) else (none))=some r:=by first |(rw [hy162];with_reducible exact H) |(have H2_:=(Option.bind_some _ _).symm.trans H;rw [hy162];with_reducible exact H2_) |(have H2_:=(Option.bind_some _ _).symm.trans H;with_reducible exact H2_) | with_reducible exact H |(rw [hy162];exact H) | exact H
     have Ny162:=am hy162
     clear hy162
     by_cases c8:0≤x1_1
     ·rw [if_pos c8] at H
      have c8b0:decide (0≤x1_1)=true:=dzT c8
      clear c8
      by_cases c9:x1_1<(l0_0.length:Int)
      ·rw [if_pos c9] at H
       have c9b0:decide (x1_1<(l0_0.length:Int))=true:=dzT c9
       clear c9
       have H':=am H
       clear H
       go_wp2_with (first |((with_reducible refine jpb (b:=.append) (xs:=#[.tmp 15, .tmp 17]) rfl ?_);at_builtin;refine Kd.jWb (Kd.int .i64) (w0:=w) w.heap.size rfl (.tmp 15) (.tmp 17) 45 3 (.int .i64 0) 8 rfl Try.underlying45 info3 rfl (by decide) (by omega) u5 x5_1 x1_1 [.int .i64 x1_1] (fun _=>True) (fun _=>False) rfl rfl ?aP (fun _ hk=>hk.elim) ?aF ?aO ?aB ?aS ?aL ?_;(case aP=>exact rfl);(case aB=>exact (Y51));(case aF=>exact (fun _ _=>trivial));(case aO=>exact (rq HO_5.out));(case aS=>exact (jba (Y51)));(case aL=>have:=LMc7.out;omega);intro v163 w10 ho hb hg hat;rw [← Ny162.out] at ho;have n0_:=am (jqa (g:=gb158) (o:=.cells #[.slice A0_0 l0_0.length c0_0] 31 (0,0)) (kq BK158.out) hg (Kd.R_ne HO_5.out BK158.out (by decide)));have n1_:=am (hb);have n2_:=am (ho);clear BK158 HB HO_5;have BK158:=n0_;have HB:=n1_;have HO164:=n2_;clear n0_ n1_ n2_ ho hb hg hat;have hcz11_0:=bc0 BK158.out;have hfz11_0:=ja BK158.out 0;have p165:0≤(x1_1:Int):=ozD (uq);have q165:x1_1<(l0_0.length:Int):=ozD (uq);obtain ⟨ad165,e165,hx165_0,hx165_1⟩:=at_T106 HR0_0.out x1_1 p165 q165;cases e165;replace hx165_0:=cb HB.out hx165_0;replace hx165_1:=cb HB.out hx165_1;replace p165:=ezT p165;replace q165:=ezT q165))
       go_roundg k1
       case measure=>have:=HK1.out;omega
       case rel=>exact ⟨((jH l0_0 x1_1).f1),(y162),(sq),H',⟨by have:=HK1.out;omega⟩,⟨rq HO164.out⟩,⟨kq BK158.out⟩,⟨Y51⟩⟩
      ·rw [if_neg c9] at H
       exact absurd H (by simp)
     ·rw [if_neg c8] at H
      exact absurd H (by simp)
    ·rw [if_neg c7] at H
     exact absurd H (by simp)
   ·rw [if_neg c6] at H
    have c6b0:decide (0≤x1_1)=false:=dzF c6
    clear c6
    obtain rfl:=Option.some.inj H
    go_wp2
    go_ret
    exact ⟨_,Y0,rq HO_5.out,Y51⟩
def spec_isA.f (k : Nat) (l0_0 : List (S106)) (a1 : Int) (a2 : Int) : Option (Bool) := (jVa.f k l0_0 a1).bind fun t167 => ((jNa.f k t167 a2).bind fun t170 => (some t170))
set_option maxHeartbeats 8000000 in
set_option maxRecDepth 100000 in
theorem spec_isA.calls (k : Nat) (A0_0 : Option Addr) (c0_0 : Nat) (l0_0 : List (S106)) (a1 : Int) (a2 : Int) (r : Bool) (w : World) (hr0_0 : Kd.C k106 w A0_0 l0_0.length l0_0) (hc0_0 : l0_0.length ≤ c0_0) (h : spec_isA.f k l0_0 a1 a2 = some r) :
  Calls Try.prog 69 #[.agg #[.slice A0_0 l0_0.length c0_0], .int .i64 a1, .int .i64 a2] w fun e w'=>e=.returned (.bool r)∧Below w.heap.size w w':=by
 have hu31:=Try.underlying31
 have HR0_0:=am hr0_0
 have HC0_0:=am hc0_0
 clear hr0_0 hc0_0
 have HB:=am (Below.refl w.heap.size w)
 have H:((jVa.f k l0_0 a1).bind fun t167=>((jNa.f k t167 a2).bind fun t170=>(some t170)))=some r:=h
 clear h
 replace H:=bzS H
 obtain ⟨t167,A40,H⟩:=H
 replace H:((jNa.f k t167 a2).bind fun t170=>(some t170))=some r:=H
 have A4:=am A40
 clear A40
 replace H:=bzS H
 obtain ⟨t170,A50,H⟩:=H
 replace H:(some t170)=some r:=H
 have A5:=am A50
 clear A50
 obtain rfl:=Option.some.inj H
 go_enter Try.func69,Try.ntmps69
 go_wp2_with (first |((with_reducible refine jG (N:=3) rfl ?_);refine bE (N:=3) (cs:=#[.slice A0_0 l0_0.length c0_0]) (t:=31) ?_;intro gb166 hg w6 hbox hb;have BK166:=am (hbox);have GW166:=am ((Y2:w.heap.size≤gb166));have GE166:=am ((Y2:w.heap.size≤gb166));replace HB:=am (jg (bq) hb);clear hb hbox hg;have hcz7_0:=bc0 BK166.out;have hfz7_0:=ja BK166.out 0) |((with_reducible refine jo (f:=99) rfl ?_);refine gL (some 9) Try.func99 #[.agg #[.slice A0_0 l0_0.length c0_0], .int .i64 a1] ?_;(with_reducible refine (jVa.calls k _ _ l0_0 a1 t167 _ ?side1 ?side2 A4.out).mono ?_);(case side1=>exact cq (Kd.jZ HR0_0.out HB.out));(case side2=>exact HC0_0.out);rintro e w8 ⟨v168,rfl,ho0,hb⟩;refine ⟨_,rfl,?_⟩;have HO169:=am (Kd.jpa ho0 (jba (Y88)));replace BK166:=am (jc (g:=gb166) (o:=.cells #[.slice A0_0 l0_0.length c0_0] 31 (0,0)) (kq BK166.out) hb);replace HB:=am (jg (Y88) hb);(try clear hb);(try clear hb2);(try clear hk);(try clear hi);(try clear ho0);obtain ⟨Ao9,co9,eo9⟩:=Kd.jga HO169.out;subst eo9) |((with_reducible refine jo (f:=98) rfl ?_);refine gL (some 11) Try.func98 #[.slice Ao9 t167.length co9, .int .i64 a2] ?_;(with_reducible refine (jNa.calls k _ _ t167 a2 t170 _ ?side1 ?side2 A5.out).mono ?_);(case side1=>exact cq (Kd.jC HO169.out).2.2);(case side2=>exact (Kd.jC HO169.out).2.1);rintro e w' ⟨rfl,⟨nd,rfl⟩⟩;refine ⟨_,rfl,?_⟩))
 go_ret
 exact ⟨Y0,Y88⟩
mutual
def jca.l0 : Nat → List (S44) → Int → Int → List (S106) → Option (Bool)
 | 0,_,_,_,_=>none
 | k+1,x1,x2,x7,x519000=>if x7<(x1.length:Int) then (if 0≤x7 then (if ((jL x1 x7).f0)=3 then (jca.j1 k x1 x2 x7 true x519000) else (if ((jL x1 x7).f0)=2 then ((spec_isA.f k x519000 x2 ((jL x1 x7).f1)).bind fun t522=>(jca.j1 k x1 x2 x7 t522 x519000)) else (jca.j1 k x1 x2 x7 false x519000))) else (none)) else (some true)
def jca.j1 : Nat → List (S44) → Int → Int → Bool → List (S106) → Option (Bool)
 | 0,_,_,_,_,_=>none
 | k+1,x1,x2,x7,x37,x519000=>if x37=true then (some false) else (jca.l0 k x1 x2 (wrap64 (x7+1)) x519000)
end
def jca.f (k : Nat) (l0_0 : List (S106)) (l1 : List (S44)) (a2 : Int) : Option (Bool) := jca.l0 k l1 a2 0 l0_0
def jca.T4 : Bool × List (List Nat × List Nat) := (true, [([], []), ([], []), ([0, 1], [0, 1]), ([2], [2]), ([3], [3]), ([4], [4]), ([5], [5]), ([6], [6]), ([6], [6]), ([7, 8, 6], [6, 7, 8]), ([9, 6], [6, 9]), ([10, 6], [6, 10]), ([11, 6], [6, 11]), ([12, 6, 6], [6, 12]), ([13], [13]), ([13], [13]), ([13], [13]), ([13], [13]), ([16, 17, 13], [13, 16, 17]), ([18, 13], [13, 18]), ([19, 13], [13, 19]), ([14, 15, 20, 13, 13], [13, 14, 15, 20]), ([13, 21, 6], [6, 13, 21]), ([6, 22], [6, 22])])
def jca.B4 : List Nat := [0, 0, 3, 7, 15, 31, 63, 127, 127, 511, 1023, 2047, 4095, 8191, 16383, 16383, 16383, 16383, 212991, 475135, 999423, 2097151, 4194303, 8388607]
theorem jca.tab4 : rtab .any (opsOf Try.f55 4) = jca.T4 := by kernel_rfl
theorem jca.bits4 : jpc jca.T4.2 jca.B4 = true := by kernel_rfl
set_option maxHeartbeats 8000000 in
set_option maxRecDepth 100000 in
theorem jca.calls (k : Nat) (A0_0 : Option Addr) (c0_0 : Nat) (l0_0 : List (S106)) (A1 : Option Addr) (c1 : Nat) (l1 : List (S44)) (a2 : Int) (r : Bool) (w : World) (hr0_0 : Kd.C k106 w A0_0 l0_0.length l0_0) (hc0_0 : l0_0.length ≤ c0_0) (hr1 : Kd.C k44 w A1 l1.length l1) (hc1 : l1.length ≤ c1) (h : jca.f k l0_0 l1 a2 = some r) :
  Calls Try.prog 55 #[.agg #[.slice A0_0 l0_0.length c0_0], .slice A1 l1.length c1, .int .i64 a2] w fun e w'=>e=.returned (.bool r)∧Below w.heap.size w w':=by
 have hu31:=Try.underlying31
 have HR0_0:=am hr0_0
 have HC0_0:=am hc0_0
 clear hr0_0 hc0_0
 have HR1:=am hr1
 have HC1:=am hc1
 clear hr1 hc1
 have HB:=am (Below.refl w.heap.size w)
 have H:(jca.l0 k l1 a2 0 l0_0)=some r:=h
 clear h
 have H':=am H
 clear H
 go_enter Try.func55,Try.ntmps55
 go_wp2_with (first |((with_reducible refine jG (N:=3) rfl ?_);refine bE (N:=3) (cs:=#[.slice A0_0 l0_0.length c0_0]) (t:=31) ?_;intro gb518 hg w4 hbox hb;have BK518:=am (hbox);have GW518:=am ((Y2:w.heap.size≤gb518));have GE518:=am ((Y2:w.heap.size≤gb518));replace HB:=am (jg (bq) hb);clear hb hbox hg))
 go_loopg [7] k (fun kq v7 w'=>∃ (x7_1:Int),v7=.int .i64 x7_1∧jE (jca.l0 kq l1 a2 x7_1 l0_0=some r)∧jE (kq≤k)∧jE (w'.heap[gb518]?=some (.cells #[(.slice A0_0 l0_0.length c0_0)] 31 (0,0)))∧jE (Below w.heap.size w w'))
 case atStart=>exact ⟨(0),(sq),H',⟨Nat.le_refl _⟩,⟨kq BK518.out⟩,⟨Y48⟩⟩
 case round =>
  clear H'
  try clear c1
  try clear p2
  obtain ⟨x7_1,rfl,HA,HK1,BK518,HB⟩:=hrel
  cases gk with
  | zero=>exact absurd HA.out (by simp [jca.l0])
  | succ k1 =>
   have H:=HA.out
   clear HA
   simp only [jca.l0] at H
   by_cases c5:x7_1<(l1.length:Int)
   ·rw [if_pos c5] at H
    have c5b0:decide (x7_1<(l1.length:Int))=true:=dzT c5
    clear c5
    have HC6:=am H
    clear H
    go_upto_region 4 with (fail)
    go_cut [37] (fun v37 wc=>∃ (kq:Nat) (x37_5:Bool),v37=.bool x37_5∧jE (jca.j1 kq l1 a2 x7_1 x37_5 l0_0=some r)∧jE (kq≤k1)∧jE (wc.heap[gb518]?=some (.cells #[(.slice A0_0 l0_0.length c0_0)] 31 (0,0)))∧jE (Below w.heap.size w wc))
    case first =>
     have H:=HC6.out
     clear HC6
     by_cases c7:0≤x7_1
     ·rw [if_pos c7] at H
      have c7b0:decide (0≤x7_1)=true:=dzT c7
      clear c7
      (first | rw [c7b0] |(simp only [jHb,jLb];rw [c7b0]) | skip)
      by_cases c8:((jL l1 x7_1).f0)=3
      ·rw [if_pos c8] at H
       have c8b0:(((jL l1 x7_1).f0) == 3)=true:=beq_iff_eq.mpr c8
       have c8b1:(((jL l1 x7_1).f0) != 3)=false:=bne_eq_false_iff_eq.mpr c8
       clear c8
       have H':=am H
       clear H
       try go_wp2
       replace BK518:=am (jf BK518.out)
       replace HB:=am (jD HB.out)
       have p519:0≤(x7_1:Int):=ozD (uq)
       have q519:x7_1<(l1.length:Int):=ozD (uq)
       obtain ⟨ad519,e519,hx519_0,hx519_1,hx519_2⟩:=at_T44 HR1.out x7_1 p519 q519
       have hw519_2:=hx519_2
       have hw519_1:=hx519_1
       have hw519_0:=hx519_0
       cases e519
       replace hx519_0:=cb HB.out hx519_0
       replace hx519_1:=cb HB.out hx519_1
       replace hx519_2:=cb HB.out hx519_2
       replace p519:=ezT p519
       replace q519:=ezT q519
       refine start_ (n:=24) (S:=fun w'=>w'.cell? (ad519.add ((x7_1).toNat * 3))=some (.int .i64 ((jL l1 x7_1).f0))∧w'.cell? ⟨(ad519.add ((x7_1).toNat * 3)).block,(ad519.add ((x7_1).toNat * 3)).off+1,none⟩=some (.int .i64 ((jL l1 x7_1).f1))∧w'.cell? ⟨(ad519.add ((x7_1).toNat * 3)).block,(ad519.add ((x7_1).toNat * 3)).off+2,none⟩=some (.int .i64 ((jL l1 x7_1).f2))) (ds:=[]) #[false,false,false,false,false,false,false,false,false,false,false,false,false,false,false,false,false,false,false,false,false,false,false,false] (by kernel_rfl) rfl rfl ⟨((HB.out.cell (World.block_lt_of_cell? w _ hw519_0)).trans hw519_0),((HB.out.cell (World.block_lt_of_cell? w _ hw519_1)).trans hw519_1),((HB.out.cell (World.block_lt_of_cell? w _ hw519_2)).trans hw519_2)⟩ (fun hHeld=>?_);refine jXb jca.tab4 jca.bits4 (fun HT_ HW_=>?_)
       generalize wr.drew=w9 at BK518 HB hx519_0 hx519_1 hx519_2 hHeld ⊢
       refine pq (i:=0) (N:=some 14) #[true,false,false,false,false,false,false,false,false,false,false,false,false,false,false,false,false,false,false,false,false,false,false,false] ?_
       refine pq (i:=1) (N:=some 15) #[true,true,false,false,false,false,false,false,false,false,false,false,false,false,false,false,false,false,false,false,false,false,false,false] ?_
       refine pq (i:=2) (N:=some 16) #[true,true,true,false,false,false,false,false,false,false,false,false,false,false,false,false,false,false,false,false,false,false,false,false] ?_
       refine pq (i:=3) (N:=some 17) #[true,true,true,true,false,false,false,false,false,false,false,false,false,false,false,false,false,false,false,false,false,false,false,false] ?_
       refine jYb (i:=4) (N:=some 18) (v:=?_) (a':=?_) #[true,true,true,true,true,false,false,false,false,false,false,false,false,false,false,false,false,false,false,false,false,false,false,false] rfl rfl (jFb HT_.out HW_.out (by kernel_rfl)) (fun _ _ _ h=>h) (Or.inl ⟨by rfl,?_⟩) hHeld ?_ ?_
       rotate_left
       ·rintro w' ⟨s0,s1,s2⟩
        go_simp
        with_reducible rfl
       rotate_left
       ·exact sa
       refine pq (i:=5) (N:=some 19) #[true,true,true,true,true,true,false,false,false,false,false,false,false,false,false,false,false,false,false,false,false,false,false,false] ?_
       refine pq (i:=6) (N:=some 20) #[true,true,true,true,true,true,true,false,false,false,false,false,false,false,false,false,false,false,false,false,false,false,false,false] ?_
       refine jwb (i:=7) (N:=some 21) (v:=undef) (a':=?_) #[true,true,true,true,true,true,true,true,false,false,false,false,false,false,false,false,false,false,false,false,false,false,false,false] rfl rfl (jzb HT_.out (by kernel_rfl)) (fun _ _ _ h=>h) (Or.inr ⟨by rfl,rfl⟩) ?_ ?_
       rotate_left
       ·exact sa
       refine jwb (i:=8) (N:=some 22) (v:=undef) (a':=?_) #[true,true,true,true,true,true,true,true,true,false,false,false,false,false,false,false,false,false,false,false,false,false,false,false] rfl rfl (jzb HT_.out (by kernel_rfl)) (fun _ _ _ h=>h) (Or.inr ⟨by rfl,rfl⟩) ?_ ?_
       rotate_left
       ·exact sa
       refine jwb (i:=9) (N:=some 23) (v:=undef) (a':=?_) #[true,true,true,true,true,true,true,true,true,true,false,false,false,false,false,false,false,false,false,false,false,false,false,false] rfl rfl (jzb HT_.out (by kernel_rfl)) (fun _ _ _ h=>h) (Or.inr ⟨by rfl,rfl⟩) ?_ ?_
       rotate_left
       ·exact sa
       refine jwb (i:=10) (N:=some 24) (v:=undef) (a':=?_) #[true,true,true,true,true,true,true,true,true,true,true,false,false,false,false,false,false,false,false,false,false,false,false,false] rfl rfl (jzb HT_.out (by kernel_rfl)) (fun _ _ _ h=>h) (Or.inr ⟨by rfl,rfl⟩) ?_ ?_
       rotate_left
       ·exact sa
       refine jwb (i:=11) (N:=some 25) (v:=undef) (a':=?_) #[true,true,true,true,true,true,true,true,true,true,true,true,false,false,false,false,false,false,false,false,false,false,false,false] rfl rfl (jzb HT_.out (by kernel_rfl)) (fun _ _ _ h=>h) (Or.inr ⟨by rfl,rfl⟩) ?_ ?_
       rotate_left
       ·exact sa
       refine jwb (i:=12) (N:=some 26) (v:=undef) (a':=?_) #[true,true,true,true,true,true,true,true,true,true,true,true,true,false,false,false,false,false,false,false,false,false,false,false] rfl rfl (jzb HT_.out (by kernel_rfl)) (fun _ _ _ h=>h) (Or.inr ⟨by rfl,rfl⟩) ?_ ?_
       rotate_left
       ·exact sa
       refine jwb (i:=13) (N:=some 27) (v:=undef) (a':=?_) #[true,true,true,true,true,true,true,true,true,true,true,true,true,true,false,false,false,false,false,false,false,false,false,false] rfl rfl (jzb HT_.out (by kernel_rfl)) (fun _ _ _ h=>h) (Or.inr ⟨by rfl,rfl⟩) ?_ ?_
       rotate_left
       ·exact sa
       refine jwb (i:=14) (N:=some 28) (v:=undef) (a':=?_) #[true,true,true,true,true,true,true,true,true,true,true,true,true,true,true,false,false,false,false,false,false,false,false,false] rfl rfl (jzb HT_.out (by kernel_rfl)) (fun _ _ _ h=>h) (Or.inr ⟨by rfl,rfl⟩) ?_ ?_
       rotate_left
       ·exact sa
       refine jwb (i:=15) (N:=some 29) (v:=undef) (a':=?_) #[true,true,true,true,true,true,true,true,true,true,true,true,true,true,true,true,false,false,false,false,false,false,false,false] rfl rfl (jzb HT_.out (by kernel_rfl)) (fun _ _ _ h=>h) (Or.inr ⟨by rfl,rfl⟩) ?_ ?_
       rotate_left
       ·exact sa
       refine jwb (i:=16) (N:=some 30) (v:=undef) (a':=?_) #[true,true,true,true,true,true,true,true,true,true,true,true,true,true,true,true,true,false,false,false,false,false,false,false] rfl rfl (jzb HT_.out (by kernel_rfl)) (fun _ _ _ h=>h) (Or.inr ⟨by rfl,rfl⟩) ?_ ?_
       rotate_left
       ·exact sa
       refine jwb (i:=17) (N:=some 31) (v:=undef) (a':=?_) #[true,true,true,true,true,true,true,true,true,true,true,true,true,true,true,true,true,true,false,false,false,false,false,false] rfl rfl (jzb HT_.out (by kernel_rfl)) (fun _ _ _ h=>h) (Or.inr ⟨by rfl,rfl⟩) ?_ ?_
       rotate_left
       ·exact sa
       refine jwb (i:=18) (N:=some 32) (v:=undef) (a':=?_) #[true,true,true,true,true,true,true,true,true,true,true,true,true,true,true,true,true,true,true,false,false,false,false,false] rfl rfl (jzb HT_.out (by kernel_rfl)) (fun _ _ _ h=>h) (Or.inr ⟨by rfl,rfl⟩) ?_ ?_
       rotate_left
       ·exact sa
       refine jwb (i:=19) (N:=some 33) (v:=undef) (a':=?_) #[true,true,true,true,true,true,true,true,true,true,true,true,true,true,true,true,true,true,true,true,false,false,false,false] rfl rfl (jzb HT_.out (by kernel_rfl)) (fun _ _ _ h=>h) (Or.inr ⟨by rfl,rfl⟩) ?_ ?_
       rotate_left
       ·exact sa
       refine jwb (i:=20) (N:=some 34) (v:=undef) (a':=?_) #[true,true,true,true,true,true,true,true,true,true,true,true,true,true,true,true,true,true,true,true,true,false,false,false] rfl rfl (jzb HT_.out (by kernel_rfl)) (fun _ _ _ h=>h) (Or.inr ⟨by rfl,rfl⟩) ?_ ?_
       rotate_left
       ·exact sa
       refine jwb (i:=21) (N:=some 35) (v:=undef) (a':=?_) #[true,true,true,true,true,true,true,true,true,true,true,true,true,true,true,true,true,true,true,true,true,true,false,false] rfl rfl (jzb HT_.out (by kernel_rfl)) (fun _ _ _ h=>h) (Or.inr ⟨by rfl,rfl⟩) ?_ ?_
       rotate_left
       ·exact sa
       refine jwb (i:=22) (N:=some 36) (v:=undef) (a':=?_) #[true,true,true,true,true,true,true,true,true,true,true,true,true,true,true,true,true,true,true,true,true,true,true,false] rfl rfl (jzb HT_.out (by kernel_rfl)) (fun _ _ _ h=>h) (Or.inr ⟨by rfl,rfl⟩) ?_ ?_
       rotate_left
       ·exact sa
       refine pq (i:=23) (N:=some 37) #[true,true,true,true,true,true,true,true,true,true,true,true,true,true,true,true,true,true,true,true,true,true,true,true] ?_
       refine done_ (done_of HT_.out (by kernel_rfl)) ?_
       try go_wp2
       go_meet
       case rel=>exact ⟨_,(true),(sq),H',⟨by have:=HK1.out;first | omega | exact Nat.le_refl _⟩,⟨kq BK518.out⟩,⟨Y48⟩⟩
      ·rw [if_neg c8] at H
       have c8b0:(((jL l1 x7_1).f0) == 3)=false:=beq_eq_false_iff_ne.mpr c8
       have c8b1:(((jL l1 x7_1).f0) != 3)=true:=bne_iff_ne.mpr c8
       by_cases c10:((jL l1 x7_1).f0)=2
       ·rw [if_pos c10] at H
        have c10b0:(((jL l1 x7_1).f0) == 2)=true:=beq_iff_eq.mpr c10
        have c10b1:(((jL l1 x7_1).f0) != 2)=false:=bne_eq_false_iff_eq.mpr c10
        clear c10
        replace H:=bzS H
        obtain ⟨t522,A110,H⟩:=H
        replace H:(jca.j1 k1 l1 a2 x7_1 t522 l0_0)=some r:=H
        have A11:=am A110
        clear A110
        have H':=am H
        clear H
        try go_wp2
        replace BK518:=am (jf BK518.out)
        replace HB:=am (jD HB.out)
        have p519:0≤(x7_1:Int):=ozD (uq)
        have q519:x7_1<(l1.length:Int):=ozD (uq)
        obtain ⟨ad519,e519,hx519_0,hx519_1,hx519_2⟩:=at_T44 HR1.out x7_1 p519 q519
        have hw519_2:=hx519_2
        have hw519_1:=hx519_1
        have hw519_0:=hx519_0
        cases e519
        replace hx519_0:=cb HB.out hx519_0
        replace hx519_1:=cb HB.out hx519_1
        replace hx519_2:=cb HB.out hx519_2
        replace p519:=ezT p519
        replace q519:=ezT q519
        have p520:0≤(x7_1:Int):=ozD (uq)
        have q520:x7_1<(l1.length:Int):=ozD (uq)
        obtain ⟨ad520,e520,hx520_0,hx520_1,hx520_2⟩:=at_T44 HR1.out x7_1 p520 q520
        have hw520_2:=hx520_2
        have hw520_1:=hx520_1
        have hw520_0:=hx520_0
        obtain rfl:ad519=ad520:=(by injection e520)
        replace hx520_0:=cb HB.out hx520_0
        replace hx520_1:=cb HB.out hx520_1
        replace hx520_2:=cb HB.out hx520_2
        replace p520:=ezT p520
        replace q520:=ezT q520
        have p521:0≤(x7_1:Int):=ozD (uq)
        have q521:x7_1<(l1.length:Int):=ozD (uq)
        obtain ⟨ad521,e521,hx521_0,hx521_1,hx521_2⟩:=at_T44 HR1.out x7_1 p521 q521
        have hw521_2:=hx521_2
        have hw521_1:=hx521_1
        have hw521_0:=hx521_0
        obtain rfl:ad519=ad521:=(by injection e521)
        replace hx521_0:=cb HB.out hx521_0
        replace hx521_1:=cb HB.out hx521_1
        replace hx521_2:=cb HB.out hx521_2
        replace p521:=ezT p521
        replace q521:=ezT q521
        refine start_ (n:=24) (S:=fun w'=>w'.cell? ⟨gb518,0,none⟩=some (.slice A0_0 l0_0.length c0_0)∧w'.cell? (ad519.add ((x7_1).toNat * 3))=some (.int .i64 ((jL l1 x7_1).f0))∧w'.cell? ⟨(ad519.add ((x7_1).toNat * 3)).block,(ad519.add ((x7_1).toNat * 3)).off+1,none⟩=some (.int .i64 ((jL l1 x7_1).f1))∧w'.cell? ⟨(ad519.add ((x7_1).toNat * 3)).block,(ad519.add ((x7_1).toNat * 3)).off+2,none⟩=some (.int .i64 ((jL l1 x7_1).f2))∧w'.cell? (ad519.add ((x7_1).toNat * 3))=some (.int .i64 ((jL l1 x7_1).f0))∧w'.cell? ⟨(ad519.add ((x7_1).toNat * 3)).block,(ad519.add ((x7_1).toNat * 3)).off+1,none⟩=some (.int .i64 ((jL l1 x7_1).f1))∧w'.cell? ⟨(ad519.add ((x7_1).toNat * 3)).block,(ad519.add ((x7_1).toNat * 3)).off+2,none⟩=some (.int .i64 ((jL l1 x7_1).f2))∧w'.cell? (ad519.add ((x7_1).toNat * 3))=some (.int .i64 ((jL l1 x7_1).f0))∧w'.cell? ⟨(ad519.add ((x7_1).toNat * 3)).block,(ad519.add ((x7_1).toNat * 3)).off+1,none⟩=some (.int .i64 ((jL l1 x7_1).f1))∧w'.cell? ⟨(ad519.add ((x7_1).toNat * 3)).block,(ad519.add ((x7_1).toNat * 3)).off+2,none⟩=some (.int .i64 ((jL l1 x7_1).f2))) (ds:=[]) #[false,false,false,false,false,false,false,false,false,false,false,false,false,false,false,false,false,false,false,false,false,false,false,false] (by kernel_rfl) rfl rfl ⟨(jw BK518.out 0).trans rfl,((HB.out.cell (World.block_lt_of_cell? w _ hw519_0)).trans hw519_0),((HB.out.cell (World.block_lt_of_cell? w _ hw519_1)).trans hw519_1),((HB.out.cell (World.block_lt_of_cell? w _ hw519_2)).trans hw519_2),((HB.out.cell (World.block_lt_of_cell? w _ hw520_0)).trans hw520_0),((HB.out.cell (World.block_lt_of_cell? w _ hw520_1)).trans hw520_1),((HB.out.cell (World.block_lt_of_cell? w _ hw520_2)).trans hw520_2),((HB.out.cell (World.block_lt_of_cell? w _ hw521_0)).trans hw521_0),((HB.out.cell (World.block_lt_of_cell? w _ hw521_1)).trans hw521_1),((HB.out.cell (World.block_lt_of_cell? w _ hw521_2)).trans hw521_2)⟩ (fun hHeld=>?_);refine jXb jca.tab4 jca.bits4 (fun HT_ HW_=>?_)
        generalize wr.drew=w12 at BK518 HB hx519_0 hx519_1 hx519_2 hx520_0 hx520_1 hx520_2 hx521_0 hx521_1 hx521_2 hHeld ⊢
        refine pq (i:=0) (N:=some 14) #[true,false,false,false,false,false,false,false,false,false,false,false,false,false,false,false,false,false,false,false,false,false,false,false] ?_
        refine pq (i:=1) (N:=some 15) #[true,true,false,false,false,false,false,false,false,false,false,false,false,false,false,false,false,false,false,false,false,false,false,false] ?_
        refine pq (i:=2) (N:=some 16) #[true,true,true,false,false,false,false,false,false,false,false,false,false,false,false,false,false,false,false,false,false,false,false,false] ?_
        refine pq (i:=3) (N:=some 17) #[true,true,true,true,false,false,false,false,false,false,false,false,false,false,false,false,false,false,false,false,false,false,false,false] ?_
        refine jYb (i:=4) (N:=some 18) (v:=?_) (a':=?_) #[true,true,true,true,true,false,false,false,false,false,false,false,false,false,false,false,false,false,false,false,false,false,false,false] rfl rfl (jFb HT_.out HW_.out (by kernel_rfl)) (fun _ _ _ h=>h) (Or.inl ⟨by rfl,?_⟩) hHeld ?_ ?_
        rotate_left
        ·rintro w' ⟨s0,s1,s2,s3,s4,s5,s6,s7,s8,s9⟩
         go_simp
         with_reducible rfl
        rotate_left
        ·exact sa
        refine pq (i:=5) (N:=some 19) #[true,true,true,true,true,true,false,false,false,false,false,false,false,false,false,false,false,false,false,false,false,false,false,false] ?_
        refine pq (i:=6) (N:=some 20) #[true,true,true,true,true,true,true,false,false,false,false,false,false,false,false,false,false,false,false,false,false,false,false,false] ?_
        refine pq (i:=7) (N:=some 21) #[true,true,true,true,true,true,true,true,false,false,false,false,false,false,false,false,false,false,false,false,false,false,false,false] ?_
        refine pq (i:=8) (N:=some 22) #[true,true,true,true,true,true,true,true,true,false,false,false,false,false,false,false,false,false,false,false,false,false,false,false] ?_
        refine pq (i:=9) (N:=some 23) #[true,true,true,true,true,true,true,true,true,true,false,false,false,false,false,false,false,false,false,false,false,false,false,false] ?_
        refine pq (i:=10) (N:=some 24) #[true,true,true,true,true,true,true,true,true,true,true,false,false,false,false,false,false,false,false,false,false,false,false,false] ?_
        refine jYb (i:=11) (N:=some 25) (v:=?_) (a':=?_) #[true,true,true,true,true,true,true,true,true,true,true,true,false,false,false,false,false,false,false,false,false,false,false,false] rfl rfl (jFb HT_.out HW_.out (by kernel_rfl)) (fun _ _ _ h=>h) (Or.inl ⟨by rfl,?_⟩) hHeld ?_ ?_
        rotate_left
        ·rintro w' ⟨s0,s1,s2,s3,s4,s5,s6,s7,s8,s9⟩
         go_simp
         with_reducible rfl
        rotate_left
        ·exact sa
        refine pq (i:=12) (N:=some 26) #[true,true,true,true,true,true,true,true,true,true,true,true,true,false,false,false,false,false,false,false,false,false,false,false] ?_
        refine pq (i:=13) (N:=some 27) #[true,true,true,true,true,true,true,true,true,true,true,true,true,true,false,false,false,false,false,false,false,false,false,false] ?_
        refine pq (i:=15) (N:=some 29) #[true,true,true,true,true,true,true,true,true,true,true,true,true,true,false,true,false,false,false,false,false,false,false,false] ?_
        refine pq (i:=16) (N:=some 30) #[true,true,true,true,true,true,true,true,true,true,true,true,true,true,false,true,true,false,false,false,false,false,false,false] ?_
        refine pq (i:=17) (N:=some 31) #[true,true,true,true,true,true,true,true,true,true,true,true,true,true,false,true,true,true,false,false,false,false,false,false] ?_
        refine pq (i:=18) (N:=some 32) #[true,true,true,true,true,true,true,true,true,true,true,true,true,true,false,true,true,true,true,false,false,false,false,false] ?_
        refine pq (i:=19) (N:=some 33) #[true,true,true,true,true,true,true,true,true,true,true,true,true,true,false,true,true,true,true,true,false,false,false,false] ?_
        refine jYb (i:=14) (N:=some 28) (v:=?_) (a':=?_) #[true,true,true,true,true,true,true,true,true,true,true,true,true,true,true,true,true,true,true,true,false,false,false,false] rfl rfl (jFb HT_.out HW_.out (by kernel_rfl)) (fun _ _ _ h=>h) (Or.inl ⟨by rfl,?_⟩) hHeld ?_ ?_
        rotate_left
        ·rintro w' ⟨s0,s1,s2,s3,s4,s5,s6,s7,s8,s9⟩
         go_simp
         with_reducible rfl
        rotate_left
        ·exact sa
        refine jYb (i:=20) (N:=some 34) (v:=?_) (a':=?_) #[true,true,true,true,true,true,true,true,true,true,true,true,true,true,true,true,true,true,true,true,true,false,false,false] rfl rfl (jFb HT_.out HW_.out (by kernel_rfl)) (fun _ _ _ h=>h) (Or.inl ⟨by rfl,?_⟩) hHeld ?_ ?_
        rotate_left
        ·rintro w' ⟨s0,s1,s2,s3,s4,s5,s6,s7,s8,s9⟩
         go_simp
         with_reducible rfl
        rotate_left
        ·exact sa
        refine one_ (i:=21) (N:=some 35) #[true,true,true,true,true,true,true,true,true,true,true,true,true,true,true,true,true,true,true,true,true,true,false,false] rfl rfl (jRb HT_.out (by kernel_rfl)) (by decide) (fun K hK=>?_)
        refine goes_ Try.func69 (by kernel_rfl) rfl #[.agg #[.slice A0_0 l0_0.length c0_0], .int .i64 a2, .int .i64 ((jL l1 x7_1).f1)] (by rfl) rfl rfl (aq) ?_
        with_reducible refine (spec_isA.calls k1 _ _ l0_0 a2 ((jL l1 x7_1).f1) t522 _ ?side1 ?side2 A11.out).mono ?_
        (case side1=>exact cq (Kd.jZ HR0_0.out HB.out))
        (case side2=>exact HC0_0.out)
        rintro e w13 ⟨rfl,hb⟩
        refine ⟨_,rfl,?_⟩
        replace BK518:=am (jc (g:=gb518) (o:=.cells #[.slice A0_0 l0_0.length c0_0] 31 (0,0)) (kq BK518.out) hb)
        replace HB:=am (jg (Y48) hb)
        (try clear hb)
        (try clear hb2)
        (try clear hk)
        (try clear hi)
        refine hK.out _ _ ⟨(jw BK518.out 0).trans rfl,((HB.out.cell (World.block_lt_of_cell? w _ hw519_0)).trans hw519_0),((HB.out.cell (World.block_lt_of_cell? w _ hw519_1)).trans hw519_1),((HB.out.cell (World.block_lt_of_cell? w _ hw519_2)).trans hw519_2),((HB.out.cell (World.block_lt_of_cell? w _ hw520_0)).trans hw520_0),((HB.out.cell (World.block_lt_of_cell? w _ hw520_1)).trans hw520_1),((HB.out.cell (World.block_lt_of_cell? w _ hw520_2)).trans hw520_2),((HB.out.cell (World.block_lt_of_cell? w _ hw521_0)).trans hw521_0),((HB.out.cell (World.block_lt_of_cell? w _ hw521_1)).trans hw521_1),((HB.out.cell (World.block_lt_of_cell? w _ hw521_2)).trans hw521_2)⟩ (fun hHeld=>?_)
        clear hK K
        refine norm_ (a':=?_) ?_ ?_
        rotate_left
        ·show Act.put _ (some 35) _=_
         simp only [Act.put,List.setIfInBounds_toArray,List.set_cons_zero,List.set_cons_succ,jHb,jLb]
         rfl
        refine pq (i:=22) (N:=some 36) #[true,true,true,true,true,true,true,true,true,true,true,true,true,true,true,true,true,true,true,true,true,true,true,false] ?_
        refine pq (i:=23) (N:=some 37) #[true,true,true,true,true,true,true,true,true,true,true,true,true,true,true,true,true,true,true,true,true,true,true,true] ?_
        refine done_ (done_of HT_.out (by kernel_rfl)) ?_
        try go_wp2
        go_meet
        case rel=>exact ⟨_,(t522),(sq),H',⟨by have:=HK1.out;first | omega | exact Nat.le_refl _⟩,⟨kq BK518.out⟩,⟨Y48⟩⟩
       ·rw [if_neg c10] at H
        have c10b0:(((jL l1 x7_1).f0) == 2)=false:=beq_eq_false_iff_ne.mpr c10
        have c10b1:(((jL l1 x7_1).f0) != 2)=true:=bne_iff_ne.mpr c10
        have H':=am H
        clear H
        try go_wp2
        replace BK518:=am (jf BK518.out)
        replace HB:=am (jD HB.out)
        have p519:0≤(x7_1:Int):=ozD (uq)
        have q519:x7_1<(l1.length:Int):=ozD (uq)
        obtain ⟨ad519,e519,hx519_0,hx519_1,hx519_2⟩:=at_T44 HR1.out x7_1 p519 q519
        have hw519_2:=hx519_2
        have hw519_1:=hx519_1
        have hw519_0:=hx519_0
        cases e519
        replace hx519_0:=cb HB.out hx519_0
        replace hx519_1:=cb HB.out hx519_1
        replace hx519_2:=cb HB.out hx519_2
        replace p519:=ezT p519
        replace q519:=ezT q519
        have p520:0≤(x7_1:Int):=ozD (uq)
        have q520:x7_1<(l1.length:Int):=ozD (uq)
        obtain ⟨ad520,e520,hx520_0,hx520_1,hx520_2⟩:=at_T44 HR1.out x7_1 p520 q520
        have hw520_2:=hx520_2
        have hw520_1:=hx520_1
        have hw520_0:=hx520_0
        obtain rfl:ad519=ad520:=(by injection e520)
        replace hx520_0:=cb HB.out hx520_0
        replace hx520_1:=cb HB.out hx520_1
        replace hx520_2:=cb HB.out hx520_2
        replace p520:=ezT p520
        replace q520:=ezT q520
        refine start_ (n:=24) (S:=fun w'=>w'.cell? (ad519.add ((x7_1).toNat * 3))=some (.int .i64 ((jL l1 x7_1).f0))∧w'.cell? ⟨(ad519.add ((x7_1).toNat * 3)).block,(ad519.add ((x7_1).toNat * 3)).off+1,none⟩=some (.int .i64 ((jL l1 x7_1).f1))∧w'.cell? ⟨(ad519.add ((x7_1).toNat * 3)).block,(ad519.add ((x7_1).toNat * 3)).off+2,none⟩=some (.int .i64 ((jL l1 x7_1).f2))∧w'.cell? (ad519.add ((x7_1).toNat * 3))=some (.int .i64 ((jL l1 x7_1).f0))∧w'.cell? ⟨(ad519.add ((x7_1).toNat * 3)).block,(ad519.add ((x7_1).toNat * 3)).off+1,none⟩=some (.int .i64 ((jL l1 x7_1).f1))∧w'.cell? ⟨(ad519.add ((x7_1).toNat * 3)).block,(ad519.add ((x7_1).toNat * 3)).off+2,none⟩=some (.int .i64 ((jL l1 x7_1).f2))) (ds:=[]) #[false,false,false,false,false,false,false,false,false,false,false,false,false,false,false,false,false,false,false,false,false,false,false,false] (by kernel_rfl) rfl rfl ⟨((HB.out.cell (World.block_lt_of_cell? w _ hw519_0)).trans hw519_0),((HB.out.cell (World.block_lt_of_cell? w _ hw519_1)).trans hw519_1),((HB.out.cell (World.block_lt_of_cell? w _ hw519_2)).trans hw519_2),((HB.out.cell (World.block_lt_of_cell? w _ hw520_0)).trans hw520_0),((HB.out.cell (World.block_lt_of_cell? w _ hw520_1)).trans hw520_1),((HB.out.cell (World.block_lt_of_cell? w _ hw520_2)).trans hw520_2)⟩ (fun hHeld=>?_);refine jXb jca.tab4 jca.bits4 (fun HT_ HW_=>?_)
        generalize wr.drew=w14 at BK518 HB hx519_0 hx519_1 hx519_2 hx520_0 hx520_1 hx520_2 hHeld ⊢
        refine pq (i:=0) (N:=some 14) #[true,false,false,false,false,false,false,false,false,false,false,false,false,false,false,false,false,false,false,false,false,false,false,false] ?_
        refine pq (i:=1) (N:=some 15) #[true,true,false,false,false,false,false,false,false,false,false,false,false,false,false,false,false,false,false,false,false,false,false,false] ?_
        refine pq (i:=2) (N:=some 16) #[true,true,true,false,false,false,false,false,false,false,false,false,false,false,false,false,false,false,false,false,false,false,false,false] ?_
        refine pq (i:=3) (N:=some 17) #[true,true,true,true,false,false,false,false,false,false,false,false,false,false,false,false,false,false,false,false,false,false,false,false] ?_
        refine jYb (i:=4) (N:=some 18) (v:=?_) (a':=?_) #[true,true,true,true,true,false,false,false,false,false,false,false,false,false,false,false,false,false,false,false,false,false,false,false] rfl rfl (jFb HT_.out HW_.out (by kernel_rfl)) (fun _ _ _ h=>h) (Or.inl ⟨by rfl,?_⟩) hHeld ?_ ?_
        rotate_left
        ·rintro w' ⟨s0,s1,s2,s3,s4,s5⟩
         go_simp
         with_reducible rfl
        rotate_left
        ·exact sa
        refine pq (i:=5) (N:=some 19) #[true,true,true,true,true,true,false,false,false,false,false,false,false,false,false,false,false,false,false,false,false,false,false,false] ?_
        refine pq (i:=6) (N:=some 20) #[true,true,true,true,true,true,true,false,false,false,false,false,false,false,false,false,false,false,false,false,false,false,false,false] ?_
        refine pq (i:=7) (N:=some 21) #[true,true,true,true,true,true,true,true,false,false,false,false,false,false,false,false,false,false,false,false,false,false,false,false] ?_
        refine pq (i:=8) (N:=some 22) #[true,true,true,true,true,true,true,true,true,false,false,false,false,false,false,false,false,false,false,false,false,false,false,false] ?_
        refine pq (i:=9) (N:=some 23) #[true,true,true,true,true,true,true,true,true,true,false,false,false,false,false,false,false,false,false,false,false,false,false,false] ?_
        refine pq (i:=10) (N:=some 24) #[true,true,true,true,true,true,true,true,true,true,true,false,false,false,false,false,false,false,false,false,false,false,false,false] ?_
        refine jYb (i:=11) (N:=some 25) (v:=?_) (a':=?_) #[true,true,true,true,true,true,true,true,true,true,true,true,false,false,false,false,false,false,false,false,false,false,false,false] rfl rfl (jFb HT_.out HW_.out (by kernel_rfl)) (fun _ _ _ h=>h) (Or.inl ⟨by rfl,?_⟩) hHeld ?_ ?_
        rotate_left
        ·rintro w' ⟨s0,s1,s2,s3,s4,s5⟩
         go_simp
         with_reducible rfl
        rotate_left
        ·exact sa
        refine pq (i:=12) (N:=some 26) #[true,true,true,true,true,true,true,true,true,true,true,true,true,false,false,false,false,false,false,false,false,false,false,false] ?_
        refine pq (i:=13) (N:=some 27) #[true,true,true,true,true,true,true,true,true,true,true,true,true,true,false,false,false,false,false,false,false,false,false,false] ?_
        refine jwb (i:=14) (N:=some 28) (v:=undef) (a':=?_) #[true,true,true,true,true,true,true,true,true,true,true,true,true,true,true,false,false,false,false,false,false,false,false,false] rfl rfl (jzb HT_.out (by kernel_rfl)) (fun _ _ _ h=>h) (Or.inr ⟨by rfl,rfl⟩) ?_ ?_
        rotate_left
        ·exact sa
        refine jwb (i:=15) (N:=some 29) (v:=undef) (a':=?_) #[true,true,true,true,true,true,true,true,true,true,true,true,true,true,true,true,false,false,false,false,false,false,false,false] rfl rfl (jzb HT_.out (by kernel_rfl)) (fun _ _ _ h=>h) (Or.inr ⟨by rfl,rfl⟩) ?_ ?_
        rotate_left
        ·exact sa
        refine jwb (i:=16) (N:=some 30) (v:=undef) (a':=?_) #[true,true,true,true,true,true,true,true,true,true,true,true,true,true,true,true,true,false,false,false,false,false,false,false] rfl rfl (jzb HT_.out (by kernel_rfl)) (fun _ _ _ h=>h) (Or.inr ⟨by rfl,rfl⟩) ?_ ?_
        rotate_left
        ·exact sa
        refine jwb (i:=17) (N:=some 31) (v:=undef) (a':=?_) #[true,true,true,true,true,true,true,true,true,true,true,true,true,true,true,true,true,true,false,false,false,false,false,false] rfl rfl (jzb HT_.out (by kernel_rfl)) (fun _ _ _ h=>h) (Or.inr ⟨by rfl,rfl⟩) ?_ ?_
        rotate_left
        ·exact sa
        refine jwb (i:=18) (N:=some 32) (v:=undef) (a':=?_) #[true,true,true,true,true,true,true,true,true,true,true,true,true,true,true,true,true,true,true,false,false,false,false,false] rfl rfl (jzb HT_.out (by kernel_rfl)) (fun _ _ _ h=>h) (Or.inr ⟨by rfl,rfl⟩) ?_ ?_
        rotate_left
        ·exact sa
        refine jwb (i:=19) (N:=some 33) (v:=undef) (a':=?_) #[true,true,true,true,true,true,true,true,true,true,true,true,true,true,true,true,true,true,true,true,false,false,false,false] rfl rfl (jzb HT_.out (by kernel_rfl)) (fun _ _ _ h=>h) (Or.inr ⟨by rfl,rfl⟩) ?_ ?_
        rotate_left
        ·exact sa
        refine jwb (i:=20) (N:=some 34) (v:=undef) (a':=?_) #[true,true,true,true,true,true,true,true,true,true,true,true,true,true,true,true,true,true,true,true,true,false,false,false] rfl rfl (jzb HT_.out (by kernel_rfl)) (fun _ _ _ h=>h) (Or.inr ⟨by rfl,rfl⟩) ?_ ?_
        rotate_left
        ·exact sa
        refine jwb (i:=21) (N:=some 35) (v:=undef) (a':=?_) #[true,true,true,true,true,true,true,true,true,true,true,true,true,true,true,true,true,true,true,true,true,true,false,false] rfl rfl (jzb HT_.out (by kernel_rfl)) (fun _ _ _ h=>h) (Or.inr ⟨by rfl,rfl⟩) ?_ ?_
        rotate_left
        ·exact sa
        refine pq (i:=22) (N:=some 36) #[true,true,true,true,true,true,true,true,true,true,true,true,true,true,true,true,true,true,true,true,true,true,true,false] ?_
        refine pq (i:=23) (N:=some 37) #[true,true,true,true,true,true,true,true,true,true,true,true,true,true,true,true,true,true,true,true,true,true,true,true] ?_
        refine done_ (done_of HT_.out (by kernel_rfl)) ?_
        try go_wp2
        go_meet
        case rel=>exact ⟨_,(false),(sq),H',⟨by have:=HK1.out;first | omega | exact Nat.le_refl _⟩,⟨kq BK518.out⟩,⟨Y48⟩⟩
     ·rw [if_neg c7] at H
      exact absurd H (by simp)
    case rest =>
     clear HC6
     try clear c1
     try clear p2
     try clear p5
     try clear q5
     try clear hx5
     try clear c6
     try clear c7
     try clear c8
     try clear c8b0
     try clear c8b1
     try clear c10
     try clear c10b0
     try clear c10b1
     try clear hx519_0
     try clear hx519_1
     try clear hx519_2
     try clear hx520_0
     try clear hx520_1
     try clear hx520_2
     try clear hx521_0
     try clear hx521_1
     try clear hx521_2
     try clear p519
     try clear p520
     try clear p521
     try clear q519
     try clear q520
     try clear q521
     obtain ⟨kq,x37_5,rfl,HA,HJ5,BK518,HB⟩:=hcut
     cases kq with
     | zero=>exact absurd HA.out (by simp [jca.j1])
     | succ kj5 =>
      have H:=HA.out
      clear HA
      simp only [jca.j1] at H
      by_cases c15:x37_5=true
      ·subst c15
       have H1:(some false)=some r:=by rw [if_pos rfl] at H;exact H
       clear H
       have H:=H1
       clear H1
       obtain rfl:=Option.some.inj H
       go_wp2
       go_ret
       exact ⟨Y0,Y48⟩
      ·replace c15:=Bool.eq_false_iff.mpr c15
       subst c15
       have H1:(jca.l0 kj5 l1 a2 (wrap64 (x7_1+1)) l0_0)=some r:=by rw [if_neg (show ¬ (false=true) by decide)] at H;exact H
       clear H
       have H:=H1
       clear H1
       have H':=am H
       clear H
       go_wp2
       go_roundg kj5
       case measure=>have:=HK1.out;have:=HJ5.out;omega
       case rel=>exact ⟨(wrap64 (x7_1+1)),(sq),H',⟨by have:=HK1.out;have:=HJ5.out;omega⟩,⟨kq BK518.out⟩,⟨Y48⟩⟩
   ·rw [if_neg c5] at H
    have c5b0:decide (x7_1<(l1.length:Int))=false:=dzF c5
    clear c5
    obtain rfl:=Option.some.inj H
    go_wp2
    go_ret
    exact ⟨Y0,Y48⟩
def jY.l0 : Nat → List (S44) → List Int → Int → List (S106) → Option (List Int)
 | 0,_,_,_,_=>none
 | k+1,x1,x5,x6,x524000=>if x6<(x524000.length:Int) then ((jca.f k x524000 x1 x6).bind fun t528=>(if t528=true then (if x5.length<17592186044416 then (jY.l0 k x1 (x5 ++ [x6]) (wrap64 (x6+1)) x524000) else (none)) else (jY.l0 k x1 x5 (wrap64 (x6+1)) x524000))) else (some x5)
def jY.f (k : Nat) (l0_0 : List (S106)) (l1 : List (S44)) : Option (List Int) := (jta.f k l0_0 l1).bind fun t524 => (if t524 = true then (jY.l0 k l1 (([] : List Int)) 0 l0_0) else (some ([] : List Int)))
set_option maxHeartbeats 8000000 in
set_option maxRecDepth 100000 in
theorem jY.calls (k : Nat) (A0_0 : Option Addr) (c0_0 : Nat) (l0_0 : List (S106)) (A1 : Option Addr) (c1 : Nat) (l1 : List (S44)) (r : List Int) (w : World) (hr0_0 : Kd.C k106 w A0_0 l0_0.length l0_0) (hc0_0 : l0_0.length ≤ c0_0) (hr1 : Kd.C k44 w A1 l1.length l1) (hc1 : l1.length ≤ c1) (h : jY.f k l0_0 l1 = some r) :
  Calls Try.prog 22 #[.agg #[.slice A0_0 l0_0.length c0_0], .slice A1 l1.length c1] w fun e w'=>∃ v0_:Value,e=.returned (v0_)∧Kd.R (Kd.int .i64) 3 w' w.heap.size (fun _=>True) v0_ r∧Below w.heap.size w w':=by
 have hu31:=Try.underlying31
 have HR0_0:=am hr0_0
 have HC0_0:=am hc0_0
 clear hr0_0 hc0_0
 have HR1:=am hr1
 have HC1:=am hc1
 clear hr1 hc1
 have HB:=am (Below.refl w.heap.size w)
 have H:((jta.f k l0_0 l1).bind fun t524=>(if t524=true then (jY.l0 k l1 (([]:List Int)) 0 l0_0) else (some ([]:List Int))))=some r:=h
 clear h
 replace H:=bzS H
 obtain ⟨t524,A30,H⟩:=H
 replace H:(if t524=true then (jY.l0 k l1 (([]:List Int)) 0 l0_0) else (some ([]:List Int)))=some r:=H
 have A3:=am A30
 clear A30
 by_cases c4:t524=true
 ·subst c4
  have H1:(jY.l0 k l1 (([]:List Int)) 0 l0_0)=some r:=by rw [if_pos rfl] at H;exact H
  clear H
  have H:=H1
  clear H1
  obtain ⟨y525,hy525⟩:∃ y_:List Int,y_=(([]:List Int)):=⟨_,rfl⟩
  replace H:(jY.l0 k l1 y525 0 l0_0)=some r:=by first |(rw [hy525];with_reducible exact H) |(have H2_:=(Option.bind_some _ _).symm.trans H;rw [hy525];with_reducible exact H2_) |(have H2_:=(Option.bind_some _ _).symm.trans H;with_reducible exact H2_) | with_reducible exact H |(rw [hy525];exact H) | exact H
  have Ny525:=am hy525
  clear hy525
  have H':=am H
  clear H
  go_enter Try.func22,Try.ntmps22
  go_wp2_with (first |((with_reducible refine jG (N:=2) rfl ?_);refine bE (N:=2) (cs:=#[.slice A0_0 l0_0.length c0_0]) (t:=31) ?_;intro gb523 hg w5 hbox hb;have BK523:=am (hbox);have GW523:=am ((Y2:w.heap.size≤gb523));have GE523:=am ((Y2:w.heap.size≤gb523));replace HB:=am (jg (bq) hb);clear hb hbox hg;have hcz6_0:=bc0 BK523.out;have hfz6_0:=ja BK523.out 0) |((with_reducible refine jo (f:=35) rfl ?_);refine gL (some 9) Try.func35 #[.agg #[.slice A0_0 l0_0.length c0_0], .slice A1 l1.length c1] ?_;(with_reducible refine (jta.calls k _ _ l0_0 _ _ l1 true _ ?side1 ?side2 ?side3 ?side4 A3.out).mono ?_);(case side1=>exact cq (Kd.jZ HR0_0.out HB.out));(case side2=>exact HC0_0.out);(case side3=>exact cq (Kd.jZ HR1.out HB.out));(case side4=>exact HC1.out);rintro e w7 ⟨rfl,hb⟩;refine ⟨_,rfl,?_⟩;replace BK523:=am (jc (g:=gb523) (o:=.cells #[.slice A0_0 l0_0.length c0_0] 31 (0,0)) (kq BK523.out) hb);replace HB:=am (jg (Y21) hb);(try clear hb);(try clear hb2);(try clear hk);(try clear hi)) |((with_reducible refine jG (N:=11) rfl ?_);refine Kd.R_lit (Kd.int .i64) _ 3 ?hg (N:=11) ?hd (xs:=([]:List Int)) (inner:=[]) (ok:=fun _=>True) (okp:=fun _=>True) ?hr ?hp (fun _ hk=>hk) trivial (Below.refl _ _) (Nat.le_refl _) (by simp) ?_;(case hd=>rfl);(case hg=>rfl);(case hr=>exact Y3);(case hp=>exact (Reps.none _ _));intro v526 w8 ho9 hb hg_ hnew_;clear hg_ hnew_;(first | rw [← Ny525.out] at ho9 |(simp only [Int.reduceToNat] at ho9;rw [← Ny525.out] at ho9));have HO527:=am (Kd.jpa ho9 (jba (Y21)));replace BK523:=am (jc (g:=gb523) (o:=.cells #[.slice A0_0 l0_0.length c0_0] 31 (0,0)) (kq BK523.out) hb);replace HB:=am (jg (Y21) hb);clear hb ho9))
  go_loopg [5,6] k (fun kq v5 v6 w'=>∃ (x5_1:List Int) (x6_1:Int),v6=.int .i64 x6_1∧jE (jY.l0 kq l1 x5_1 x6_1 l0_0=some r)∧jE (kq≤k)∧jE (Kd.R (Kd.int .i64) 3 w' w.heap.size (fun _=>True) v5 x5_1)∧jE (w'.heap[gb523]?=some (.cells #[(.slice A0_0 l0_0.length c0_0)] 31 (0,0)))∧jE (Below w.heap.size w w'))
  case atStart=>exact ⟨(y525),(0),(sq),H',⟨Nat.le_refl _⟩,⟨rq HO527.out⟩,⟨kq BK523.out⟩,⟨Y21⟩⟩
  case round =>
   clear H'
   try clear c1
   try clear c2
   try clear p2
   try clear c3
   try clear c4
   try clear hcz6_0
   try clear hfz6_0
   obtain ⟨x5_1,x6_1,rfl,HA,HK1,HO_5,BK523,HB⟩:=hrel
   cases gk with
   | zero=>exact absurd HA.out (by simp [jY.l0])
   | succ k1 =>
    have H:=HA.out
    clear HA
    simp only [jY.l0] at H
    by_cases c10:x6_1<(l0_0.length:Int)
    ·rw [if_pos c10] at H
     have c10b0:decide (x6_1<(l0_0.length:Int))=true:=dzT c10
     clear c10
     replace H:=bzS H
     obtain ⟨t528,A110,H⟩:=H
     replace H:(if t528=true then (if x5_1.length<17592186044416 then (jY.l0 k1 l1 (x5_1 ++ [x6_1]) (wrap64 (x6_1+1)) l0_0) else (none)) else (jY.l0 k1 l1 x5_1 (wrap64 (x6_1+1)) l0_0))=some r:=H
     have A11:=am A110
     clear A110
     by_cases c12:t528=true
     ·subst c12
      have H1:(if x5_1.length<17592186044416 then (jY.l0 k1 l1 (x5_1 ++ [x6_1]) (wrap64 (x6_1+1)) l0_0) else (none))=some r:=by rw [if_pos rfl] at H;exact H
      clear H
      have H:=H1
      clear H1
      by_cases c13:x5_1.length<17592186044416
      ·rw [if_pos c13] at H
       have LMc13:=am c13
       clear c13
       obtain ⟨y529,hy529⟩:∃ y_:List Int,y_=(x5_1 ++ [x6_1]):=⟨_,rfl⟩
       replace H:(jY.l0 k1 l1 y529 (wrap64 (x6_1+1)) l0_0)=some r:=by first |(rw [hy529];with_reducible exact H) |(have H2_:=(Option.bind_some _ _).symm.trans H;rw [hy529];with_reducible exact H2_) |(have H2_:=(Option.bind_some _ _).symm.trans H;with_reducible exact H2_) | with_reducible exact H |(rw [hy529];exact H) | exact H
       have Ny529:=am hy529
       clear hy529
       have H':=am H
       clear H
       have hcz14_0:=bc0 BK523.out
       have hfz14_0:=ja BK523.out 0
       go_wp2_with (first |((with_reducible refine jo (f:=55) rfl ?_);refine gL (some 22) Try.func55 #[.agg #[.slice A0_0 l0_0.length c0_0], .slice A1 l1.length c1, .int .i64 x6_1] ?_;(with_reducible refine (jca.calls k1 _ _ l0_0 _ _ l1 x6_1 true _ ?side1 ?side2 ?side3 ?side4 A11.out).mono ?_);(case side1=>exact cq (Kd.jZ HR0_0.out HB.out));(case side2=>exact HC0_0.out);(case side3=>exact cq (Kd.jZ HR1.out HB.out));(case side4=>exact HC1.out);rintro e w15 ⟨rfl,hb⟩;refine ⟨_,rfl,?_⟩;replace HO_5:=am (Kd.jaa (rq HO_5.out) hb);replace BK523:=am (jc (g:=gb523) (o:=.cells #[.slice A0_0 l0_0.length c0_0] 31 (0,0)) (kq BK523.out) hb);replace HB:=am (jg (Y21) hb);(try clear hb);(try clear hb2);(try clear hk);(try clear hi)) |((with_reducible refine jpb (b:=.append) (xs:=#[.tmp 23, .tmp 25]) rfl ?_);at_builtin;refine Kd.jWb (Kd.int .i64) (w0:=w) w.heap.size rfl (.tmp 23) (.tmp 25) 45 3 (.int .i64 0) 8 rfl Try.underlying45 info3 rfl (by decide) (by omega) u5 x5_1 x6_1 [.int .i64 x6_1] (fun _=>True) (fun _=>False) rfl rfl ?aP (fun _ hk=>hk.elim) ?aF ?aO ?aB ?aS ?aL ?_;(case aP=>exact rfl);(case aB=>exact (Y21));(case aF=>exact (fun _ _=>trivial));(case aO=>exact (rq HO_5.out));(case aS=>exact (jba (Y21)));(case aL=>have:=LMc13.out;omega);intro v530 w16 ho hb hg hat;rw [← Ny529.out] at ho;have n0_:=am (jqa (g:=gb523) (o:=.cells #[.slice A0_0 l0_0.length c0_0] 31 (0,0)) (kq BK523.out) hg (Kd.R_ne HO_5.out BK523.out (by decide)));have n1_:=am (hb);have n2_:=am (ho);clear BK523 HB HO_5;have BK523:=n0_;have HB:=n1_;have HO531:=n2_;clear n0_ n1_ n2_ ho hb hg hat))
       go_roundg k1
       case measure=>have:=HK1.out;omega
       case rel=>exact ⟨(y529),(wrap64 (x6_1+1)),(sq),H',⟨by have:=HK1.out;omega⟩,⟨rq HO531.out⟩,⟨kq BK523.out⟩,⟨Y21⟩⟩
      ·rw [if_neg c13] at H
       exact absurd H (by simp)
     ·replace c12:=Bool.eq_false_iff.mpr c12
      subst c12
      have H1:(jY.l0 k1 l1 x5_1 (wrap64 (x6_1+1)) l0_0)=some r:=by rw [if_neg (show ¬ (false=true) by decide)] at H;exact H
      clear H
      have H:=H1
      clear H1
      have H':=am H
      clear H
      have hcz17_0:=bc0 BK523.out
      have hfz17_0:=ja BK523.out 0
      go_wp2_with (first |((with_reducible refine jo (f:=55) rfl ?_);refine gL (some 22) Try.func55 #[.agg #[.slice A0_0 l0_0.length c0_0], .slice A1 l1.length c1, .int .i64 x6_1] ?_;(with_reducible refine (jca.calls k1 _ _ l0_0 _ _ l1 x6_1 false _ ?side1 ?side2 ?side3 ?side4 A11.out).mono ?_);(case side1=>exact cq (Kd.jZ HR0_0.out HB.out));(case side2=>exact HC0_0.out);(case side3=>exact cq (Kd.jZ HR1.out HB.out));(case side4=>exact HC1.out);rintro e w18 ⟨rfl,hb⟩;refine ⟨_,rfl,?_⟩;replace HO_5:=am (Kd.jaa (rq HO_5.out) hb);replace BK523:=am (jc (g:=gb523) (o:=.cells #[.slice A0_0 l0_0.length c0_0] 31 (0,0)) (kq BK523.out) hb);replace HB:=am (jg (Y21) hb);(try clear hb);(try clear hb2);(try clear hk);(try clear hi)))
      go_roundg k1
      case measure=>have:=HK1.out;omega
      case rel=>exact ⟨(x5_1),(wrap64 (x6_1+1)),(sq),H',⟨by have:=HK1.out;omega⟩,⟨rq HO_5.out⟩,⟨kq BK523.out⟩,⟨Y21⟩⟩
    ·rw [if_neg c10] at H
     have c10b0:decide (x6_1<(l0_0.length:Int))=false:=dzF c10
     clear c10
     obtain rfl:=Option.some.inj H
     have hcz19_0:=bc0 BK523.out
     have hfz19_0:=ja BK523.out 0
     go_wp2
     go_ret
     exact ⟨_,Y0,rq HO_5.out,Y21⟩
 ·replace c4:=Bool.eq_false_iff.mpr c4
  subst c4
  have H1:(some ([]:List Int))=some r:=by rw [if_neg (show ¬ (false=true) by decide)] at H;exact H
  clear H
  have H:=H1
  clear H1
  obtain rfl:=Option.some.inj H
  go_enter Try.func22,Try.ntmps22
  go_wp2_with (first |((with_reducible refine jG (N:=2) rfl ?_);refine bE (N:=2) (cs:=#[.slice A0_0 l0_0.length c0_0]) (t:=31) ?_;intro gb523 hg w20 hbox hb;have BK523:=am (hbox);have GW523:=am ((Y2:w.heap.size≤gb523));have GE523:=am ((Y2:w.heap.size≤gb523));replace HB:=am (jg (bq) hb);clear hb hbox hg;have hcz21_0:=bc0 BK523.out;have hfz21_0:=ja BK523.out 0) |((with_reducible refine jo (f:=35) rfl ?_);refine gL (some 9) Try.func35 #[.agg #[.slice A0_0 l0_0.length c0_0], .slice A1 l1.length c1] ?_;(with_reducible refine (jta.calls k _ _ l0_0 _ _ l1 false _ ?side1 ?side2 ?side3 ?side4 A3.out).mono ?_);(case side1=>exact cq (Kd.jZ HR0_0.out HB.out));(case side2=>exact HC0_0.out);(case side3=>exact cq (Kd.jZ HR1.out HB.out));(case side4=>exact HC1.out);rintro e w22 ⟨rfl,hb⟩;refine ⟨_,rfl,?_⟩;replace BK523:=am (jc (g:=gb523) (o:=.cells #[.slice A0_0 l0_0.length c0_0] 31 (0,0)) (kq BK523.out) hb);replace HB:=am (jg (Y21) hb);(try clear hb);(try clear hb2);(try clear hk);(try clear hi)))
  go_ret
  exact ⟨_,Y0,Y85,Y21⟩
attribute [local go_sem high] eqA50
def jnb.f (a0_0 : Bool) (a0_1 : Int) (a0_2 : Int) (l1_0 : List (S106)) : Option (Bool) := if a0_0 = true then ((jha.f l1_0 a0_1).bind fun t534 => (if t534 = true then ((jxa.f a0_2).bind fun t535 => (some t535)) else (some false))) else (some (!a0_0 && (a0_1 == 0 && (a0_2 == 0))))
set_option maxHeartbeats 8000000 in
set_option maxRecDepth 100000 in
theorem jnb.calls (a0_0 : Bool) (a0_1 : Int) (a0_2 : Int) (A1_0 : Option Addr) (c1_0 : Nat) (l1_0 : List (S106)) (r : Bool) (w : World) (hr1_0 : Kd.C k106 w A1_0 l1_0.length l1_0) (hc1_0 : l1_0.length ≤ c1_0) (h : jnb.f a0_0 a0_1 a0_2 l1_0 = some r) :
  Calls Try.prog 56 #[.agg #[.bool a0_0, .int .i64 a0_1, .int .i64 a0_2], .agg #[.slice A1_0 l1_0.length c1_0]] w fun e w'=>e=.returned (.bool r)∧Below w.heap.size w w':=by
 have hu50:=Try.underlying50
 have hu31:=Try.underlying31
 have HR1_0:=am hr1_0
 have HC1_0:=am hc1_0
 clear hr1_0 hc1_0
 have HB:=am (Below.refl w.heap.size w)
 have H:(if a0_0=true then ((jha.f l1_0 a0_1).bind fun t534=>(if t534=true then ((jxa.f a0_2).bind fun t535=>(some t535)) else (some false))) else (some (!a0_0 && (a0_1 == 0 && (a0_2 == 0)))))=some r:=h
 clear h
 by_cases c3:a0_0=true
 ·subst c3
  have H1:((jha.f l1_0 a0_1).bind fun t534=>(if t534=true then ((jxa.f a0_2).bind fun t535=>(some t535)) else (some false)))=some r:=by rw [if_pos rfl] at H;exact H
  clear H
  have H:=H1
  clear H1
  replace H:=bzS H
  obtain ⟨t534,A40,H⟩:=H
  replace H:(if t534=true then ((jxa.f a0_2).bind fun t535=>(some t535)) else (some false))=some r:=H
  have A4:=am A40
  clear A40
  by_cases c5:t534=true
  ·subst c5
   have H1:((jxa.f a0_2).bind fun t535=>(some t535))=some r:=by rw [if_pos rfl] at H;exact H
   clear H
   have H:=H1
   clear H1
   replace H:=bzS H
   obtain ⟨t535,A60,H⟩:=H
   replace H:(some t535)=some r:=H
   have A6:=am A60
   clear A60
   obtain rfl:=Option.some.inj H
   go_enter Try.func56,Try.ntmps56
   go_wp2_with (first |((with_reducible refine jG (N:=2) rfl ?_);refine bE (N:=2) (cs:=#[.bool true, .int .i64 a0_1, .int .i64 a0_2]) (t:=50) ?_;intro gb532 hg w7 hbox hb;have BK532:=am (hbox);have GW532:=am ((Y2:w.heap.size≤gb532));have GE532:=am ((Y2:w.heap.size≤gb532));replace HB:=am (jg (bq) hb);clear hb hbox hg) |((with_reducible refine jG (N:=3) rfl ?_);refine bE (N:=3) (cs:=#[.slice A1_0 l1_0.length c1_0]) (t:=31) ?_;intro gb533 hg w8 hbox hb;have BK533:=am (hbox);have GW533:=am ((Y54:w.heap.size≤gb533));have GE533:=am ((Y54:w.heap.size≤gb533));have NB532_533:=am ((Y115:gb532≠gb533));have NB533_532:=am ((Y116:gb533≠gb532));replace BK532:=am (jc (g:=gb532) (o:=.cells #[.bool true, .int .i64 a0_1, .int .i64 a0_2] 50 (0,0)) (kq BK532.out) hb);replace HB:=am (jg (Y89) hb);clear hb hbox hg;have hnb9:=NB532_533.out;have hnc9:=NB533_532.out;have hcz10_0:=bc0 BK532.out;have hcz10_1:=bc1 BK532.out;have hcz10_2:=bc2 BK532.out;have hfz10_0:=ja BK532.out 0;have hfz10_1:=ja BK532.out 1;have hfz10_2:=ja BK532.out 2;have hcz11_0:=bc0 BK533.out;have hfz11_0:=ja BK533.out 0) |((with_reducible refine jo (f:=83) rfl ?_);refine gL (some 14) Try.func83 #[.agg #[.slice A1_0 l1_0.length c1_0], .int .i64 a0_1] ?_;(with_reducible refine (jha.calls _ _ l1_0 a0_1 true _ ?side1 ?side2 A4.out).mono ?_);(case side1=>exact cq (Kd.jZ HR1_0.out HB.out));(case side2=>exact HC1_0.out);rintro e w12 ⟨rfl,hb⟩;refine ⟨_,rfl,?_⟩;replace BK532:=am (jc (g:=gb532) (o:=.cells #[.bool true, .int .i64 a0_1, .int .i64 a0_2] 50 (0,0)) (kq BK532.out) hb);replace BK533:=am (jc (g:=gb533) (o:=.cells #[.slice A1_0 l1_0.length c1_0] 31 (0,0)) (kq BK533.out) hb);replace HB:=am (jg (Y63) hb);(try clear hb);(try clear hb2);(try clear hk);(try clear hi);have hcz13_0:=bc0 BK532.out;have hcz13_1:=bc1 BK532.out;have hcz13_2:=bc2 BK532.out;have hfz13_0:=ja BK532.out 0;have hfz13_1:=ja BK532.out 1;have hfz13_2:=ja BK532.out 2) |(go_at_call 82;(with_reducible refine (jxa.calls a0_2 t535 _ A6.out).mono ?_);rintro e w' ⟨rfl,⟨nd,rfl⟩⟩))
   go_ret
   exact ⟨Y0,Y63⟩
  ·replace c5:=Bool.eq_false_iff.mpr c5
   subst c5
   have H1:(some false)=some r:=by rw [if_neg (show ¬ (false=true) by decide)] at H;exact H
   clear H
   have H:=H1
   clear H1
   obtain rfl:=Option.some.inj H
   go_enter Try.func56,Try.ntmps56
   go_wp2_with (first |((with_reducible refine jG (N:=2) rfl ?_);refine bE (N:=2) (cs:=#[.bool true, .int .i64 a0_1, .int .i64 a0_2]) (t:=50) ?_;intro gb532 hg w14 hbox hb;have BK532:=am (hbox);have GW532:=am ((Y2:w.heap.size≤gb532));have GE532:=am ((Y2:w.heap.size≤gb532));replace HB:=am (jg (bq) hb);clear hb hbox hg) |((with_reducible refine jG (N:=3) rfl ?_);refine bE (N:=3) (cs:=#[.slice A1_0 l1_0.length c1_0]) (t:=31) ?_;intro gb533 hg w15 hbox hb;have BK533:=am (hbox);have GW533:=am ((Y54:w.heap.size≤gb533));have GE533:=am ((Y54:w.heap.size≤gb533));have NB532_533:=am ((Y115:gb532≠gb533));have NB533_532:=am ((Y116:gb533≠gb532));replace BK532:=am (jc (g:=gb532) (o:=.cells #[.bool true, .int .i64 a0_1, .int .i64 a0_2] 50 (0,0)) (kq BK532.out) hb);replace HB:=am (jg (Y89) hb);clear hb hbox hg;have hnb16:=NB532_533.out;have hnc16:=NB533_532.out;have hcz17_0:=bc0 BK532.out;have hcz17_1:=bc1 BK532.out;have hcz17_2:=bc2 BK532.out;have hfz17_0:=ja BK532.out 0;have hfz17_1:=ja BK532.out 1;have hfz17_2:=ja BK532.out 2;have hcz18_0:=bc0 BK533.out;have hfz18_0:=ja BK533.out 0) |((with_reducible refine jo (f:=83) rfl ?_);refine gL (some 14) Try.func83 #[.agg #[.slice A1_0 l1_0.length c1_0], .int .i64 a0_1] ?_;(with_reducible refine (jha.calls _ _ l1_0 a0_1 false _ ?side1 ?side2 A4.out).mono ?_);(case side1=>exact cq (Kd.jZ HR1_0.out HB.out));(case side2=>exact HC1_0.out);rintro e w19 ⟨rfl,hb⟩;refine ⟨_,rfl,?_⟩;replace BK532:=am (jc (g:=gb532) (o:=.cells #[.bool true, .int .i64 a0_1, .int .i64 a0_2] 50 (0,0)) (kq BK532.out) hb);replace BK533:=am (jc (g:=gb533) (o:=.cells #[.slice A1_0 l1_0.length c1_0] 31 (0,0)) (kq BK533.out) hb);replace HB:=am (jg (Y63) hb);(try clear hb);(try clear hb2);(try clear hk);(try clear hi)))
   go_ret
   exact ⟨Y0,Y63⟩
 ·replace c3:=Bool.eq_false_iff.mpr c3
  subst c3
  have H1:(some (!false && (a0_1 == 0 && (a0_2 == 0))))=some r:=by rw [if_neg (show ¬ (false=true) by decide)] at H;exact H
  clear H
  have H:=H1
  clear H1
  obtain rfl:=Option.some.inj H
  go_enter Try.func56,Try.ntmps56
  go_wp2_with (first |((with_reducible refine jG (N:=2) rfl ?_);refine bE (N:=2) (cs:=#[.bool false, .int .i64 a0_1, .int .i64 a0_2]) (t:=50) ?_;intro gb532 hg w20 hbox hb;have BK532:=am (hbox);have GW532:=am ((Y2:w.heap.size≤gb532));have GE532:=am ((Y2:w.heap.size≤gb532));replace HB:=am (jg (bq) hb);clear hb hbox hg) |((with_reducible refine jG (N:=3) rfl ?_);refine bE (N:=3) (cs:=#[.slice A1_0 l1_0.length c1_0]) (t:=31) ?_;intro gb533 hg w21 hbox hb;have BK533:=am (hbox);have GW533:=am ((Y54:w.heap.size≤gb533));have GE533:=am ((Y54:w.heap.size≤gb533));have NB532_533:=am ((by rw [hg];exact Nat.ne_of_lt (jva (g:=gb532) (o:=.cells #[.bool false, .int .i64 a0_1, .int .i64 a0_2] 50 (0,0)) (kq BK532.out)):gb532≠gb533));have NB533_532:=am ((by rw [hg];exact Nat.ne_of_gt (jva (g:=gb532) (o:=.cells #[.bool false, .int .i64 a0_1, .int .i64 a0_2] 50 (0,0)) (kq BK532.out)):gb533≠gb532));replace BK532:=am (jc (g:=gb532) (o:=.cells #[.bool false, .int .i64 a0_1, .int .i64 a0_2] 50 (0,0)) (kq BK532.out) hb);replace HB:=am (jg (Y89) hb);clear hb hbox hg;have hnb22:=NB532_533.out;have hnc22:=NB533_532.out;have hcz23_0:=bc0 BK532.out;have hcz23_1:=bc1 BK532.out;have hcz23_2:=bc2 BK532.out;have hfz23_0:=ja BK532.out 0;have hfz23_1:=ja BK532.out 1;have hfz23_2:=ja BK532.out 2))
  go_ret
  exact ⟨Y0,Y63⟩
def cmp_isNaN_int.f (a0 : Int) : Option (Bool) := some (a0 != a0)
set_option maxHeartbeats 8000000 in
set_option maxRecDepth 100000 in
theorem cmp_isNaN_int.calls (a0 : Int) (r : Bool) (w : World) (h : cmp_isNaN_int.f a0 = some r) :
  Calls Try.prog 140 #[.int .i64 a0] w fun e w'=>e=.returned (.bool r)∧jhb w w':=by
 have H:(some (a0 != a0))=some r:=h
 clear h
 obtain rfl:=Option.some.inj H
 go_enter Try.func140,Try.ntmps140
 go_wp2
 go_ret
 exact ⟨sq,Y4⟩
def cmp_Less_int.f (a0 : Int) (a1 : Int) : Option (Bool) := (cmp_isNaN_int.f a0).bind fun t536 => (if t536 = true then ((cmp_isNaN_int.f a1).bind fun t537 => (if t537 = true then (some (decide (a0 < a1))) else (some true))) else (some (decide (a0 < a1))))
set_option maxHeartbeats 8000000 in
set_option maxRecDepth 100000 in
theorem cmp_Less_int.calls (a0 : Int) (a1 : Int) (r : Bool) (w : World) (h : cmp_Less_int.f a0 a1 = some r) :
  Calls Try.prog 130 #[.int .i64 a0, .int .i64 a1] w fun e w'=>e=.returned (.bool r)∧jhb w w':=by
 have H:((cmp_isNaN_int.f a0).bind fun t536=>(if t536=true then ((cmp_isNaN_int.f a1).bind fun t537=>(if t537=true then (some (decide (a0<a1))) else (some true))) else (some (decide (a0<a1)))))=some r:=h
 clear h
 replace H:=bzS H
 obtain ⟨t536,A30,H⟩:=H
 replace H:(if t536=true then ((cmp_isNaN_int.f a1).bind fun t537=>(if t537=true then (some (decide (a0<a1))) else (some true))) else (some (decide (a0<a1))))=some r:=H
 have A3:=am A30
 clear A30
 by_cases c4:t536=true
 ·subst c4
  have H1:((cmp_isNaN_int.f a1).bind fun t537=>(if t537=true then (some (decide (a0<a1))) else (some true)))=some r:=by rw [if_pos rfl] at H;exact H
  clear H
  have H:=H1
  clear H1
  replace H:=bzS H
  obtain ⟨t537,A50,H⟩:=H
  replace H:(if t537=true then (some (decide (a0<a1))) else (some true))=some r:=H
  have A5:=am A50
  clear A50
  by_cases c6:t537=true
  ·subst c6
   have H1:(some (decide (a0<a1)))=some r:=by rw [if_pos rfl] at H;exact H
   clear H
   have H:=H1
   clear H1
   obtain rfl:=Option.some.inj H
   go_enter Try.func130,Try.ntmps130
   go_wp2_with (first |((with_reducible refine jo (f:=140) rfl ?_);refine gL (some 6) Try.func140 #[.int .i64 a0] ?_;(with_reducible refine (cmp_isNaN_int.calls a0 true _ A3.out).mono ?_);rintro e w' ⟨rfl,⟨nd,rfl⟩⟩;refine ⟨_,rfl,?_⟩) |(go_at_call 140;(with_reducible refine (cmp_isNaN_int.calls a1 true _ A5.out).mono ?_);rintro e w' ⟨rfl,⟨nd,rfl⟩⟩))
   go_ret
   exact ⟨sq,Y4⟩
  ·replace c6:=Bool.eq_false_iff.mpr c6
   subst c6
   have H1:(some true)=some r:=by rw [if_neg (show ¬ (false=true) by decide)] at H;exact H
   clear H
   have H:=H1
   clear H1
   obtain rfl:=Option.some.inj H
   go_enter Try.func130,Try.ntmps130
   go_wp2_with (first |((with_reducible refine jo (f:=140) rfl ?_);refine gL (some 6) Try.func140 #[.int .i64 a0] ?_;(with_reducible refine (cmp_isNaN_int.calls a0 true _ A3.out).mono ?_);rintro e w' ⟨rfl,⟨nd,rfl⟩⟩;refine ⟨_,rfl,?_⟩) |(go_at_call 140;(with_reducible refine (cmp_isNaN_int.calls a1 false _ A5.out).mono ?_);rintro e w' ⟨rfl,⟨nd,rfl⟩⟩))
   go_ret
   exact ⟨sq,Y4⟩
 ·replace c4:=Bool.eq_false_iff.mpr c4
  subst c4
  have H1:(some (decide (a0<a1)))=some r:=by rw [if_neg (show ¬ (false=true) by decide)] at H;exact H
  clear H
  have H:=H1
  clear H1
  obtain rfl:=Option.some.inj H
  go_enter Try.func130,Try.ntmps130
  go_wp2_with (first |((with_reducible refine jo (f:=140) rfl ?_);refine gL (some 6) Try.func140 #[.int .i64 a0] ?_;(with_reducible refine (cmp_isNaN_int.calls a0 false _ A3.out).mono ?_);rintro e w' ⟨rfl,⟨nd,rfl⟩⟩;refine ⟨_,rfl,?_⟩))
  go_ret
  exact ⟨sq,Y4⟩
end Go.Proofs.Ytlhfcmbkjddgiaa.P
end
