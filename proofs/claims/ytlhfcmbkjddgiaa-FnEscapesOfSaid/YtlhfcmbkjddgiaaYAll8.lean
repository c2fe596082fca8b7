/- One part of the proofs on this program: functions of the program as plain functions, that the code comes to them, and facts on them. -/
import Derived.Deep.Cut
import Derived.Deep.RegionHeld3
import Derived.Lib.SliceRun
import Derived.Test.YtlhfcmbkjddgiaaYAll1
import Derived.Test.YtlhfcmbkjddgiaaYAll2
import Derived.Test.YtlhfcmbkjddgiaaYAll3
import Derived.Test.YtlhfcmbkjddgiaaYAll4
import Derived.Test.YtlhfcmbkjddgiaaYAll5
import Derived.Test.YtlhfcmbkjddgiaaYAll6
import Derived.Test.YtlhfcmbkjddgiaaYAll7
import Derived.Test.YtlhfcmbkjddgiaaYWAuto
section
namespace Go.Proofs.Ytlhfcmbkjddgiaa.P
open Go.RowKit Go.Proofs.YtlhfcmbkjddgiaaW.PrintWords Go.Proofs.YtlhfcmbkjddgiaaW.PrintLast Go.Proofs.YtlhfcmbkjddgiaaW.PrintMore
attribute [local go_sem] jX jV jka jja jN jM jW jU jh
set_option linter.unusedVariables false
set_option linter.unusedSimpArgs false
attribute [local go_sem high] eqA50
mutual
def jm.j0 : Nat → List (S44) → List Int → Bool → List (S106) → Option (Bool)
 | 0,_,_,_,_=>none
 | k+1,x4,x5,x35,x685000=>if x35=true then ((jY.f k x685000 x4).bind fun t693=>((jla.f k x5 t693).bind fun t696=>(some t696))) else (jm.l0 k x4 x5 0 x685000)
def jm.l0 : Nat → List (S44) → List Int → Int → List (S106) → Option (Bool)
 | 0,_,_,_,_=>none
 | k+1,x4,x5,x6,x685000=>if x6<(x5.length:Int) then (if 0≤x6 then ((jtb.f k x685000 x4 true (rd x5 x6) 0).bind fun bt700=>((jCb.f k x685000 bt700.1 bt700.2.1 bt700.2.2.1 bt700.2.2.2).bind fun bt709=>(if bt709.2.2.2=true then (if (!bt709.1 ||(!(bt709.2.1 == (rd x5 x6)) ||(!(bt709.2.2.1 == 0))))=true then (jm.j2 k x4 x5 x6 true x685000) else (jm.j2 k x4 x5 x6 ((bt700.2.2.2.length:Int) != 1) x685000)) else (jm.j2 k x4 x5 x6 true x685000)))) else (none)) else ((jLa.f k x5).bind fun t697=>(some t697))
def jm.j2 : Nat → List (S44) → List Int → Int → Bool → List (S106) → Option (Bool)
 | 0,_,_,_,_,_=>none
 | k+1,x4,x5,x6,x75,x685000=>if x75=true then (some false) else (if 0≤x6 then (if x6<(x5.length:Int) then ((jDb.f k x685000 (rd x5 x6)).bind fun t715=>(jm.l1 k x4 x5 x6 t715 0 x685000)) else (none)) else (none))
def jm.l1 : Nat → List (S44) → List Int → Int → List Int → Int → List (S106) → Option (Bool)
 | 0,_,_,_,_,_,_=>none
 | k+1,x4,x5,x6,x11,x12,x685000=>if x12<(x11.length:Int) then (if 0≤x12 then ((jkb.f k x5 (rd x11 x12)).bind fun t719=>(if t719=true then (jm.l1 k x4 x5 x6 x11 (wrap64 (x12+1)) x685000) else (some false))) else (none)) else (jm.l0 k x4 x5 (wrap64 (x6+1)) x685000)
end
def jm.f (k : Nat) (l0 : List Int) : Option (Bool) := if (l0.length : Int) > 1048576 then (some true) else ((jZa.f k l0).bind fun bt678 => ((jfb.f k bt678.1 bt678.2).bind fun t685 => ((jY.f k bt678.1 bt678.2).bind fun t688 => ((jla.f k t685 t688).bind fun t691 => (if t691 = true then ((jCa.f k bt678.1 bt678.2).bind fun t692 => (jm.j0 k bt678.2 t685 (!t692) bt678.1)) else (jm.j0 k bt678.2 t685 true bt678.1))))))
set_option maxHeartbeats 8000000 in
set_option maxRecDepth 100000 in
theorem jm.calls (k : Nat) (A0 : Option Addr) (c0 : Nat) (l0 : List Int) (r : Bool) (w : World) (hr0 : Kd.C (Kd.int .u8) w A0 l0.length l0) (hc0 : l0.length ≤ c0) (hT : r = true) (h : jm.f k l0 = some r) :
  Calls Try.prog 5 #[.slice A0 l0.length c0] w fun e w'=>e=.returned (.bool r)∧Below w.heap.size w w':=by
 have hu31:=Try.underlying31
 have hu50:=Try.underlying50
 have hu55:=Try.underlying55
 have HR0:=am hr0
 have HC0:=am hc0
 clear hr0 hc0
 have HB:=am (Below.refl w.heap.size w)
 have H:(if (l0.length:Int) > 1048576 then (some true) else ((jZa.f k l0).bind fun bt678=>((jfb.f k bt678.1 bt678.2).bind fun t685=>((jY.f k bt678.1 bt678.2).bind fun t688=>((jla.f k t685 t688).bind fun t691=>(if t691=true then ((jCa.f k bt678.1 bt678.2).bind fun t692=>(jm.j0 k bt678.2 t685 (!t692) bt678.1)) else (jm.j0 k bt678.2 t685 true bt678.1)))))))=some r:=h
 clear h
 by_cases c2:(l0.length:Int) > 1048576
 ·rw [if_pos c2] at H
  have c2b0:decide (1048576<(l0.length:Int))=true:=dzT c2
  have c2b1:decide (1048576<l0.length)=true:=dzT (by omega)
  clear c2
  obtain rfl:=Option.some.inj H
  go_enter Try.func5,Try.ntmps5
  go_wp2
  go_ret
  exact ⟨Y0,bq⟩
 ·rw [if_neg c2] at H
  have c2b0:decide (1048576<(l0.length:Int))=false:=dzF c2
  have c2b1:decide (1048576<l0.length)=false:=dzF (by omega)
  clear c2
  replace H:=bzS H
  obtain ⟨⟨t678,t681⟩,A30,H⟩:=H
  replace H:((jfb.f k t678 t681).bind fun t685=>((jY.f k t678 t681).bind fun t688=>((jla.f k t685 t688).bind fun t691=>(if t691=true then ((jCa.f k t678 t681).bind fun t692=>(jm.j0 k t681 t685 (!t692) t678)) else (jm.j0 k t681 t685 true t678)))))=some r:=H
  have A3:=am A30
  clear A30
  replace H:=bzS H
  obtain ⟨t685,A40,H⟩:=H
  replace H:((jY.f k t678 t681).bind fun t688=>((jla.f k t685 t688).bind fun t691=>(if t691=true then ((jCa.f k t678 t681).bind fun t692=>(jm.j0 k t681 t685 (!t692) t678)) else (jm.j0 k t681 t685 true t678))))=some r:=H
  have A4:=am A40
  clear A40
  have HC5:=am H
  clear H
  go_enter Try.func5,Try.ntmps5
  go_upto_region 5 with (first |((with_reducible refine jo (f:=20) rfl ?_);refine gL (some 18) Try.func20 #[.slice A0 l0.length c0] ?_;(with_reducible refine (jZa.calls k _ _ l0 t678 t681 _ ?side1 ?side2 A3.out).mono ?_);(case side1=>exact Y96);(case side2=>exact HC0.out);rintro e w6 ⟨v679,v682,rfl,ho0,ho1,hb⟩;refine ⟨_,rfl,?_⟩;have HO680:=am (Kd.jpa ho0 (jba (bq)));have HO683:=am (Kd.jpa ho1 (jba (bq)));replace HB:=am (jg (bq) hb);(try clear hb);(try clear hb2);(try clear hk);(try clear hi);(try clear ho0);(try clear ho1)) |((with_reducible refine jG (N:=3) rfl ?_);(try (refine jJa (by rfl) ?_;dsimp only));refine jUa ?hg (N:=3) ?hd (cs:=#[.slice none 0 0]) (t:=31) ?hr ?_;(case hd=>rfl);(case hg=>rfl);(case hr=>exact Y3);intro gb684 hg w7 hbox hb;have BK684:=am (hbox);have GW684:=am ((Y2:w.heap.size≤gb684));have GE684:=am ((Y2:w.heap.size≤gb684));replace HO680:=am (Kd.jaa (rq HO680.out) hb);replace HO683:=am (Kd.jaa (rq HO683.out) hb);replace HB:=am (jg (bq) hb);clear hb hbox hg;obtain ⟨Ao8,co8,eo8⟩:=Kd.jga HO680.out;subst eo8;have hcz9_0:=bc0 BK684.out;have hfz9_0:=ja BK684.out 0;obtain ⟨Ao10,co10,eo10⟩:=Kd.jga HO683.out;subst eo10) |((with_reducible refine jo (f:=19) rfl ?_);refine gL (some 23) Try.func19 #[.agg #[.slice Ao8 t678.length co8], .slice Ao10 t681.length co10] ?_;(with_reducible refine (jfb.calls k _ _ t678 _ _ t681 t685 _ ?side1 ?side2 ?side3 ?side4 A4.out).mono ?_);(case side1=>refine (Kd.jC (e:=106) (base:=w.heap.size) (ok:=fun k_=>True) (n:=t678.length) (c:=co8) ?_).2.2;exact (Y123));(case side2=>exact (Kd.jC HO680.out).2.1);(case side3=>refine (Kd.jC (e:=44) (base:=w.heap.size) (ok:=fun k_=>True) (n:=t681.length) (c:=co10) ?_).2.2;exact (Y124));(case side4=>exact (Kd.jC HO683.out).2.1);rintro e w11 ⟨v686,rfl,ho0,hb⟩;refine ⟨_,rfl,?_⟩;have HO687:=am (Kd.jpa ho0 (jba (Y18)));replace HO680:=am (Kd.jaa (Y123) hb);replace HO683:=am (Kd.jaa (Y124) hb);replace BK684:=am (jc (g:=gb684) (o:=.cells #[.slice Ao8 t678.length co8] 31 (0,0)) (by (with_reducible repeat (first | refine jd ?_ _ | refine jf ?_ | refine jb ?_ _));refine jS (cs:=#[.slice none 0 0]) ?_ 0 _ rfl;(with_reducible repeat (first | refine jd ?_ _ | refine jf ?_ | refine jb ?_ _));exact BK684.out) hb);replace HB:=am (jg (Y18) hb);(try clear hb);(try clear hb2);(try clear hk);(try clear hi);(try clear ho0)))
  (try simp only [Act.put,List.setIfInBounds_toArray,List.set_cons_zero,List.set_cons_succ])
  go_cut [35] (fun v35 wc=>∃ (kq:Nat) (x35_4:Bool),v35=.bool x35_4∧jE (jm.j0 kq t681 t685 x35_4 t678=some r)∧jE (kq≤k)∧jE (Kd.R k44 44 wc w.heap.size (fun _=>True) (.slice Ao10 t681.length co10) t681)∧jE (Kd.R (Kd.int .i64) 3 wc w.heap.size (fun _=>True) v686 t685)∧jE (Kd.R k106 106 wc w.heap.size (fun _=>True) (.slice Ao8 t678.length co8) t678)∧jE (wc.heap[gb684]?=some (.cells #[(.slice Ao8 t678.length co8)] 31 (0,0)))∧jE (Below w.heap.size w wc))
  case first =>
   have H:=HC5.out
   clear HC5
   replace H:=bzS H
   obtain ⟨t688,A120,H⟩:=H
   replace H:((jla.f k t685 t688).bind fun t691=>(if t691=true then ((jCa.f k t678 t681).bind fun t692=>(jm.j0 k t681 t685 (!t692) t678)) else (jm.j0 k t681 t685 true t678)))=some r:=H
   have A12:=am A120
   clear A120
   replace H:=bzS H
   obtain ⟨t691,A130,H⟩:=H
   replace H:(if t691=true then ((jCa.f k t678 t681).bind fun t692=>(jm.j0 k t681 t685 (!t692) t678)) else (jm.j0 k t681 t685 true t678))=some r:=H
   have A13:=am A130
   clear A130
   by_cases c14:t691=true
   ·subst c14
    have H1:((jCa.f k t678 t681).bind fun t692=>(jm.j0 k t681 t685 (!t692) t678))=some r:=by rw [if_pos rfl] at H;exact H
    clear H
    have H:=H1
    clear H1
    replace H:=bzS H
    obtain ⟨t692,A150,H⟩:=H
    replace H:(jm.j0 k t681 t685 (!t692) t678)=some r:=H
    have A15:=am A150
    clear A150
    have H':=am H
    clear H
    have hcz16_0:=bc0 BK684.out
    have hfz16_0:=ja BK684.out 0
    go_wp2_with (first |((with_reducible refine jo (f:=22) rfl ?_);refine gL (some 27) Try.func22 #[.agg #[.slice Ao8 t678.length co8], .slice Ao10 t681.length co10] ?_;(with_reducible refine (jY.calls k _ _ t678 _ _ t681 t688 _ ?side1 ?side2 ?side3 ?side4 A12.out).mono ?_);(case side1=>exact cq (Kd.jC HO680.out).2.2);(case side2=>exact (Kd.jC HO680.out).2.1);(case side3=>exact cq (Kd.jC HO683.out).2.2);(case side4=>exact (Kd.jC HO683.out).2.1);rintro e w17 ⟨v689,rfl,ho0,hb⟩;refine ⟨_,rfl,?_⟩;have HO690:=am (Kd.jpa (Kd.R_new' ho0 (Kd.R_lt (rq HO687.out))) (jba (Y18)));replace HO680:=am (Kd.jaa (rq HO680.out) hb);replace HO683:=am (Kd.jaa (rq HO683.out) hb);replace HO687:=am (Kd.jwc (rq HO687.out) (Kd.R_base ho0) hb);replace BK684:=am (jc (g:=gb684) (o:=.cells #[.slice Ao8 t678.length co8] 31 (0,0)) (kq BK684.out) hb);replace HB:=am (jg (Y18) hb);(try clear hb);(try clear hb2);(try clear hk);(try clear hi);(try clear ho0);obtain ⟨Ao18,co18,eo18⟩:=Kd.jga HO687.out;subst eo18;obtain ⟨Ao19,co19,eo19⟩:=Kd.jga HO690.out;subst eo19) |((with_reducible refine jo (f:=21) rfl ?_);refine gL (some 28) Try.func21 #[.slice Ao18 t685.length co18, .slice Ao19 t688.length co19] ?_;(with_reducible refine (jla.calls k _ _ t685 _ _ t688 true _ ?side1 ?side2 ?side3 ?side4 A13.out).mono ?_);(case side1=>exact cq (Kd.jC HO687.out).2.2);(case side2=>exact (Kd.jC HO687.out).2.1);(case side3=>exact cq (Kd.jC HO690.out).2.2);(case side4=>exact (Kd.jC HO690.out).2.1);rintro e w' ⟨rfl,⟨nd,rfl⟩⟩;refine ⟨_,rfl,?_⟩;have hcz20_0:=bc0 BK684.out;have hfz20_0:=ja BK684.out 0) |(go_at_call 17;(with_reducible refine (jCa.calls k _ _ t678 _ _ t681 t692 _ ?side1 ?side2 ?side3 ?side4 A15.out).mono ?_);(case side1=>exact cq (Kd.jC HO680.out).2.2);(case side2=>exact (Kd.jC HO680.out).2.1);(case side3=>exact cq (Kd.jC HO683.out).2.2);(case side4=>exact (Kd.jC HO683.out).2.1);rintro e w21 ⟨rfl,hb⟩;replace HO680:=am (Kd.jaa (rq HO680.out) hb);replace HO683:=am (Kd.jaa (rq HO683.out) hb);replace HO687:=am (Kd.jaa (rq HO687.out) hb);replace HO690:=am (Kd.jaa (rq HO690.out) hb);replace BK684:=am (jc (g:=gb684) (o:=.cells #[.slice Ao8 t678.length co8] 31 (0,0)) (kq BK684.out) hb);replace HB:=am (jg (Y18) hb);(try clear hb);(try clear hb2);(try clear hk);(try clear hi)))
    go_meet
    case rel=>exact ⟨_,(!t692),(sq),H',⟨Y34⟩,⟨rq HO683.out⟩,⟨by (with_reducible repeat (first | apply Kd.jda | apply Kd.jfa | apply Kd.jma));exact Kd.jJ HO687.out (fun _ hk=>trivial)⟩,⟨rq HO680.out⟩,⟨kq BK684.out⟩,⟨Y18⟩⟩
   ·replace c14:=Bool.eq_false_iff.mpr c14
    subst c14
    have H1:(jm.j0 k t681 t685 true t678)=some r:=by rw [if_neg (show ¬ (false=true) by decide)] at H;exact H
    clear H
    have H:=H1
    clear H1
    have H':=am H
    clear H
    have hcz22_0:=bc0 BK684.out
    have hfz22_0:=ja BK684.out 0
    go_wp2_with (first |((with_reducible refine jo (f:=22) rfl ?_);refine gL (some 27) Try.func22 #[.agg #[.slice Ao8 t678.length co8], .slice Ao10 t681.length co10] ?_;(with_reducible refine (jY.calls k _ _ t678 _ _ t681 t688 _ ?side1 ?side2 ?side3 ?side4 A12.out).mono ?_);(case side1=>exact cq (Kd.jC HO680.out).2.2);(case side2=>exact (Kd.jC HO680.out).2.1);(case side3=>exact cq (Kd.jC HO683.out).2.2);(case side4=>exact (Kd.jC HO683.out).2.1);rintro e w23 ⟨v689,rfl,ho0,hb⟩;refine ⟨_,rfl,?_⟩;have HO690:=am (Kd.jpa (Kd.R_new' ho0 (Kd.R_lt (rq HO687.out))) (jba (Y18)));replace HO680:=am (Kd.jaa (rq HO680.out) hb);replace HO683:=am (Kd.jaa (rq HO683.out) hb);replace HO687:=am (Kd.jwc (rq HO687.out) (Kd.R_base ho0) hb);replace BK684:=am (jc (g:=gb684) (o:=.cells #[.slice Ao8 t678.length co8] 31 (0,0)) (kq BK684.out) hb);replace HB:=am (jg (Y18) hb);(try clear hb);(try clear hb2);(try clear hk);(try clear hi);(try clear ho0);obtain ⟨Ao24,co24,eo24⟩:=Kd.jga HO687.out;subst eo24;obtain ⟨Ao25,co25,eo25⟩:=Kd.jga HO690.out;subst eo25) |((with_reducible refine jo (f:=21) rfl ?_);refine gL (some 28) Try.func21 #[.slice Ao24 t685.length co24, .slice Ao25 t688.length co25] ?_;(with_reducible refine (jla.calls k _ _ t685 _ _ t688 false _ ?side1 ?side2 ?side3 ?side4 A13.out).mono ?_);(case side1=>exact cq (Kd.jC HO687.out).2.2);(case side2=>exact (Kd.jC HO687.out).2.1);(case side3=>exact cq (Kd.jC HO690.out).2.2);(case side4=>exact (Kd.jC HO690.out).2.1);rintro e w' ⟨rfl,⟨nd,rfl⟩⟩;refine ⟨_,rfl,?_⟩))
    go_meet
    case rel=>exact ⟨_,(true),(sq),H',⟨Y34⟩,⟨rq HO683.out⟩,⟨by (with_reducible repeat (first | apply Kd.jda | apply Kd.jfa | apply Kd.jma));exact Kd.jJ HO687.out (fun _ hk=>trivial)⟩,⟨rq HO680.out⟩,⟨kq BK684.out⟩,⟨Y18⟩⟩
  case rest =>
   clear HC5
   try clear c1
   try clear c2
   try clear c2b0
   try clear c2b1
   try clear p2
   try clear c5
   try clear c14
   try clear c19
   try clear c20
   try clear c21
   try clear c22
   try clear hcz16_0
   try clear hcz20_0
   try clear hcz22_0
   try clear hcz9_0
   try clear hfz16_0
   try clear hfz20_0
   try clear hfz22_0
   try clear hfz9_0
   obtain ⟨kq,x35_4,rfl,HA,HJ4,HO_4,HO_5,HO_685000,BK684,HB⟩:=hcut
   cases kq with
   | zero=>exact absurd HA.out (by simp [jm.j0])
   | succ kj4 =>
    have H:=HA.out
    clear HA
    simp only [jm.j0] at H
    by_cases c26:x35_4=true
    ·subst c26
     have H1:((jY.f kj4 t678 t681).bind fun t693=>((jla.f kj4 t685 t693).bind fun t696=>(some t696)))=some r:=by rw [if_pos rfl] at H;exact H
     clear H
     have H:=H1
     clear H1
     replace H:=bzS H
     obtain ⟨t693,A270,H⟩:=H
     replace H:((jla.f kj4 t685 t693).bind fun t696=>(some t696))=some r:=H
     have A27:=am A270
     clear A270
     replace H:=bzS H
     obtain ⟨t696,A280,H⟩:=H
     replace H:(some t696)=some r:=H
     have A28:=am A280
     clear A280
     obtain rfl:=Option.some.inj H
     have hcz29_0:=bc0 BK684.out
     have hfz29_0:=ja BK684.out 0
     go_wp2_with (first |((with_reducible refine jo (f:=22) rfl ?_);refine gL (some 39) Try.func22 #[.agg #[.slice Ao8 t678.length co8], .slice Ao10 t681.length co10] ?_;(with_reducible refine (jY.calls kj4 _ _ t678 _ _ t681 t693 _ ?side1 ?side2 ?side3 ?side4 A27.out).mono ?_);(case side1=>exact cq (Kd.jC HO_685000.out).2.2);(case side2=>exact (Kd.jC HO_685000.out).2.1);(case side3=>exact cq (Kd.jC HO_4.out).2.2);(case side4=>exact (Kd.jC HO_4.out).2.1);rintro e w30 ⟨v694,rfl,ho0,hb⟩;refine ⟨_,rfl,?_⟩;have HO695:=am (Kd.jpa (Kd.R_new' ho0 (Kd.R_lt (rq HO_5.out))) (jba (Y18)));replace HO_4:=am (Kd.jaa (rq HO_4.out) hb);replace HO_5:=am (Kd.jwc (rq HO_5.out) (Kd.R_base ho0) hb);replace HO_685000:=am (Kd.jaa (rq HO_685000.out) hb);replace BK684:=am (jc (g:=gb684) (o:=.cells #[.slice Ao8 t678.length co8] 31 (0,0)) (kq BK684.out) hb);replace HB:=am (jg (Y18) hb);(try clear hb);(try clear hb2);(try clear hk);(try clear hi);(try clear ho0);obtain ⟨Ao31,co31,eo31⟩:=Kd.jga HO_5.out;subst eo31;obtain ⟨Ao32,co32,eo32⟩:=Kd.jga HO695.out;subst eo32) |((with_reducible refine jo (f:=21) rfl ?_);refine gL (some 40) Try.func21 #[.slice Ao31 t685.length co31, .slice Ao32 t693.length co32] ?_;(with_reducible refine (jla.calls kj4 _ _ t685 _ _ t693 t696 _ ?side1 ?side2 ?side3 ?side4 A28.out).mono ?_);(case side1=>exact cq (Kd.jC HO_5.out).2.2);(case side2=>exact (Kd.jC HO_5.out).2.1);(case side3=>exact cq (Kd.jC HO695.out).2.2);(case side4=>exact (Kd.jC HO695.out).2.1);rintro e w' ⟨rfl,⟨nd,rfl⟩⟩;refine ⟨_,rfl,?_⟩))
     go_ret
     exact ⟨Y0,Y18⟩
    ·replace c26:=Bool.eq_false_iff.mpr c26
     subst c26
     have H1:(jm.l0 kj4 t681 t685 0 t678)=some r:=by rw [if_neg (show ¬ (false=true) by decide)] at H;exact H
     clear H
     have H:=H1
     clear H1
     have H':=am H
     clear H
     go_wp2
     go_loopg [6] kj4 (fun kq v6 w'=>∃ (x6_2:Int),v6=.int .i64 x6_2∧jE (jm.l0 kq t681 t685 x6_2 t678=some r)∧jE (kq≤kj4)∧jE (Kd.R k44 44 w' w.heap.size (fun _=>True) (.slice Ao10 t681.length co10) t681)∧jE (Kd.R (Kd.int .i64) 3 w' w.heap.size (fun _=>True) v686 t685)∧jE (Kd.R k106 106 w' w.heap.size (fun _=>True) (.slice Ao8 t678.length co8) t678)∧jE (w'.heap[gb684]?=some (.cells #[(.slice Ao8 t678.length co8)] 31 (0,0)))∧jE (Below w.heap.size w w'))
     case atStart=>exact ⟨(0),(sq),H',⟨Nat.le_refl _⟩,⟨rq HO_4.out⟩,⟨rq HO_5.out⟩,⟨rq HO_685000.out⟩,⟨kq BK684.out⟩,⟨Y18⟩⟩
     case round =>
      clear H'
      try clear c1
      try clear c2
      try clear c2b0
      try clear c2b1
      try clear p2
      try clear c5
      try clear c14
      try clear c19
      try clear c20
      try clear c21
      try clear c22
      try clear c26
      try clear hcz16_0
      try clear hcz20_0
      try clear hcz22_0
      try clear hcz29_0
      try clear hcz9_0
      try clear hfz16_0
      try clear hfz20_0
      try clear hfz22_0
      try clear hfz29_0
      try clear hfz9_0
      try clear p2
      obtain ⟨x6_2,rfl,HA,HK2,HO_4,HO_5,HO_685000,BK684,HB⟩:=hrel
      cases gk with
      | zero=>exact absurd HA.out (by simp [jm.l0])
      | succ k2 =>
       have H:=HA.out
       clear HA
       simp only [jm.l0] at H
       by_cases c33:x6_2<(t685.length:Int)
       ·rw [if_pos c33] at H
        have c33b0:decide (x6_2<(t685.length:Int))=true:=dzT c33
        clear c33
        by_cases c34:0≤x6_2
        ·rw [if_pos c34] at H
         have c34b0:decide (0≤x6_2)=true:=dzT c34
         clear c34
         replace H:=bzS H
         obtain ⟨⟨t700,t703,t704,t705⟩,A350,H⟩:=H
         replace H:((jCb.f k2 t678 t700 t703 t704 t705).bind fun bt709=>(if bt709.2.2.2=true then (if (!bt709.1 ||(!(bt709.2.1 == (rd t685 x6_2)) ||(!(bt709.2.2.1 == 0))))=true then (jm.j2 k2 t681 t685 x6_2 true t678) else (jm.j2 k2 t681 t685 x6_2 ((t705.length:Int) != 1) t678)) else (jm.j2 k2 t681 t685 x6_2 true t678)))=some r:=H
         have A35:=am A350
         clear A350
         replace H:=bzS H
         obtain ⟨⟨t709,t710,t711,t712⟩,A360,H⟩:=H
         replace H:(if t712=true then (if (!t709 ||(!(t710 == (rd t685 x6_2)) ||(!(t711 == 0))))=true then (jm.j2 k2 t681 t685 x6_2 true t678) else (jm.j2 k2 t681 t685 x6_2 ((t705.length:Int) != 1) t678)) else (jm.j2 k2 t681 t685 x6_2 true t678))=some r:=H
         have A36:=am A360
         clear A360
         have HC37:=am H
         clear H
         obtain ⟨Ao38,co38,eo38⟩:=Kd.jga HO_5.out
         subst eo38
         have p698:0≤(x6_2:Int):=ozD (uq)
         have q698:x6_2<(t685.length:Int):=ozD (uq)
         obtain ⟨ad698,e698,hx698_0⟩:=Kd.jsb (Kd.jC HO_5.out).2.2 x6_2 p698 q698
         cases e698
         replace p698:=ezT p698
         replace q698:=ezT q698
         go_upto_region 13 with (first |((with_reducible refine jG (N:=7) rfl ?_);(try (refine jJa (by rfl) ?_;dsimp only));refine jUa ?hg (N:=7) ?hd (cs:=#[.bool false, .int .i64 0, .int .i64 0]) (t:=50) ?hr ?_;(case hd=>rfl);(case hg=>rfl);(case hr=>exact Y3);intro gb699 hg w39 hbox hb;have BK699:=am (hbox);have GW699:=am ((Y125:w.heap.size≤gb699));have GE699:=am ((Y125:w.heap.size≤gb699));have NB684_699:=am ((Y91:gb684≠gb699));have NB699_684:=am ((Y92:gb699≠gb684));replace HO_4:=am (Kd.jaa (rq HO_4.out) hb);replace HO_5:=am (Kd.jaa (rq HO_5.out) hb);replace HO_685000:=am (Kd.jaa (rq HO_685000.out) hb);replace BK684:=am (jc (g:=gb684) (o:=.cells #[.slice Ao8 t678.length co8] 31 (0,0)) (kq BK684.out) hb);replace HB:=am (jg (Y18) hb);clear hb hbox hg;have hnb40:=NB699_684.out;have hnc40:=NB684_699.out;have hcz41_0:=bc0 BK699.out;have hcz41_1:=bc1 BK699.out;have hcz41_2:=bc2 BK699.out;have hfz41_0:=ja BK699.out 0;have hfz41_1:=ja BK699.out 1;have hfz41_2:=ja BK699.out 2;have hcz42_0:=bc0 BK684.out;have hfz42_0:=ja BK684.out 0) |((with_reducible refine jo (f:=23) rfl ?_);refine gL (some 55) Try.func23 #[.agg #[.slice Ao8 t678.length co8], .slice Ao10 t681.length co10, .agg #[.bool true, .int .i64 (rd t685 x6_2), .int .i64 0]] ?_;(with_reducible refine (jtb.calls k2 _ _ t678 _ _ t681 true (rd t685 x6_2) 0 t700 t703 t704 t705 _ ?side1 ?side2 ?side3 ?side4 A35.out).mono ?_);(case side1=>refine (Kd.jC (e:=106) (base:=w.heap.size) (ok:=fun k_=>True) (n:=t678.length) (c:=co8) ?_).2.2;exact (Y126));(case side2=>exact (Kd.jC HO_685000.out).2.1);(case side3=>refine (Kd.jC (e:=44) (base:=w.heap.size) (ok:=fun k_=>True) (n:=t681.length) (c:=co10) ?_).2.2;exact (Y127));(case side4=>exact (Kd.jC HO_4.out).2.1);rintro e w43 ⟨v701,v706,rfl,ho0,ho1,hb⟩;refine ⟨_,rfl,?_⟩;have HO702:=am (Kd.jpa (Kd.R_new' ho0 (Kd.R_lt (Y128))) (jba (Y80)));have HO707:=am (Kd.jpa ho1 (jba (Y80)));replace HO_4:=am (Kd.jaa (Y127) hb);replace HO_5:=am (Kd.jwc (Y128) (Kd.R_base ho0) hb);replace HO_685000:=am (Kd.jaa (Y126) hb);replace BK684:=am (jc (g:=gb684) (o:=.cells #[.slice Ao8 t678.length co8] 31 (0,0)) (by (with_reducible repeat (first | refine jd ?_ _ | refine jf ?_ | refine jb ?_ _));refine jT ?_ NB684_699.out _;(with_reducible repeat (first | refine jd ?_ _ | refine jf ?_ | refine jb ?_ _));refine jT ?_ NB684_699.out _;(with_reducible repeat (first | refine jd ?_ _ | refine jf ?_ | refine jb ?_ _));refine jT ?_ NB684_699.out _;(with_reducible repeat (first | refine jd ?_ _ | refine jf ?_ | refine jb ?_ _));exact BK684.out) hb);replace BK699:=am (jc (g:=gb699) (o:=.cells #[.bool true, .int .i64 (rd t685 x6_2), .int .i64 0] 50 (0,0)) (by (with_reducible repeat (first | refine jd ?_ _ | refine jf ?_ | refine jb ?_ _));refine jS (cs:=#[.bool true, .int .i64 (rd t685 x6_2), .int .i64 0]) ?_ 2 _ rfl;(with_reducible repeat (first | refine jd ?_ _ | refine jf ?_ | refine jb ?_ _));refine jS (cs:=#[.bool true, .int .i64 0, .int .i64 0]) ?_ 1 _ rfl;(with_reducible repeat (first | refine jd ?_ _ | refine jf ?_ | refine jb ?_ _));refine jS (cs:=#[.bool false, .int .i64 0, .int .i64 0]) ?_ 0 _ rfl;(with_reducible repeat (first | refine jd ?_ _ | refine jf ?_ | refine jb ?_ _));exact BK699.out) hb);replace HB:=am (jg (Y80) hb);(try clear hb);(try clear hb2);(try clear hk);(try clear hi);(try clear ho0);(try clear ho1)) |((with_reducible refine jG (N:=8) rfl ?_);(try (refine jJa (by rfl) ?_;dsimp only));refine jUa ?hg (N:=8) ?hd (cs:=#[.slice none 0 0, .int .i64 0, .int .i64 0, .slice none 0 0]) (t:=55) ?hr ?_;(case hd=>rfl);(case hg=>rfl);(case hr=>exact Y3);intro gb708 hg w44 hbox hb;have BK708:=am (hbox);have GW708:=am ((Y129:w.heap.size≤gb708));have GE708:=am ((Y129:w.heap.size≤gb708));have NB684_708:=am ((Y91:gb684≠gb708));have NB708_684:=am ((Y92:gb708≠gb684));have NB699_708:=am ((Y130:gb699≠gb708));have NB708_699:=am ((Y131:gb708≠gb699));replace HO_4:=am (Kd.jaa (rq HO_4.out) hb);replace HO_5:=am (Kd.jaa (rq HO_5.out) hb);replace HO_685000:=am (Kd.jaa (rq HO_685000.out) hb);replace HO702:=am (Kd.jaa (rq HO702.out) hb);replace HO707:=am (Kd.jaa (rq HO707.out) hb);replace BK684:=am (jc (g:=gb684) (o:=.cells #[.slice Ao8 t678.length co8] 31 (0,0)) (kq BK684.out) hb);replace BK699:=am (jc (g:=gb699) (o:=.cells #[.bool true, .int .i64 (rd t685 x6_2), .int .i64 0] 50 (0,0)) (kq BK699.out) hb);replace HB:=am (jg (Y80) hb);clear hb hbox hg;obtain ⟨Ao45,co45,eo45⟩:=Kd.jga HO702.out;subst eo45;have hnb46:=NB708_684.out;have hnc46:=NB684_708.out;have hnb47:=NB708_699.out;have hnc47:=NB699_708.out;have hcz48_0:=bc0 BK708.out;have hcz48_1:=bc1 BK708.out;have hcz48_2:=bc2 BK708.out;have hcz48_3:=bc3 BK708.out;have hfz48_0:=ja BK708.out 0;have hfz48_1:=ja BK708.out 1;have hfz48_2:=ja BK708.out 2;have hfz48_3:=ja BK708.out 3;obtain ⟨Ao49,co49,eo49⟩:=Kd.jga HO707.out;subst eo49;have hcz50_0:=bc0 BK684.out;have hfz50_0:=ja BK684.out 0) |((with_reducible refine jo (f:=24) rfl ?_);refine gL (some 59) Try.func24 #[.agg #[.slice Ao8 t678.length co8], .agg #[.slice Ao45 t700.length co45, .int .i64 t703, .int .i64 t704, .slice Ao49 t705.length co49]] ?_;(with_reducible refine (jCb.calls k2 _ _ t678 _ _ t700 t703 t704 _ _ t705 t709 t710 t711 t712 _ ?side1 ?side2 ?side3 ?side4 ?side5 ?side6 A36.out).mono ?_);(case side1=>refine (Kd.jC (e:=106) (base:=w.heap.size) (ok:=fun k_=>True) (n:=t678.length) (c:=co8) ?_).2.2;exact (Y132));(case side2=>exact (Kd.jC HO_685000.out).2.1);(case side3=>refine (Kd.jC (e:=3) (base:=w.heap.size) (ok:=fun k_=>(True∧some k_≠(.slice (some ad698) t685.length co38:Value).ownBlock)) (n:=t700.length) (c:=co45) ?_).2.2;exact (Y133));(case side4=>exact (Kd.jC HO702.out).2.1);(case side5=>refine (Kd.jC (e:=90) (base:=w.heap.size) (ok:=fun k_=>True) (n:=t705.length) (c:=co49) ?_).2.2;exact (Y134));(case side6=>exact (Kd.jC HO707.out).2.1);rintro e w51 ⟨rfl,hb⟩;refine ⟨_,rfl,?_⟩;replace HO_4:=am (Kd.jaa (by (with_reducible repeat (first | apply Kd.jda | apply Kd.jfa | apply Kd.jma));exact (Kd.jJ (Kd.joa (p:=⟨gb708,3,none⟩) (Kd.joa (p:=⟨gb708,2,none⟩) (Kd.joa (p:=⟨gb708,1,none⟩) (Kd.joa (p:=⟨gb708,0,none⟩) (Kd.jna HO_4.out BK708.out (by decide)) (fun _ hk=>hk.2) (.slice Ao45 t700.length co45)) (fun _ hk=>hk.2) (.int .i64 t703)) (fun _ hk=>hk.2) (.int .i64 t704)) (fun _ hk=>hk.2) (.slice Ao49 t705.length co49)) (fun _ h_=>h_.1))) hb);replace HO_5:=am (Kd.jaa (by (with_reducible repeat (first | apply Kd.jda | apply Kd.jfa | apply Kd.jma));exact (Kd.jJ (Kd.joa (p:=⟨gb708,3,none⟩) (Kd.joa (p:=⟨gb708,2,none⟩) (Kd.joa (p:=⟨gb708,1,none⟩) (Kd.joa (p:=⟨gb708,0,none⟩) (Kd.jna HO_5.out BK708.out (by decide)) (fun _ hk=>hk.2) (.slice Ao45 t700.length co45)) (fun _ hk=>hk.2) (.int .i64 t703)) (fun _ hk=>hk.2) (.int .i64 t704)) (fun _ hk=>hk.2) (.slice Ao49 t705.length co49)) (fun _ h_=>h_.1))) hb);replace HO_685000:=am (Kd.jaa (Y132) hb);replace HO702:=am (Kd.jaa (Y133) hb);replace HO707:=am (Kd.jaa (Y134) hb);replace BK684:=am (jc (g:=gb684) (o:=.cells #[.slice Ao8 t678.length co8] 31 (0,0)) (by (with_reducible repeat (first | refine jd ?_ _ | refine jf ?_ | refine jb ?_ _));refine jT ?_ NB684_708.out _;(with_reducible repeat (first | refine jd ?_ _ | refine jf ?_ | refine jb ?_ _));refine jT ?_ NB684_708.out _;(with_reducible repeat (first | refine jd ?_ _ | refine jf ?_ | refine jb ?_ _));refine jT ?_ NB684_708.out _;(with_reducible repeat (first | refine jd ?_ _ | refine jf ?_ | refine jb ?_ _));refine jT ?_ NB684_708.out _;(with_reducible repeat (first | refine jd ?_ _ | refine jf ?_ | refine jb ?_ _));exact BK684.out) hb);replace BK699:=am (jc (g:=gb699) (o:=.cells #[.bool true, .int .i64 (rd t685 x6_2), .int .i64 0] 50 (0,0)) (by (with_reducible repeat (first | refine jd ?_ _ | refine jf ?_ | refine jb ?_ _));refine jT ?_ NB699_708.out _;(with_reducible repeat (first | refine jd ?_ _ | refine jf ?_ | refine jb ?_ _));refine jT ?_ NB699_708.out _;(with_reducible repeat (first | refine jd ?_ _ | refine jf ?_ | refine jb ?_ _));refine jT ?_ NB699_708.out _;(with_reducible repeat (first | refine jd ?_ _ | refine jf ?_ | refine jb ?_ _));refine jT ?_ NB699_708.out _;(with_reducible repeat (first | refine jd ?_ _ | refine jf ?_ | refine jb ?_ _));exact BK699.out) hb);replace BK708:=am (jc (g:=gb708) (o:=.cells #[.slice Ao45 t700.length co45, .int .i64 t703, .int .i64 t704, .slice Ao49 t705.length co49] 55 (0,0)) (by (with_reducible repeat (first | refine jd ?_ _ | refine jf ?_ | refine jb ?_ _));refine jS (cs:=#[.slice Ao45 t700.length co45, .int .i64 t703, .int .i64 t704, .slice none 0 0]) ?_ 3 _ rfl;(with_reducible repeat (first | refine jd ?_ _ | refine jf ?_ | refine jb ?_ _));refine jS (cs:=#[.slice Ao45 t700.length co45, .int .i64 t703, .int .i64 0, .slice none 0 0]) ?_ 2 _ rfl;(with_reducible repeat (first | refine jd ?_ _ | refine jf ?_ | refine jb ?_ _));refine jS (cs:=#[.slice Ao45 t700.length co45, .int .i64 0, .int .i64 0, .slice none 0 0]) ?_ 1 _ rfl;(with_reducible repeat (first | refine jd ?_ _ | refine jf ?_ | refine jb ?_ _));refine jS (cs:=#[.slice none 0 0, .int .i64 0, .int .i64 0, .slice none 0 0]) ?_ 0 _ rfl;(with_reducible repeat (first | refine jd ?_ _ | refine jf ?_ | refine jb ?_ _));exact BK708.out) hb);replace HB:=am (jg (Y135) hb);(try clear hb);(try clear hb2);(try clear hk);(try clear hi)) |((with_reducible refine jG (N:=9) rfl ?_);(try (refine jJa (by rfl) ?_;dsimp only));refine jUa ?hg (N:=9) ?hd (cs:=#[.bool false, .int .i64 0, .int .i64 0]) (t:=50) ?hr ?_;(case hd=>rfl);(case hg=>rfl);(case hr=>exact Y3);intro gb713 hg w52 hbox hb;have BK713:=am (hbox);have GW713:=am ((Y136:w.heap.size≤gb713));have GE713:=am ((Y136:w.heap.size≤gb713));have NB684_713:=am ((Y91:gb684≠gb713));have NB713_684:=am ((Y92:gb713≠gb684));have NB699_713:=am ((Y130:gb699≠gb713));have NB713_699:=am ((Y131:gb713≠gb699));have NB708_713:=am ((by rw [hg];exact Nat.ne_of_lt (jva (g:=gb708) (o:=.cells #[.slice Ao45 t700.length co45, .int .i64 t703, .int .i64 t704, .slice Ao49 t705.length co49] 55 (0,0)) (kq BK708.out)):gb708≠gb713));have NB713_708:=am ((by rw [hg];exact Nat.ne_of_gt (jva (g:=gb708) (o:=.cells #[.slice Ao45 t700.length co45, .int .i64 t703, .int .i64 t704, .slice Ao49 t705.length co49] 55 (0,0)) (kq BK708.out)):gb713≠gb708));replace HO_4:=am (Kd.jaa (rq HO_4.out) hb);replace HO_5:=am (Kd.jaa (rq HO_5.out) hb);replace HO_685000:=am (Kd.jaa (rq HO_685000.out) hb);replace HO702:=am (Kd.jaa (rq HO702.out) hb);replace HO707:=am (Kd.jaa (rq HO707.out) hb);replace BK684:=am (jc (g:=gb684) (o:=.cells #[.slice Ao8 t678.length co8] 31 (0,0)) (kq BK684.out) hb);replace BK699:=am (jc (g:=gb699) (o:=.cells #[.bool true, .int .i64 (rd t685 x6_2), .int .i64 0] 50 (0,0)) (kq BK699.out) hb);replace BK708:=am (jc (g:=gb708) (o:=.cells #[.slice Ao45 t700.length co45, .int .i64 t703, .int .i64 t704, .slice Ao49 t705.length co49] 55 (0,0)) (kq BK708.out) hb);replace HB:=am (jg (Y135) hb);clear hb hbox hg;have hnb53:=NB713_684.out;have hnc53:=NB684_713.out;have hnb54:=NB713_699.out;have hnc54:=NB699_713.out;have hnb55:=NB713_708.out;have hnc55:=NB708_713.out;have hcz56_0:=bc0 BK713.out;have hcz56_1:=bc1 BK713.out;have hcz56_2:=bc2 BK713.out;have hfz56_0:=ja BK713.out 0;have hfz56_1:=ja BK713.out 1;have hfz56_2:=ja BK713.out 2))
         (try simp only [Act.put,List.setIfInBounds_toArray,List.set_cons_zero,List.set_cons_succ])
         go_cut [75] (fun v75 wc=>∃ (kq:Nat) (x75_36:Bool),v75=.bool x75_36∧jE (jm.j2 kq t681 t685 x6_2 x75_36 t678=some r)∧jE (kq≤k2)∧jE (Kd.R k44 44 wc w.heap.size (fun _=>True) (.slice Ao10 t681.length co10) t681)∧jE (Kd.R (Kd.int .i64) 3 wc w.heap.size (fun k_=>some k_≠((.slice Ao45 t700.length co45):Value).ownBlock) (.slice (some ad698) t685.length co38) t685)∧jE (Kd.R k106 106 wc w.heap.size (fun _=>True) (.slice Ao8 t678.length co8) t678)∧jE (Kd.R (Kd.int .i64) 3 wc w.heap.size (fun k_=>some k_≠((.slice (some ad698) t685.length co38):Value).ownBlock) (.slice Ao45 t700.length co45) t700)∧jE (Kd.R k90 90 wc w.heap.size (fun _=>True) (.slice Ao49 t705.length co49) t705)∧jE (wc.heap[gb684]?=some (.cells #[(.slice Ao8 t678.length co8)] 31 (0,0)))∧jE (wc.heap[gb699]?=some (.cells #[.bool true, .int .i64 (rd t685 x6_2), .int .i64 0] 50 (0,0)))∧jE (wc.heap[gb708]?=some (.cells #[(.slice Ao45 t700.length co45), .int .i64 t703, .int .i64 t704,(.slice Ao49 t705.length co49)] 55 (0,0)))∧jE (wc.heap[gb713]?=some (.cells #[.bool t709, .int .i64 t710, .int .i64 t711] 50 (0,0)))∧jE (Below w.heap.size w wc))
         case first =>
          have H:=HC37.out
          clear HC37
          by_cases c57:t712=true
          ·subst c57
           have H1:(if (!t709 ||(!(t710 == (rd t685 x6_2)) ||(!(t711 == 0))))=true then (jm.j2 k2 t681 t685 x6_2 true t678) else (jm.j2 k2 t681 t685 x6_2 ((t705.length:Int) != 1) t678))=some r:=by rw [if_pos rfl] at H;exact H
           clear H
           have H:=H1
           clear H1
           by_cases c58:(!t709 ||(!(t710 == (rd t685 x6_2)) ||(!(t711 == 0))))=true
           ·rw [if_pos c58] at H
            have c58b0:(!t709 ||(!(t710 == (rd t685 x6_2)) ||(!(t711 == 0))))=true:=c58
            clear c58
            (first | rw [c58b0] |(simp only [jHb,jLb];rw [c58b0]) | skip)
            have H':=am H
            clear H
            have hnb59:=NB713_684.out
            have hnc59:=NB684_713.out
            have hnb60:=NB713_699.out
            have hnc60:=NB699_713.out
            have hnb61:=NB713_708.out
            have hnc61:=NB708_713.out
            have hcz62_0:=bc0 BK713.out
            have hcz62_1:=bc1 BK713.out
            have hcz62_2:=bc2 BK713.out
            have hfz62_0:=ja BK713.out 0
            have hfz62_1:=ja BK713.out 1
            have hfz62_2:=ja BK713.out 2
            have hnb63:=NB699_684.out
            have hnc63:=NB684_699.out
            have hnb64:=NB699_708.out
            have hnc64:=NB708_699.out
            have hcz65_0:=bc0 BK699.out
            have hcz65_1:=bc1 BK699.out
            have hcz65_2:=bc2 BK699.out
            have hfz65_0:=ja BK699.out 0
            have hfz65_1:=ja BK699.out 1
            have hfz65_2:=ja BK699.out 2
            go_wp2
            go_meet
            case rel=>exact ⟨_,(true),(sq),H',⟨by have:=HJ4.out;have:=HK2.out;first | omega | exact Nat.le_refl _⟩,⟨by (with_reducible repeat (first | apply Kd.jda | apply Kd.jfa | apply Kd.jma));exact Kd.jJ (Kd.joa (p:=⟨gb713,2,none⟩) (Kd.joa (p:=⟨gb713,1,none⟩) (Kd.joa (p:=⟨gb713,0,none⟩) (Kd.jna HO_4.out BK713.out (by decide)) (fun _ hk=>hk.2) (.bool t709)) (fun _ hk=>hk.2) (.int .i64 t710)) (fun _ hk=>hk.2) (.int .i64 t711)) (fun _ hk=>trivial)⟩,⟨by (with_reducible repeat (first | apply Kd.jda | apply Kd.jfa | apply Kd.jma));exact Kd.jJ (Kd.joa (p:=⟨gb713,2,none⟩) (Kd.joa (p:=⟨gb713,1,none⟩) (Kd.joa (p:=⟨gb713,0,none⟩) (Kd.jna HO_5.out BK713.out (by decide)) (fun _ hk=>hk.2) (.bool t709)) (fun _ hk=>hk.2) (.int .i64 t710)) (fun _ hk=>hk.2) (.int .i64 t711)) (fun _ hk=>hk.1.2)⟩,⟨by (with_reducible repeat (first | apply Kd.jda | apply Kd.jfa | apply Kd.jma));exact Kd.jJ (Kd.joa (p:=⟨gb713,2,none⟩) (Kd.joa (p:=⟨gb713,1,none⟩) (Kd.joa (p:=⟨gb713,0,none⟩) (Kd.jna HO_685000.out BK713.out (by decide)) (fun _ hk=>hk.2) (.bool t709)) (fun _ hk=>hk.2) (.int .i64 t710)) (fun _ hk=>hk.2) (.int .i64 t711)) (fun _ hk=>trivial)⟩,⟨by (with_reducible repeat (first | apply Kd.jda | apply Kd.jfa | apply Kd.jma));exact Kd.jJ (Kd.joa (p:=⟨gb713,2,none⟩) (Kd.joa (p:=⟨gb713,1,none⟩) (Kd.joa (p:=⟨gb713,0,none⟩) (Kd.jna HO702.out BK713.out (by decide)) (fun _ hk=>hk.2) (.bool t709)) (fun _ hk=>hk.2) (.int .i64 t710)) (fun _ hk=>hk.2) (.int .i64 t711)) (fun _ hk=>hk.1.2)⟩,⟨by (with_reducible repeat (first | apply Kd.jda | apply Kd.jfa | apply Kd.jma));exact Kd.jJ (Kd.joa (p:=⟨gb713,2,none⟩) (Kd.joa (p:=⟨gb713,1,none⟩) (Kd.joa (p:=⟨gb713,0,none⟩) (Kd.jna HO707.out BK713.out (by decide)) (fun _ hk=>hk.2) (.bool t709)) (fun _ hk=>hk.2) (.int .i64 t710)) (fun _ hk=>hk.2) (.int .i64 t711)) (fun _ hk=>trivial)⟩,⟨by (with_reducible repeat (first | refine jd ?_ _ | refine jf ?_ | refine jb ?_ _));refine jT ?_ NB684_713.out _;(with_reducible repeat (first | refine jd ?_ _ | refine jf ?_ | refine jb ?_ _));refine jT ?_ NB684_713.out _;(with_reducible repeat (first | refine jd ?_ _ | refine jf ?_ | refine jb ?_ _));refine jT ?_ NB684_713.out _;(with_reducible repeat (first | refine jd ?_ _ | refine jf ?_ | refine jb ?_ _));exact BK684.out⟩,⟨by (with_reducible repeat (first | refine jd ?_ _ | refine jf ?_ | refine jb ?_ _));refine jT ?_ NB699_713.out _;(with_reducible repeat (first | refine jd ?_ _ | refine jf ?_ | refine jb ?_ _));refine jT ?_ NB699_713.out _;(with_reducible repeat (first | refine jd ?_ _ | refine jf ?_ | refine jb ?_ _));refine jT ?_ NB699_713.out _;(with_reducible repeat (first | refine jd ?_ _ | refine jf ?_ | refine jb ?_ _));exact BK699.out⟩,⟨by (with_reducible repeat (first | refine jd ?_ _ | refine jf ?_ | refine jb ?_ _));refine jT ?_ NB708_713.out _;(with_reducible repeat (first | refine jd ?_ _ | refine jf ?_ | refine jb ?_ _));refine jT ?_ NB708_713.out _;(with_reducible repeat (first | refine jd ?_ _ | refine jf ?_ | refine jb ?_ _));refine jT ?_ NB708_713.out _;(with_reducible repeat (first | refine jd ?_ _ | refine jf ?_ | refine jb ?_ _));exact BK708.out⟩,⟨by (with_reducible repeat (first | refine jd ?_ _ | refine jf ?_ | refine jb ?_ _));refine jS (cs:=#[.bool t709, .int .i64 t710, .int .i64 0]) ?_ 2 _ rfl;(with_reducible repeat (first | refine jd ?_ _ | refine jf ?_ | refine jb ?_ _));refine jS (cs:=#[.bool t709, .int .i64 0, .int .i64 0]) ?_ 1 _ rfl;(with_reducible repeat (first | refine jd ?_ _ | refine jf ?_ | refine jb ?_ _));refine jS (cs:=#[.bool false, .int .i64 0, .int .i64 0]) ?_ 0 _ rfl;(with_reducible repeat (first | refine jd ?_ _ | refine jf ?_ | refine jb ?_ _));exact BK713.out⟩,⟨Y49⟩⟩
           ·rw [if_neg c58] at H
            have c58b0:(!t709 ||(!(t710 == (rd t685 x6_2)) ||(!(t711 == 0))))=false:=by simpa using c58
            clear c58
            (first | rw [c58b0] |(simp only [jHb,jLb];rw [c58b0]) | skip)
            have H':=am H
            clear H
            have hnb66:=NB713_684.out
            have hnc66:=NB684_713.out
            have hnb67:=NB713_699.out
            have hnc67:=NB699_713.out
            have hnb68:=NB713_708.out
            have hnc68:=NB708_713.out
            have hcz69_0:=bc0 BK713.out
            have hcz69_1:=bc1 BK713.out
            have hcz69_2:=bc2 BK713.out
            have hfz69_0:=ja BK713.out 0
            have hfz69_1:=ja BK713.out 1
            have hfz69_2:=ja BK713.out 2
            have hnb70:=NB699_684.out
            have hnc70:=NB684_699.out
            have hnb71:=NB699_708.out
            have hnc71:=NB708_699.out
            have hcz72_0:=bc0 BK699.out
            have hcz72_1:=bc1 BK699.out
            have hcz72_2:=bc2 BK699.out
            have hfz72_0:=ja BK699.out 0
            have hfz72_1:=ja BK699.out 1
            have hfz72_2:=ja BK699.out 2
            have hnb73:=NB708_684.out
            have hnc73:=NB684_708.out
            have hcz74_0:=bc0 BK708.out
            have hcz74_1:=bc1 BK708.out
            have hcz74_2:=bc2 BK708.out
            have hcz74_3:=bc3 BK708.out
            have hfz74_0:=ja BK708.out 0
            have hfz74_1:=ja BK708.out 1
            have hfz74_2:=ja BK708.out 2
            have hfz74_3:=ja BK708.out 3
            go_wp2
            go_meet
            case rel=>exact ⟨_,(((t705.length:Int) != 1)),(sq),H',⟨by have:=HJ4.out;have:=HK2.out;first | omega | exact Nat.le_refl _⟩,⟨by (with_reducible repeat (first | apply Kd.jda | apply Kd.jfa | apply Kd.jma));exact Kd.jJ (Kd.joa (p:=⟨gb713,2,none⟩) (Kd.joa (p:=⟨gb713,1,none⟩) (Kd.joa (p:=⟨gb713,0,none⟩) (Kd.jna HO_4.out BK713.out (by decide)) (fun _ hk=>hk.2) (.bool t709)) (fun _ hk=>hk.2) (.int .i64 t710)) (fun _ hk=>hk.2) (.int .i64 t711)) (fun _ hk=>trivial)⟩,⟨by (with_reducible repeat (first | apply Kd.jda | apply Kd.jfa | apply Kd.jma));exact Kd.jJ (Kd.joa (p:=⟨gb713,2,none⟩) (Kd.joa (p:=⟨gb713,1,none⟩) (Kd.joa (p:=⟨gb713,0,none⟩) (Kd.jna HO_5.out BK713.out (by decide)) (fun _ hk=>hk.2) (.bool t709)) (fun _ hk=>hk.2) (.int .i64 t710)) (fun _ hk=>hk.2) (.int .i64 t711)) (fun _ hk=>hk.1.2)⟩,⟨by (with_reducible repeat (first | apply Kd.jda | apply Kd.jfa | apply Kd.jma));exact Kd.jJ (Kd.joa (p:=⟨gb713,2,none⟩) (Kd.joa (p:=⟨gb713,1,none⟩) (Kd.joa (p:=⟨gb713,0,none⟩) (Kd.jna HO_685000.out BK713.out (by decide)) (fun _ hk=>hk.2) (.bool t709)) (fun _ hk=>hk.2) (.int .i64 t710)) (fun _ hk=>hk.2) (.int .i64 t711)) (fun _ hk=>trivial)⟩,⟨by (with_reducible repeat (first | apply Kd.jda | apply Kd.jfa | apply Kd.jma));exact Kd.jJ (Kd.joa (p:=⟨gb713,2,none⟩) (Kd.joa (p:=⟨gb713,1,none⟩) (Kd.joa (p:=⟨gb713,0,none⟩) (Kd.jna HO702.out BK713.out (by decide)) (fun _ hk=>hk.2) (.bool t709)) (fun _ hk=>hk.2) (.int .i64 t710)) (fun _ hk=>hk.2) (.int .i64 t711)) (fun _ hk=>hk.1.2)⟩,⟨by (with_reducible repeat (first | apply Kd.jda | apply Kd.jfa | apply Kd.jma));exact Kd.jJ (Kd.joa (p:=⟨gb713,2,none⟩) (Kd.joa (p:=⟨gb713,1,none⟩) (Kd.joa (p:=⟨gb713,0,none⟩) (Kd.jna HO707.out BK713.out (by decide)) (fun _ hk=>hk.2) (.bool t709)) (fun _ hk=>hk.2) (.int .i64 t710)) (fun _ hk=>hk.2) (.int .i64 t711)) (fun _ hk=>trivial)⟩,⟨by (with_reducible repeat (first | refine jd ?_ _ | refine jf ?_ | refine jb ?_ _));refine jT ?_ NB684_713.out _;(with_reducible repeat (first | refine jd ?_ _ | refine jf ?_ | refine jb ?_ _));refine jT ?_ NB684_713.out _;(with_reducible repeat (first | refine jd ?_ _ | refine jf ?_ | refine jb ?_ _));refine jT ?_ NB684_713.out _;(with_reducible repeat (first | refine jd ?_ _ | refine jf ?_ | refine jb ?_ _));exact BK684.out⟩,⟨by (with_reducible repeat (first | refine jd ?_ _ | refine jf ?_ | refine jb ?_ _));refine jT ?_ NB699_713.out _;(with_reducible repeat (first | refine jd ?_ _ | refine jf ?_ | refine jb ?_ _));refine jT ?_ NB699_713.out _;(with_reducible repeat (first | refine jd ?_ _ | refine jf ?_ | refine jb ?_ _));refine jT ?_ NB699_713.out _;(with_reducible repeat (first | refine jd ?_ _ | refine jf ?_ | refine jb ?_ _));exact BK699.out⟩,⟨by (with_reducible repeat (first | refine jd ?_ _ | refine jf ?_ | refine jb ?_ _));refine jT ?_ NB708_713.out _;(with_reducible repeat (first | refine jd ?_ _ | refine jf ?_ | refine jb ?_ _));refine jT ?_ NB708_713.out _;(with_reducible repeat (first | refine jd ?_ _ | refine jf ?_ | refine jb ?_ _));refine jT ?_ NB708_713.out _;(with_reducible repeat (first | refine jd ?_ _ | refine jf ?_ | refine jb ?_ _));exact BK708.out⟩,⟨by (with_reducible repeat (first | refine jd ?_ _ | refine jf ?_ | refine jb ?_ _));refine jS (cs:=#[.bool t709, .int .i64 t710, .int .i64 0]) ?_ 2 _ rfl;(with_reducible repeat (first | refine jd ?_ _ | refine jf ?_ | refine jb ?_ _));refine jS (cs:=#[.bool t709, .int .i64 0, .int .i64 0]) ?_ 1 _ rfl;(with_reducible repeat (first | refine jd ?_ _ | refine jf ?_ | refine jb ?_ _));refine jS (cs:=#[.bool false, .int .i64 0, .int .i64 0]) ?_ 0 _ rfl;(with_reducible repeat (first | refine jd ?_ _ | refine jf ?_ | refine jb ?_ _));exact BK713.out⟩,⟨Y49⟩⟩
          ·replace c57:=Bool.eq_false_iff.mpr c57
           subst c57
           have H1:(jm.j2 k2 t681 t685 x6_2 true t678)=some r:=by rw [if_neg (show ¬ (false=true) by decide)] at H;exact H
           clear H
           have H:=H1
           clear H1
           have H':=am H
           clear H
           go_wp2
           go_meet
           case rel=>exact ⟨_,(true),(sq),H',⟨by have:=HJ4.out;have:=HK2.out;first | omega | exact Nat.le_refl _⟩,⟨by (with_reducible repeat (first | apply Kd.jda | apply Kd.jfa | apply Kd.jma));exact Kd.jJ (Kd.joa (p:=⟨gb713,2,none⟩) (Kd.joa (p:=⟨gb713,1,none⟩) (Kd.joa (p:=⟨gb713,0,none⟩) (Kd.jna HO_4.out BK713.out (by decide)) (fun _ hk=>hk.2) (.bool t709)) (fun _ hk=>hk.2) (.int .i64 t710)) (fun _ hk=>hk.2) (.int .i64 t711)) (fun _ hk=>trivial)⟩,⟨by (with_reducible repeat (first | apply Kd.jda | apply Kd.jfa | apply Kd.jma));exact Kd.jJ (Kd.joa (p:=⟨gb713,2,none⟩) (Kd.joa (p:=⟨gb713,1,none⟩) (Kd.joa (p:=⟨gb713,0,none⟩) (Kd.jna HO_5.out BK713.out (by decide)) (fun _ hk=>hk.2) (.bool t709)) (fun _ hk=>hk.2) (.int .i64 t710)) (fun _ hk=>hk.2) (.int .i64 t711)) (fun _ hk=>hk.1.2)⟩,⟨by (with_reducible repeat (first | apply Kd.jda | apply Kd.jfa | apply Kd.jma));exact Kd.jJ (Kd.joa (p:=⟨gb713,2,none⟩) (Kd.joa (p:=⟨gb713,1,none⟩) (Kd.joa (p:=⟨gb713,0,none⟩) (Kd.jna HO_685000.out BK713.out (by decide)) (fun _ hk=>hk.2) (.bool t709)) (fun _ hk=>hk.2) (.int .i64 t710)) (fun _ hk=>hk.2) (.int .i64 t711)) (fun _ hk=>trivial)⟩,⟨by (with_reducible repeat (first | apply Kd.jda | apply Kd.jfa | apply Kd.jma));exact Kd.jJ (Kd.joa (p:=⟨gb713,2,none⟩) (Kd.joa (p:=⟨gb713,1,none⟩) (Kd.joa (p:=⟨gb713,0,none⟩) (Kd.jna HO702.out BK713.out (by decide)) (fun _ hk=>hk.2) (.bool t709)) (fun _ hk=>hk.2) (.int .i64 t710)) (fun _ hk=>hk.2) (.int .i64 t711)) (fun _ hk=>hk.1.2)⟩,⟨by (with_reducible repeat (first | apply Kd.jda | apply Kd.jfa | apply Kd.jma));exact Kd.jJ (Kd.joa (p:=⟨gb713,2,none⟩) (Kd.joa (p:=⟨gb713,1,none⟩) (Kd.joa (p:=⟨gb713,0,none⟩) (Kd.jna HO707.out BK713.out (by decide)) (fun _ hk=>hk.2) (.bool t709)) (fun _ hk=>hk.2) (.int .i64 t710)) (fun _ hk=>hk.2) (.int .i64 t711)) (fun _ hk=>trivial)⟩,⟨by (with_reducible repeat (first | refine jd ?_ _ | refine jf ?_ | refine jb ?_ _));refine jT ?_ NB684_713.out _;(with_reducible repeat (first | refine jd ?_ _ | refine jf ?_ | refine jb ?_ _));refine jT ?_ NB684_713.out _;(with_reducible repeat (first | refine jd ?_ _ | refine jf ?_ | refine jb ?_ _));refine jT ?_ NB684_713.out _;(with_reducible repeat (first | refine jd ?_ _ | refine jf ?_ | refine jb ?_ _));exact BK684.out⟩,⟨by (with_reducible repeat (first | refine jd ?_ _ | refine jf ?_ | refine jb ?_ _));refine jT ?_ NB699_713.out _;(with_reducible repeat (first | refine jd ?_ _ | refine jf ?_ | refine jb ?_ _));refine jT ?_ NB699_713.out _;(with_reducible repeat (first | refine jd ?_ _ | refine jf ?_ | refine jb ?_ _));refine jT ?_ NB699_713.out _;(with_reducible repeat (first | refine jd ?_ _ | refine jf ?_ | refine jb ?_ _));exact BK699.out⟩,⟨by (with_reducible repeat (first | refine jd ?_ _ | refine jf ?_ | refine jb ?_ _));refine jT ?_ NB708_713.out _;(with_reducible repeat (first | refine jd ?_ _ | refine jf ?_ | refine jb ?_ _));refine jT ?_ NB708_713.out _;(with_reducible repeat (first | refine jd ?_ _ | refine jf ?_ | refine jb ?_ _));refine jT ?_ NB708_713.out _;(with_reducible repeat (first | refine jd ?_ _ | refine jf ?_ | refine jb ?_ _));exact BK708.out⟩,⟨by (with_reducible repeat (first | refine jd ?_ _ | refine jf ?_ | refine jb ?_ _));refine jS (cs:=#[.bool t709, .int .i64 t710, .int .i64 0]) ?_ 2 _ rfl;(with_reducible repeat (first | refine jd ?_ _ | refine jf ?_ | refine jb ?_ _));refine jS (cs:=#[.bool t709, .int .i64 0, .int .i64 0]) ?_ 1 _ rfl;(with_reducible repeat (first | refine jd ?_ _ | refine jf ?_ | refine jb ?_ _));refine jS (cs:=#[.bool false, .int .i64 0, .int .i64 0]) ?_ 0 _ rfl;(with_reducible repeat (first | refine jd ?_ _ | refine jf ?_ | refine jb ?_ _));exact BK713.out⟩,⟨Y49⟩⟩
         case rest =>
          clear HC37
          try clear c1
          try clear c2
          try clear c2b0
          try clear c2b1
          try clear p2
          try clear c3
          try clear c4
          try clear c5
          try clear c6
          try clear p6
          try clear q6
          try clear hx6
          try clear c7
          try clear c14
          try clear c19
          try clear c20
          try clear c21
          try clear c22
          try clear c23
          try clear c24
          try clear c26
          try clear c33
          try clear c33b0
          try clear c34
          try clear c34b0
          try clear c40
          try clear c46
          try clear c47
          try clear c53
          try clear c54
          try clear c55
          try clear c57
          try clear c58
          try clear c58b0
          try clear c59
          try clear c60
          try clear c61
          try clear c63
          try clear c64
          try clear c66
          try clear c67
          try clear c68
          try clear p69
          try clear q69
          try clear hx69
          try clear c70
          try clear c71
          try clear c73
          try clear hcz16_0
          try clear hcz20_0
          try clear hcz22_0
          try clear hcz29_0
          try clear hcz41_0
          try clear hcz41_1
          try clear hcz41_2
          try clear hcz42_0
          try clear hcz48_0
          try clear hcz48_1
          try clear hcz48_2
          try clear hcz48_3
          try clear hcz50_0
          try clear hcz56_0
          try clear hcz56_1
          try clear hcz56_2
          try clear hcz62_0
          try clear hcz62_1
          try clear hcz62_2
          try clear hcz65_0
          try clear hcz65_1
          try clear hcz65_2
          try clear hcz69_0
          try clear hcz69_1
          try clear hcz69_2
          try clear hcz72_0
          try clear hcz72_1
          try clear hcz72_2
          try clear hcz74_0
          try clear hcz74_1
          try clear hcz74_2
          try clear hcz74_3
          try clear hcz9_0
          try clear hfz16_0
          try clear hfz20_0
          try clear hfz22_0
          try clear hfz29_0
          try clear hfz41_0
          try clear hfz41_1
          try clear hfz41_2
          try clear hfz42_0
          try clear hfz48_0
          try clear hfz48_1
          try clear hfz48_2
          try clear hfz48_3
          try clear hfz50_0
          try clear hfz56_0
          try clear hfz56_1
          try clear hfz56_2
          try clear hfz62_0
          try clear hfz62_1
          try clear hfz62_2
          try clear hfz65_0
          try clear hfz65_1
          try clear hfz65_2
          try clear hfz69_0
          try clear hfz69_1
          try clear hfz69_2
          try clear hfz72_0
          try clear hfz72_1
          try clear hfz72_2
          try clear hfz74_0
          try clear hfz74_1
          try clear hfz74_2
          try clear hfz74_3
          try clear hfz9_0
          try clear hx698_0
          try clear p2
          try clear p698
          try clear q698
          obtain ⟨kq,x75_36,rfl,HA,HJ36,HO_4,HO_5,HO_685000,HO_709000,HO_709003,BK684,BK699,BK708,BK713,HB⟩:=hcut
          cases kq with
          | zero=>exact absurd HA.out (by simp [jm.j2])
          | succ kj36 =>
           have H:=HA.out
           clear HA
           simp only [jm.j2] at H
           by_cases c75:x75_36=true
           ·subst c75
            have H1:(some false)=some r:=by rw [if_pos rfl] at H;exact H
            clear H
            have H:=H1
            clear H1
            exact absurd ((Option.some.inj H).trans hT) Bool.false_ne_true
           ·replace c75:=Bool.eq_false_iff.mpr c75
            subst c75
            have H1:(if 0≤x6_2 then (if x6_2<(t685.length:Int) then ((jDb.f kj36 t678 (rd t685 x6_2)).bind fun t715=>(jm.l1 kj36 t681 t685 x6_2 t715 0 t678)) else (none)) else (none))=some r:=by rw [if_neg (show ¬ (false=true) by decide)] at H;exact H
            clear H
            have H:=H1
            clear H1
            by_cases c76:0≤x6_2
            ·rw [if_pos c76] at H
             have c76b0:decide (0≤x6_2)=true:=dzT c76
             clear c76
             by_cases c77:x6_2<(t685.length:Int)
             ·rw [if_pos c77] at H
              have c77b0:decide (x6_2<(t685.length:Int))=true:=dzT c77
              clear c77
              replace H:=bzS H
              obtain ⟨t715,A780,H⟩:=H
              replace H:(jm.l1 kj36 t681 t685 x6_2 t715 0 t678)=some r:=H
              have A78:=am A780
              clear A780
              have H':=am H
              clear H
              try go_wp2
              replace HO_4:=am (Kd.jma HO_4.out)
              replace HO_5:=am (Kd.jma HO_5.out)
              replace HO_685000:=am (Kd.jma HO_685000.out)
              replace HO_709000:=am (Kd.jma HO_709000.out)
              replace HO_709003:=am (Kd.jma HO_709003.out)
              replace BK684:=am (jf BK684.out)
              replace BK699:=am (jf BK699.out)
              replace BK708:=am (jf BK708.out)
              replace BK713:=am (jf BK713.out)
              replace HB:=am (jD HB.out)
              have p714:0≤(x6_2:Int):=ozD (uq)
              have q714:x6_2<(t685.length:Int):=ozD (uq)
              obtain ⟨ad714,e714,hx714_0⟩:=Kd.jsb (Kd.jC HO_5.out).2.2 x6_2 p714 q714
              obtain rfl:ad698=ad714:=(by injection e714)
              replace p714:=ezT p714
              replace q714:=ezT q714
              refine start_ (n:=7) (S:=fun w'=>w'.cell? ⟨gb684,0,none⟩=some (.slice Ao8 t678.length co8)∧w'.cell? (ad698.add (x6_2).toNat)=some (.int .i64 (rd t685 x6_2))) (ds:=[]) #[false,false,false,false,false,false,false] (by kernel_rfl) rfl rfl ⟨(jw BK684.out 0).trans rfl,hx714_0⟩ (fun hHeld=>?_)
              generalize wc.drew=w79 at HO_4 HO_5 HO_685000 HO_709000 HO_709003 BK684 BK699 BK708 BK713 HB hx714_0 hHeld ⊢
              refine jwb (i:=1) (N:=some 77) (v:=?_) (a':=?_) #[false,true,false,false,false,false,false] rfl rfl (by kernel_rfl) (fun _ _ _ h=>h) (Or.inl ⟨by rfl,?_⟩) ?_ ?_
              rotate_left
              ·exact sb
              rotate_left
              ·exact sa
              refine jwb (i:=2) (N:=some 78) (v:=?_) (a':=?_) #[false,true,true,false,false,false,false] rfl rfl (by kernel_rfl) (fun _ _ _ h=>h) (Or.inl ⟨by rfl,?_⟩) ?_ ?_
              rotate_left
              ·exact sb
              rotate_left
              ·exact sa
              refine jwb (i:=3) (N:=some 79) (v:=?_) (a':=?_) #[false,true,true,true,false,false,false] rfl rfl (by kernel_rfl) (fun _ _ _ h=>h) (Or.inl ⟨by rfl,?_⟩) ?_ ?_
              rotate_left
              ·exact sb
              rotate_left
              ·exact sa
              refine jYb (i:=0) (N:=some 76) (v:=?_) (a':=?_) #[true,true,true,true,false,false,false] rfl rfl (by kernel_rfl) (fun _ _ _ h=>h) (Or.inl ⟨by rfl,?_⟩) hHeld ?_ ?_
              rotate_left
              ·rintro w' ⟨s0,s1⟩
               go_simp
               with_reducible rfl
              rotate_left
              ·exact sa
              refine jYb (i:=4) (N:=some 80) (v:=?_) (a':=?_) #[true,true,true,true,true,false,false] rfl rfl (by kernel_rfl) (fun _ _ _ h=>h) (Or.inl ⟨by rfl,?_⟩) hHeld ?_ ?_
              rotate_left
              ·rintro w' ⟨s0,s1⟩
               go_simp
               with_reducible rfl
              rotate_left
              ·exact sa
              refine one_ (i:=5) (N:=some 81) #[true,true,true,true,true,true,false] rfl rfl (by kernel_rfl) (by decide) (fun K hK=>?_)
              refine goes_ Try.func25 (by kernel_rfl) rfl #[.agg #[.slice Ao8 t678.length co8], .int .i64 (rd t685 x6_2)] (by rfl) rfl rfl (aq) ?_
              with_reducible refine (jDb.calls kj36 _ _ t678 (rd t685 x6_2) t715 _ ?side1 ?side2 A78.out).mono ?_
              (case side1=>exact cq (Kd.jC HO_685000.out).2.2)
              (case side2=>exact (Kd.jC HO_685000.out).2.1)
              rintro e w80 ⟨v716,rfl,ho0,hb⟩
              have HS1_:=(hb.cell (World.block_lt_of_cell? _ _ (hHeld.2))).trans (hHeld.2)
              refine ⟨_,rfl,?_⟩
              have HO717:=am (Kd.jpa (Kd.R_new' (Kd.R_new' ho0 (Kd.R_lt (rq HO_5.out))) (Kd.R_lt (rq HO_709000.out))) (jba (Y49)))
              replace HO_4:=am (Kd.jaa (rq HO_4.out) hb)
              replace HO_5:=am (Kd.jwc (rq HO_5.out) (Kd.R_base ho0) hb)
              replace HO_685000:=am (Kd.jaa (rq HO_685000.out) hb)
              replace HO_709000:=am (Kd.jwc (rq HO_709000.out) (Kd.R_base ho0) hb)
              replace HO_709003:=am (Kd.jaa (rq HO_709003.out) hb)
              replace BK684:=am (jc (g:=gb684) (o:=.cells #[.slice Ao8 t678.length co8] 31 (0,0)) (kq BK684.out) hb)
              replace BK699:=am (jc (g:=gb699) (o:=.cells #[.bool true, .int .i64 (rd t685 x6_2), .int .i64 0] 50 (0,0)) (kq BK699.out) hb)
              replace BK708:=am (jc (g:=gb708) (o:=.cells #[.slice Ao45 t700.length co45, .int .i64 t703, .int .i64 t704, .slice Ao49 t705.length co49] 55 (0,0)) (kq BK708.out) hb)
              replace BK713:=am (jc (g:=gb713) (o:=.cells #[.bool t709, .int .i64 t710, .int .i64 t711] 50 (0,0)) (kq BK713.out) hb)
              replace HB:=am (jg (Y49) hb)
              (try clear hb)
              (try clear hb2)
              (try clear hk)
              (try clear hi)
              (try clear ho0)
              refine hK.out _ _ ⟨(jw BK684.out 0).trans rfl,HS1_⟩ (fun hHeld=>?_)
              clear hK K
              refine norm_ (a':=?_) ?_ ?_
              rotate_left
              ·show Act.put _ (some 81) _=_
               simp only [Act.put,List.setIfInBounds_toArray,List.set_cons_zero,List.set_cons_succ,jHb,jLb]
               rfl
              refine jwb (i:=6) (N:=some 11) (v:=?_) (a':=?_) #[true,true,true,true,true,true,true] rfl rfl (by kernel_rfl) (fun _ _ _ h=>h) (Or.inl ⟨by rfl,?_⟩) ?_ ?_
              rotate_left
              ·exact sb
              rotate_left
              ·exact sa
              refine done_ (by kernel_rfl) ?_
              try go_wp2
              go_loopg [12] kj36 (fun kq v12 w'=>∃ (x12_4:Int),v12=.int .i64 x12_4∧jE (jm.l1 kq t681 t685 x6_2 t715 x12_4 t678=some r)∧jE (kq≤kj36)∧jE (Kd.R k44 44 w' w.heap.size (fun _=>True) (.slice Ao10 t681.length co10) t681)∧jE (Kd.R (Kd.int .i64) 3 w' w.heap.size (fun k_=>some k_≠(v716:Value).ownBlock∧some k_≠((.slice Ao45 t700.length co45):Value).ownBlock) (.slice (some ad698) t685.length co38) t685)∧jE (Kd.R (Kd.int .i64) 3 w' w.heap.size (fun k_=>some k_≠((.slice (some ad698) t685.length co38):Value).ownBlock∧some k_≠((.slice Ao45 t700.length co45):Value).ownBlock) v716 t715)∧jE (Kd.R k106 106 w' w.heap.size (fun _=>True) (.slice Ao8 t678.length co8) t678)∧jE (Kd.R (Kd.int .i64) 3 w' w.heap.size (fun k_=>some k_≠((.slice (some ad698) t685.length co38):Value).ownBlock∧some k_≠(v716:Value).ownBlock) (.slice Ao45 t700.length co45) t700)∧jE (Kd.R k90 90 w' w.heap.size (fun _=>True) (.slice Ao49 t705.length co49) t705)∧jE (w'.heap[gb684]?=some (.cells #[(.slice Ao8 t678.length co8)] 31 (0,0)))∧jE (w'.heap[gb699]?=some (.cells #[.bool true, .int .i64 (rd t685 x6_2), .int .i64 0] 50 (0,0)))∧jE (w'.heap[gb708]?=some (.cells #[(.slice Ao45 t700.length co45), .int .i64 t703, .int .i64 t704,(.slice Ao49 t705.length co49)] 55 (0,0)))∧jE (w'.heap[gb713]?=some (.cells #[.bool t709, .int .i64 t710, .int .i64 t711] 50 (0,0)))∧jE (Below w.heap.size w w'))
              case atStart=>exact ⟨(0),(sq),H',⟨Nat.le_refl _⟩,⟨rq HO_4.out⟩,⟨by (with_reducible repeat (first | apply Kd.jda | apply Kd.jfa | apply Kd.jma));exact Kd.jJ HO_5.out (fun _ hk=>⟨hk.2,hk.1⟩)⟩,⟨by (with_reducible repeat (first | apply Kd.jda | apply Kd.jfa | apply Kd.jma));exact Kd.jJ HO717.out (fun _ hk=>⟨hk.1.2,hk.2⟩)⟩,⟨rq HO_685000.out⟩,⟨rq HO_709000.out⟩,⟨rq HO_709003.out⟩,⟨kq BK684.out⟩,⟨kq BK699.out⟩,⟨kq BK708.out⟩,⟨kq BK713.out⟩,⟨Y49⟩⟩
              case round =>
               clear H'
               try clear c1
               try clear c2
               try clear c2b0
               try clear c2b1
               try clear p2
               try clear c3
               try clear c4
               try clear c5
               try clear c6
               try clear p6
               try clear q6
               try clear hx6
               try clear c7
               try clear p7
               try clear q7
               try clear hx7
               try clear c14
               try clear c19
               try clear c20
               try clear c21
               try clear c22
               try clear c23
               try clear c24
               try clear c25
               try clear c26
               try clear c33
               try clear c33b0
               try clear c34
               try clear c34b0
               try clear c40
               try clear c46
               try clear c47
               try clear c53
               try clear c54
               try clear c55
               try clear c57
               try clear c58
               try clear c58b0
               try clear c59
               try clear c60
               try clear c61
               try clear c63
               try clear c64
               try clear c66
               try clear c67
               try clear c68
               try clear p69
               try clear q69
               try clear hx69
               try clear c70
               try clear c71
               try clear p71
               try clear q71
               try clear hx71
               try clear c73
               try clear c75
               try clear c76
               try clear c76b0
               try clear c77
               try clear c77b0
               try clear hcz16_0
               try clear hcz20_0
               try clear hcz22_0
               try clear hcz29_0
               try clear hcz41_0
               try clear hcz41_1
               try clear hcz41_2
               try clear hcz42_0
               try clear hcz48_0
               try clear hcz48_1
               try clear hcz48_2
               try clear hcz48_3
               try clear hcz50_0
               try clear hcz56_0
               try clear hcz56_1
               try clear hcz56_2
               try clear hcz62_0
               try clear hcz62_1
               try clear hcz62_2
               try clear hcz65_0
               try clear hcz65_1
               try clear hcz65_2
               try clear hcz69_0
               try clear hcz69_1
               try clear hcz69_2
               try clear hcz72_0
               try clear hcz72_1
               try clear hcz72_2
               try clear hcz74_0
               try clear hcz74_1
               try clear hcz74_2
               try clear hcz74_3
               try clear hcz9_0
               try clear hfz16_0
               try clear hfz20_0
               try clear hfz22_0
               try clear hfz29_0
               try clear hfz41_0
               try clear hfz41_1
               try clear hfz41_2
               try clear hfz42_0
               try clear hfz48_0
               try clear hfz48_1
               try clear hfz48_2
               try clear hfz48_3
               try clear hfz50_0
               try clear hfz56_0
               try clear hfz56_1
               try clear hfz56_2
               try clear hfz62_0
               try clear hfz62_1
               try clear hfz62_2
               try clear hfz65_0
               try clear hfz65_1
               try clear hfz65_2
               try clear hfz69_0
               try clear hfz69_1
               try clear hfz69_2
               try clear hfz72_0
               try clear hfz72_1
               try clear hfz72_2
               try clear hfz74_0
               try clear hfz74_1
               try clear hfz74_2
               try clear hfz74_3
               try clear hfz9_0
               try clear hx698_0
               try clear hx714_0
               try clear p2
               try clear p6
               try clear p69
               try clear p698
               try clear p714
               try clear q6
               try clear q69
               try clear q698
               try clear q714
               obtain ⟨x12_4,rfl,HA,HK4,HO_4,HO_5,HO_11,HO_685000,HO_709000,HO_709003,BK684,BK699,BK708,BK713,HB⟩:=hrel
               cases gk with
               | zero=>exact absurd HA.out (by simp [jm.l1])
               | succ k4 =>
                have H:=HA.out
                clear HA
                simp only [jm.l1] at H
                by_cases c81:x12_4<(t715.length:Int)
                ·rw [if_pos c81] at H
                 have c81b0:decide (x12_4<(t715.length:Int))=true:=dzT c81
                 clear c81
                 by_cases c82:0≤x12_4
                 ·rw [if_pos c82] at H
                  have c82b0:decide (0≤x12_4)=true:=dzT c82
                  clear c82
                  replace H:=bzS H
                  obtain ⟨t719,A830,H⟩:=H
                  replace H:(if t719=true then (jm.l1 k4 t681 t685 x6_2 t715 (wrap64 (x12_4+1)) t678) else (some false))=some r:=H
                  have A83:=am A830
                  clear A830
                  by_cases c84:t719=true
                  ·subst c84
                   have H1:(jm.l1 k4 t681 t685 x6_2 t715 (wrap64 (x12_4+1)) t678)=some r:=by rw [if_pos rfl] at H;exact H
                   clear H
                   have H:=H1
                   clear H1
                   have H':=am H
                   clear H
                   obtain ⟨Ao85,co85,eo85⟩:=Kd.jga HO_11.out
                   subst eo85
                   have p718:0≤(x12_4:Int):=ozD (uq)
                   have q718:x12_4<(t715.length:Int):=ozD (uq)
                   obtain ⟨ad718,e718,hx718_0⟩:=Kd.jsb (Kd.jC HO_11.out).2.2 x12_4 p718 q718
                   cases e718
                   replace p718:=ezT p718
                   replace q718:=ezT q718
                   go_wp2_with (first |((with_reducible refine jo (f:=26) rfl ?_);refine gL (some 93) Try.func26 #[.slice (some ad698) t685.length co38, .int .i64 (rd t715 x12_4)] ?_;(with_reducible refine (jkb.calls k4 _ _ t685 (rd t715 x12_4) true _ ?side1 ?side2 A83.out).mono ?_);(case side1=>exact cq (Kd.jC HO_5.out).2.2);(case side2=>exact (Kd.jC HO_5.out).2.1);rintro e w' ⟨rfl,⟨nd,rfl⟩⟩;refine ⟨_,rfl,?_⟩))
                   go_roundg k4
                   case measure=>have:=HJ4.out;have:=HK2.out;have:=HJ36.out;have:=HK4.out;omega
                   case rel=>exact ⟨(wrap64 (x12_4+1)),(sq),H',⟨by have:=HJ4.out;have:=HK2.out;have:=HJ36.out;have:=HK4.out;omega⟩,⟨rq HO_4.out⟩,⟨rq HO_5.out⟩,⟨rq HO_11.out⟩,⟨rq HO_685000.out⟩,⟨rq HO_709000.out⟩,⟨rq HO_709003.out⟩,⟨kq BK684.out⟩,⟨kq BK699.out⟩,⟨kq BK708.out⟩,⟨kq BK713.out⟩,⟨Y49⟩⟩
                  ·replace c84:=Bool.eq_false_iff.mpr c84
                   subst c84
                   have H1:(some false)=some r:=by rw [if_neg (show ¬ (false=true) by decide)] at H;exact H
                   clear H
                   have H:=H1
                   clear H1
                   exact absurd ((Option.some.inj H).trans hT) Bool.false_ne_true
                 ·rw [if_neg c82] at H
                  exact absurd H (by simp)
                ·rw [if_neg c81] at H
                 have c81b0:decide (x12_4<(t715.length:Int))=false:=dzF c81
                 clear c81
                 have H':=am H
                 clear H
                 obtain ⟨Ao86,co86,eo86⟩:=Kd.jga HO_11.out
                 subst eo86
                 go_wp2
                 go_roundg k4
                 case measure=>have:=HJ4.out;have:=HK2.out;have:=HJ36.out;have:=HK4.out;omega
                 case rel=>exact ⟨(wrap64 (x6_2+1)),(sq),H',⟨by have:=HJ4.out;have:=HK2.out;have:=HJ36.out;have:=HK4.out;omega⟩,⟨rq HO_4.out⟩,⟨by (with_reducible repeat (first | apply Kd.jda | apply Kd.jfa | apply Kd.jma));exact Kd.jJ HO_5.out (fun _ hk=>trivial)⟩,⟨rq HO_685000.out⟩,⟨kq BK684.out⟩,⟨Y49⟩⟩
             ·rw [if_neg c77] at H
              exact absurd H (by simp)
            ·rw [if_neg c76] at H
             exact absurd H (by simp)
        ·rw [if_neg c34] at H
         exact absurd H (by simp)
       ·rw [if_neg c33] at H
        have c33b0:decide (x6_2<(t685.length:Int))=false:=dzF c33
        clear c33
        replace H:=bzS H
        obtain ⟨t697,A870,H⟩:=H
        replace H:(some t697)=some r:=H
        have A87:=am A870
        clear A870
        obtain rfl:=Option.some.inj H
        obtain ⟨Ao88,co88,eo88⟩:=Kd.jga HO_5.out
        subst eo88
        go_wp2_with (first |((with_reducible refine jo (f:=27) rfl ?_);refine gL (some 96) Try.func27 #[.slice Ao88 t685.length co88] ?_;(with_reducible refine (jLa.calls k2 _ _ t685 t697 _ ?side1 ?side2 A87.out).mono ?_);(case side1=>exact cq (Kd.jC HO_5.out).2.2);(case side2=>exact (Kd.jC HO_5.out).2.1);rintro e w' ⟨rfl,⟨nd,rfl⟩⟩;refine ⟨_,rfl,?_⟩))
        go_ret
        exact ⟨Y0,Y18⟩
def jm.Pure : Prop := ∀ (l0 : List Int), l0.length ≤ maxLen → l0.length * 1 ≤ 140737488351232 → (∀ x ∈ l0, (Lit.int .u8 x).wf = true) → ∃ k, jm.f k l0 = some true
theorem jm.walk (P : jm.Pure) (a0 : Option Addr) (len0 cap0 : Nat) (z0 : List Int) (w : World) (w0 : (a0 = none ∧ len0 = 0 ∧ cap0 = 0 ∧ z0 = []) ∨ ∃ x, a0 = some x ∧ len0 ≤ cap0 ∧ cap0 ≤ maxLen ∧ z0.length = cap0 ∧ (∀ i, i < z0.length → w.cell? (x.add i) = some (.int .u8 (z0.getD i 0))) ∧ ∀ n ∈ z0, (Lit.int .u8 n).wf = true) (y0 : len0 * 1 ≤ 140737488351232) :
  Calls Try.prog 5 #[.slice a0 len0 cap0] w fun e w'=>e=.returned (.bool true)∧Below w.heap.size w w':=by
 obtain ⟨l0,rfl,hr0,hm0,hw0,hc0⟩:=jgb.ofRowC w0
 obtain ⟨k,h⟩:=P l0 hm0 y0 hw0
 refine (jm.calls k _ _ l0 true w (Kd.C_of_reads (d:=(0:Int)) (h1:=fun _=>rfl) hr0) hc0 rfl h).mono ?_
 rintro e w' ⟨rfl,hd⟩
 exact ⟨rfl,hd⟩
def soPos (l : List Int) (x : Int) : Nat → Nat → Nat
 | 0,k=>k
 | n+1,k=>if (k:Int)<(l.length:Int)∧rd l (k:Int)<x then soPos l x n (k+1) else k
def soIns (l : List Int) (x : Int) : List Int := if soPos l x l.length 0 = l.length ∨ rd l (soPos l x l.length 0 : Nat) ≠ x then l.take (soPos l x l.length 0) ++ [x] ++ l.drop (soPos l x l.length 0) else l
def soAll : List Int → List Int → Option (List Int)
 | [],out=>some out
 | x :: r,out=>if out.length<17592186044410 then soAll r (soIns out x) else none
def spec_sorted.f (l0 : List Int) : Option (List Int) := soAll l0 []
mutual
def jcb.j0 : Nat → Int → List Int → Bool → List (S90) → Option (List Int)
 | 0,_,_,_,_=>none
 | k+1,x1,x2,x13,x172000=>if x13=true then (some x2) else (if x2.length<17592186044416 then (if 0≤x1 then (if x1<(x172000.length:Int) then ((jcb.f k x172000 ((jl x172000 x1).f2) (x2 ++ [x1])).bind fun t177=>((jcb.f k x172000 ((jl x172000 x1).f3) t177).bind fun t181=>(some t181))) else (none)) else (none)) else (none))
def jcb.f : Nat → List (S90) → Int → List Int → Option (List Int)
 | 0,_,_,_=>none
 | k+1,l0_0,a1,l2=>if a1<0 then (jcb.j0 k a1 l2 true l0_0) else ((jNa.f k l2 a1).bind fun t172=>(jcb.j0 k a1 l2 t172 l0_0))
end
def jjb.l0 : Nat → List Int → Int → Int → Option (Int)
 | 0,_,_,_=>none
 | k+1,x0,x1,x5=>if x5<(x0.length:Int) then (if 0≤x5 then (if (rd x0 x5)=x1 then (some x5) else (jjb.l0 k x0 x1 (wrap64 (x5+1)))) else (none)) else (some (-1))
def jjb.f (k : Nat) (l0 : List Int) (a1 : Int) : Option (Int) := jjb.l0 k l0 a1 0
def job.l0 : Nat → Int → List Int → Int → List (S90) → List (S90) → Option ((List (S90)) × Int)
 | 0,_,_,_,_,_=>none
 | k+1,x1,x6,x8,x186000,x200000=>if x8<(x6.length:Int) then (if 0≤x8 then (if 0≤(rd x6 x8) then (if (rd x6 x8)<(x186000.length:Int) then ((jjb.f k x6 ((jl x186000 (rd x6 x8)).f2)).bind fun t204=>((jjb.f k x6 ((jl x186000 (rd x6 x8)).f3)).bind fun t205=>(if x200000.length<3518437208883 then (job.l0 k x1 x6 (wrap64 (x8+1)) x186000 (x200000 ++ [(⟨(jl x186000 (rd x6 x8)).f0,(jl x186000 (rd x6 x8)).f1,t204,t205,(jl x186000 (rd x6 x8)).f4⟩:S90)])) else (none)))) else (none)) else (none)) else (none)) else ((jjb.f k x6 x1).bind fun t200=>(some (x200000,t200)))
def job.f (k : Nat) (l0_0 : List (S90)) (a1 : Int) : Option ((List (S90)) × Int) := (jcb.f k l0_0 a1 (([] : List Int))).bind fun t190 => ((spec_sorted.f t190).bind fun t193 => (job.l0 k a1 t193 0 l0_0 (([] : List (S90)))))
abbrev ScSt := List Int × List S90 × Int
structure scM (n Bc : Nat) (w0 W : World) (vl vh : Value) (s : ScSt) : Prop where
 c:W.heap[Bc]?=some (.cells #[vl,vh, .int .i64 s.2.2] 101 (0,0))
 l:Kd.R (Kd.int .i64) 3 W n (fun _=>True) vl s.1
 h:Kd.R k90 90 W n (fun _=>True) vh s.2.1
 b:Below n w0 W
theorem scM.below {n Bc : Nat} {w0 W W' : World} {vl vh : Value} {s : ScSt} (h : scM n Bc w0 W vl vh s) (hn : n ≤ W.heap.size) (hb : Below W.heap.size W W') : scM n Bc w0 W' vl vh s :=
 ⟨jc h.c hb,Kd.jaa h.l hb,Kd.jaa h.h hb,h.b.trans (hb.mono hn)⟩
theorem scM.set {n Bc : Nat} {w0 W W' : World} {vl vh v0 v1 : Value} {s s' : ScSt} (h : scM n Bc w0 W vl vh s) (hn : n ≤ W.heap.size) (hB : n ≤ Bc) (hc : W'.heap[Bc]? = some (.cells #[vl, vh, .int .i64 s.2.2] 101 (0, 0))) (h0 : Kd.R (Kd.int .i64) 3 W' n (fun _ => True) v0 s'.1) (h1 : Kd.R k90 90 W' n (fun _ => True) v1 s'.2.1) (hb : Below n W W') :
  scM n Bc w0 (((W'.setCell ⟨Bc,0,none⟩ v0).setCell ⟨Bc,1,none⟩ v1).setCell ⟨Bc,2,none⟩ (.int .i64 s'.2.2)) v0 v1 s':=by
 have c1:=jS hc 0 v0 rfl
 have c2:=jS c1 1 v1 rfl
 have c3:=jS c2 2 (.int .i64 s'.2.2) rfl
 exact ⟨c3,Kd.jrb (Kd.jrb (Kd.jrb h0 hc (by decide) 0 _) c1 (by decide) 1 _) c2 (by decide) 2 _,Kd.jrb (Kd.jrb (Kd.jrb h1 hc (by decide) 0 _) c1 (by decide) 1 _) c2 (by decide) 2 _,(((h.b.trans hb).setCell (p:=⟨Bc,0,none⟩) hB _).setCell (p:=⟨Bc,1,none⟩) hB _).setCell (p:=⟨Bc,2,none⟩) hB _⟩
section
open Go
variable {P : Program} {md : Region.Mode} {ops : Array Oper} {Q : Exit → Act → World → Prop} {S : World → Prop}
end

theorem eqA44 (d : Nat) (w : World) (x0 y0 : Int) (x1 y1 : Int) (x2 y2 : Int) :
  (Op.equalIn (d+2) 44 (.agg #[.int .i64 x0, .int .i64 x1, .int .i64 x2]) (.agg #[.int .i64 y0, .int .i64 y1, .int .i64 y2])).run Try.prog w=.ok (x0 == y0 && (x1 == y1 && (x2 == y2))) w:=by
 refine eqA_of Try.underlying44 (by kernel_rfl) ?_
 refine eqf_cons (by rfl) (by go_simp;rfl) (by go_simp;rfl) (by go_simp) ?_
 refine eqf_cons (by rfl) (by go_simp;rfl) (by go_simp;rfl) (by go_simp) ?_
 exact eqf_last (by rfl) (by go_simp;rfl) (by go_simp;rfl) (by go_simp)
attribute [local go_sem high] eqA44
end Go.Proofs.Ytlhfcmbkjddgiaa.P
end
