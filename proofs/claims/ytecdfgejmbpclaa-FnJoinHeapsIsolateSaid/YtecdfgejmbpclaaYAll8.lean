/- One part of the proofs on this program: functions of the program as plain functions, that the code comes to them, and facts on them. -/
import Derived.Test.YtecdfgejmbpclaaYAll1
import Derived.Test.YtecdfgejmbpclaaYAll3
import Derived.Test.YtecdfgejmbpclaaYAll7
import Derived.Test.YtecdfgejmbpclaaYWAuto
section
namespace Go.Proofs.Ytecdfgejmbpclaa.P
open Go.RowKit Go.Proofs.YtecdfgejmbpclaaW.PrintWords Go.Proofs.YtecdfgejmbpclaaW.PrintLast Go.Proofs.YtecdfgejmbpclaaW.PrintMore
attribute [local go_sem] jva jta jFa jEa jha jga jua jsa jF
set_option linter.unusedVariables false
set_option linter.unusedSimpArgs false
mutual
def jm.j0 : Nat → Bool → Bool → Bool → List (S94) → List (S54) → List (S54) → List (S54) → List (S54) → Option (Bool)
 | 0,_,_,_,_,_,_,_,_=>none
 | k+1,x7,x9,x51,x702000,x703000,x704000,x709000,x714000=>if x51=true then ((jda.f k x709000 x714000).bind fun t715=>(if t715=true then (some (x7 == x9)) else (some false))) else (jm.l0 k (x703000.length:Int) 0 x702000 x703000 x704000 x709000)
def jm.l0 : Nat → Int → Int → List (S94) → List (S54) → List (S54) → List (S54) → Option (Bool)
 | 0,_,_,_,_,_,_=>none
 | k+1,x10,x11,x702000,x703000,x704000,x709000=>if x11<(x709000.length:Int) then ((jxa.f k x702000 x709000 x11).bind fun bt716=>((jxa.f k x702000 x703000 x11).bind fun bt721=>(if x11≥x10 then ((jxa.f k x702000 x704000 (wrap64 (x11 - x10))).bind fun bt726=>(jm.j2 k x10 x11 bt716.2 bt726.2 x702000 x703000 x704000 x709000 bt716.1 bt726.1)) else (jm.j2 k x10 x11 bt716.2 bt721.2 x702000 x703000 x704000 x709000 bt716.1 bt721.1)))) else (some true)
def jm.j2 : Nat → Int → Int → Int → Int → List (S94) → List (S54) → List (S54) → List (S54) → List (S54) → List (S54) → Option (Bool)
 | 0,_,_,_,_,_,_,_,_,_,_=>none
 | k+1,x10,x11,x13,x15,x702000,x703000,x704000,x709000,x721000,x726000=>(jda.f k x721000 x726000).bind fun t730=>(if t730=true then (if x13=x15 then (jm.l0 k x10 (wrap64 (x11+1)) x702000 x703000 x704000 x709000) else (some false)) else (some false))
end
def jm.f (k : Nat) (l0 : List Int) : Option (Bool) := if (l0.length : Int) > 1048576 then (some true) else ((jna.f k l0).bind fun bt692 => ((jcb.f k bt692.1 bt692.2.1 bt692.2.2).bind fun bt704 => ((jO.f k bt692.1 bt692.2.1 bt692.2.2).bind fun bt709 => ((jda.f k bt704.1 bt709.1).bind fun t714 => (if t714 = true then (if (bt704.2 != bt709.2) = true then (jm.j0 k bt704.2 bt709.2 true bt692.1 bt692.2.1 bt692.2.2 bt704.1 bt709.1) else (jm.j0 k bt704.2 bt709.2 (!bt704.2) bt692.1 bt692.2.1 bt692.2.2 bt704.1 bt709.1)) else (jm.j0 k bt704.2 bt709.2 true bt692.1 bt692.2.1 bt692.2.2 bt704.1 bt709.1))))))
set_option maxHeartbeats 8000000 in
set_option maxRecDepth 100000 in
theorem jm.calls (k : Nat) (A0 : Option Addr) (c0 : Nat) (l0 : List Int) (r : Bool) (w : World) (hr0 : Kd.C (Kd.int .u8) w A0 l0.length l0) (hc0 : l0.length ≤ c0) (hT : r = true) (h : jm.f k l0 = some r) :
  Calls Try.prog 8 #[.slice A0 l0.length c0] w fun e w'=>e=.returned (.bool r)∧Below w.heap.size w w':=by
 have hu37:=Try.underlying37
 have hu32:=Try.underlying32
 have HR0:=am hr0
 have HC0:=am hc0
 clear hr0 hc0
 have HB:=am (Below.refl w.heap.size w)
 have H:(if (l0.length:Int) > 1048576 then (some true) else ((jna.f k l0).bind fun bt692=>((jcb.f k bt692.1 bt692.2.1 bt692.2.2).bind fun bt704=>((jO.f k bt692.1 bt692.2.1 bt692.2.2).bind fun bt709=>((jda.f k bt704.1 bt709.1).bind fun t714=>(if t714=true then (if (bt704.2 != bt709.2)=true then (jm.j0 k bt704.2 bt709.2 true bt692.1 bt692.2.1 bt692.2.2 bt704.1 bt709.1) else (jm.j0 k bt704.2 bt709.2 (!bt704.2) bt692.1 bt692.2.1 bt692.2.2 bt704.1 bt709.1)) else (jm.j0 k bt704.2 bt709.2 true bt692.1 bt692.2.1 bt692.2.2 bt704.1 bt709.1)))))))=some r:=h
 clear h
 by_cases c2:(l0.length:Int) > 1048576
 ·rw [if_pos c2] at H
  have c2b0:decide (1048576<(l0.length:Int))=true:=dzT c2
  have c2b1:decide (1048576<l0.length)=true:=dzT (by omega)
  clear c2
  obtain rfl:=Option.some.inj H
  go_enter Try.func8,Try.ntmps8
  go_wp2
  go_ret
  exact ⟨Y2,bq⟩
 ·rw [if_neg c2] at H
  have c2b0:decide (1048576<(l0.length:Int))=false:=dzF c2
  have c2b1:decide (1048576<l0.length)=false:=dzF (by omega)
  clear c2
  replace H:=bzS H
  obtain ⟨⟨t692,t695,t698⟩,A30,H⟩:=H
  replace H:((jcb.f k t692 t695 t698).bind fun bt704=>((jO.f k t692 t695 t698).bind fun bt709=>((jda.f k bt704.1 bt709.1).bind fun t714=>(if t714=true then (if (bt704.2 != bt709.2)=true then (jm.j0 k bt704.2 bt709.2 true t692 t695 t698 bt704.1 bt709.1) else (jm.j0 k bt704.2 bt709.2 (!bt704.2) t692 t695 t698 bt704.1 bt709.1)) else (jm.j0 k bt704.2 bt709.2 true t692 t695 t698 bt704.1 bt709.1)))))=some r:=H
  have A3:=am A30
  clear A30
  replace H:=bzS H
  obtain ⟨⟨t704,t707⟩,A40,H⟩:=H
  replace H:((jO.f k t692 t695 t698).bind fun bt709=>((jda.f k t704 bt709.1).bind fun t714=>(if t714=true then (if (t707 != bt709.2)=true then (jm.j0 k t707 bt709.2 true t692 t695 t698 t704 bt709.1) else (jm.j0 k t707 bt709.2 (!t707) t692 t695 t698 t704 bt709.1)) else (jm.j0 k t707 bt709.2 true t692 t695 t698 t704 bt709.1))))=some r:=H
  have A4:=am A40
  clear A40
  replace H:=bzS H
  obtain ⟨⟨t709,t712⟩,A50,H⟩:=H
  replace H:((jda.f k t704 t709).bind fun t714=>(if t714=true then (if (t707 != t712)=true then (jm.j0 k t707 t712 true t692 t695 t698 t704 t709) else (jm.j0 k t707 t712 (!t707) t692 t695 t698 t704 t709)) else (jm.j0 k t707 t712 true t692 t695 t698 t704 t709)))=some r:=H
  have A5:=am A50
  clear A50
  have HC6:=am H
  clear H
  go_enter Try.func8,Try.ntmps8
  go_upto_region 6 with (first |((with_reducible refine jC (f:=35) rfl ?_);refine gL (some 21) Try.func35 #[.slice A0 l0.length c0] ?_;(with_reducible refine (jna.calls k _ _ l0 t692 t695 t698 _ ?side1 ?side2 A3.out).mono ?_);(case side1=>exact Y171);(case side2=>exact HC0.out);rintro e w7 ⟨v693,v696,v699,rfl,ho0,ho1,ho2,hb⟩;refine ⟨_,rfl,?_⟩;have HO694:=am (Kd.jla ho0 (jQ (bq)));have HO697:=am (Kd.jla ho1 (jQ (bq)));have HO700:=am (Kd.jla ho2 (jQ (bq)));replace HB:=am (jl (bq) hb);(try clear hb);(try clear hb2);(try clear hk);(try clear hi);(try clear ho0);(try clear ho1);(try clear ho2)) |((with_reducible refine jI (N:=3) rfl ?_);refine bE (N:=3) (cs:=#[.slice none 0 0]) (t:=37) ?_;intro gb701 hg w8 hbox hb;have BK701:=am (hbox);have GW701:=am ((Y1:w.heap.size≤gb701));have GE701:=am ((Y1:w.heap.size≤gb701));replace HO694:=am (Kd.jP (rq HO694.out) hb);replace HO697:=am (Kd.jP (rq HO697.out) hb);replace HO700:=am (Kd.jP (rq HO700.out) hb);replace HB:=am (jl (bq) hb);clear hb hbox hg) |((with_reducible refine jI (N:=4) rfl ?_);refine bE (N:=4) (cs:=#[.slice none 0 0]) (t:=32) ?_;intro gb702 hg w9 hbox hb;have BK702:=am (hbox);have GW702:=am ((Y209:w.heap.size≤gb702));have GE702:=am ((Y209:w.heap.size≤gb702));have NB701_702:=am ((by rw [hg];exact Nat.ne_of_lt (jV (g:=gb701) (o:=.cells #[.slice none 0 0] 37 (0,0)) (kq BK701.out)):gb701≠gb702));have NB702_701:=am ((by rw [hg];exact Nat.ne_of_gt (jV (g:=gb701) (o:=.cells #[.slice none 0 0] 37 (0,0)) (kq BK701.out)):gb702≠gb701));replace HO694:=am (Kd.jP (rq HO694.out) hb);replace HO697:=am (Kd.jP (rq HO697.out) hb);replace HO700:=am (Kd.jP (rq HO700.out) hb);replace BK701:=am (je (g:=gb701) (o:=.cells #[.slice none 0 0] 37 (0,0)) (kq BK701.out) hb);replace HB:=am (jl (by repeat (first |(with_reducible first | exact HB.out | apply jy | apply jo | apply jr | refine jk ?_ GE701.out) | exact HB.out)) hb);clear hb hbox hg) |((with_reducible refine jI (N:=5) rfl ?_);refine bE (N:=5) (cs:=#[.slice none 0 0]) (t:=32) ?_;intro gb703 hg w10 hbox hb;have BK703:=am (hbox);have GW703:=am ((Y210:w.heap.size≤gb703));have GE703:=am ((Y210:w.heap.size≤gb703));have NB701_703:=am ((by rw [hg];exact Nat.ne_of_lt (jV (g:=gb701) (o:=.cells #[.slice none 0 0] 37 (0,0)) (kq BK701.out)):gb701≠gb703));have NB703_701:=am ((by rw [hg];exact Nat.ne_of_gt (jV (g:=gb701) (o:=.cells #[.slice none 0 0] 37 (0,0)) (kq BK701.out)):gb703≠gb701));have NB702_703:=am ((by rw [hg];exact Nat.ne_of_lt (jV (g:=gb702) (o:=.cells #[.slice none 0 0] 32 (0,0)) (kq BK702.out)):gb702≠gb703));have NB703_702:=am ((by rw [hg];exact Nat.ne_of_gt (jV (g:=gb702) (o:=.cells #[.slice none 0 0] 32 (0,0)) (kq BK702.out)):gb703≠gb702));replace HO694:=am (Kd.jP (rq HO694.out) hb);replace HO697:=am (Kd.jP (rq HO697.out) hb);replace HO700:=am (Kd.jP (rq HO700.out) hb);replace BK701:=am (je (g:=gb701) (o:=.cells #[.slice none 0 0] 37 (0,0)) (kq BK701.out) hb);replace BK702:=am (je (g:=gb702) (o:=.cells #[.slice none 0 0] 32 (0,0)) (kq BK702.out) hb);replace HB:=am (jl (by repeat (first |(with_reducible first | exact HB.out | apply jy | apply jo | apply jr | refine jk ?_ GE701.out | refine jk ?_ GE702.out) | exact HB.out)) hb);clear hb hbox hg;obtain ⟨Ao11,co11,eo11⟩:=Kd.jaa HO694.out;subst eo11;have hnb12:=NB701_702.out;have hnc12:=NB702_701.out;have hnb13:=NB701_703.out;have hnc13:=NB703_701.out;have hcz14_0:=bc0 BK701.out;have hfz14_0:=jf BK701.out 0;obtain ⟨Ao15,co15,eo15⟩:=Kd.jaa HO697.out;subst eo15;have hnb16:=NB702_703.out;have hnc16:=NB703_702.out;have hcz17_0:=bc0 BK702.out;have hfz17_0:=jf BK702.out 0;obtain ⟨Ao18,co18,eo18⟩:=Kd.jaa HO700.out;subst eo18;have hcz19_0:=bc0 BK703.out;have hfz19_0:=jf BK703.out 0) |((with_reducible refine jC (f:=36) rfl ?_);refine gL (some 29) Try.func36 #[.agg #[.slice Ao11 t692.length co11], .agg #[.slice Ao15 t695.length co15], .agg #[.slice Ao18 t698.length co18]] ?_;(with_reducible refine (jcb.calls k _ _ t692 _ _ t695 _ _ t698 t704 t707 _ ?side1 ?side2 ?side3 ?side4 ?side5 ?side6 A4.out).mono ?_);(case side1=>refine (Kd.jB (e:=94) (base:=w.heap.size) (ok:=fun k_=>True) (n:=t692.length) (c:=co11) ?_).2.2;exact (Y211));(case side2=>exact (Kd.jB HO694.out).2.1);(case side3=>refine (Kd.jB (e:=54) (base:=w.heap.size) (ok:=fun k_=>some k_≠(.slice Ao18 t698.length co18:Value).ownBlock) (n:=t695.length) (c:=co15) ?_).2.2;exact (Y151));(case side4=>exact (Kd.jB HO697.out).2.1);(case side5=>refine (Kd.jB (e:=54) (base:=w.heap.size) (ok:=fun k_=>some k_≠(.slice Ao15 t695.length co15:Value).ownBlock) (n:=t698.length) (c:=co18) ?_).2.2;exact (Y152));(case side6=>exact (Kd.jB HO700.out).2.1);rintro e w20 ⟨v705,rfl,ho0,hb⟩;refine ⟨_,rfl,?_⟩;have HO706:=am (Kd.jla (Kd.jAb (Kd.jAb ho0 (Kd.R_lt (Y151))) (Kd.R_lt (Y152))) (jQ (Y153)));replace HO694:=am (Kd.jP (Y211) hb);replace HO697:=am (Kd.jTa (Y151) (Kd.jBb ho0) hb);replace HO700:=am (Kd.jTa (Y152) (Kd.jBb ho0) hb);replace BK701:=am (je (g:=gb701) (o:=.cells #[.slice Ao11 t692.length co11] 37 (0,0)) (by (with_reducible repeat (first | refine jb ?_ _ | refine jd ?_ | refine jc ?_ _));refine jA ?_ NB701_703.out _;(with_reducible repeat (first | refine jb ?_ _ | refine jd ?_ | refine jc ?_ _));refine jA ?_ NB701_702.out _;(with_reducible repeat (first | refine jb ?_ _ | refine jd ?_ | refine jc ?_ _));refine jfa (cs:=#[.slice none 0 0]) ?_ 0 _ rfl;(with_reducible repeat (first | refine jb ?_ _ | refine jd ?_ | refine jc ?_ _));exact BK701.out) hb);replace BK702:=am (je (g:=gb702) (o:=.cells #[.slice Ao15 t695.length co15] 32 (0,0)) (by (with_reducible repeat (first | refine jb ?_ _ | refine jd ?_ | refine jc ?_ _));refine jA ?_ NB702_703.out _;(with_reducible repeat (first | refine jb ?_ _ | refine jd ?_ | refine jc ?_ _));refine jfa (cs:=#[.slice none 0 0]) ?_ 0 _ rfl;(with_reducible repeat (first | refine jb ?_ _ | refine jd ?_ | refine jc ?_ _));refine jA ?_ NB702_701.out _;(with_reducible repeat (first | refine jb ?_ _ | refine jd ?_ | refine jc ?_ _));exact BK702.out) hb);replace BK703:=am (je (g:=gb703) (o:=.cells #[.slice Ao18 t698.length co18] 32 (0,0)) (by (with_reducible repeat (first | refine jb ?_ _ | refine jd ?_ | refine jc ?_ _));refine jfa (cs:=#[.slice none 0 0]) ?_ 0 _ rfl;(with_reducible repeat (first | refine jb ?_ _ | refine jd ?_ | refine jc ?_ _));refine jA ?_ NB703_702.out _;(with_reducible repeat (first | refine jb ?_ _ | refine jd ?_ | refine jc ?_ _));refine jA ?_ NB703_701.out _;(with_reducible repeat (first | refine jb ?_ _ | refine jd ?_ | refine jc ?_ _));exact BK703.out) hb);replace HB:=am (jl (Y153) hb);(try clear hb);(try clear hb2);(try clear hk);(try clear hi);(try clear ho0)) |((with_reducible refine jI (N:=6) rfl ?_);refine bE (N:=6) (cs:=#[.slice none 0 0]) (t:=32) ?_;intro gb708 hg w21 hbox hb;have BK708:=am (hbox);have GW708:=am ((Y212:w.heap.size≤gb708));have GE708:=am ((Y212:w.heap.size≤gb708));have NB701_708:=am ((Y127:gb701≠gb708));have NB708_701:=am ((Y128:gb708≠gb701));have NB702_708:=am ((Y129:gb702≠gb708));have NB708_702:=am ((Y130:gb708≠gb702));have NB703_708:=am ((Y131:gb703≠gb708));have NB708_703:=am ((Y132:gb708≠gb703));replace HO694:=am (Kd.jP (rq HO694.out) hb);replace HO697:=am (Kd.jP (rq HO697.out) hb);replace HO700:=am (Kd.jP (rq HO700.out) hb);replace HO706:=am (Kd.jP (rq HO706.out) hb);replace BK701:=am (je (g:=gb701) (o:=.cells #[.slice Ao11 t692.length co11] 37 (0,0)) (kq BK701.out) hb);replace BK702:=am (je (g:=gb702) (o:=.cells #[.slice Ao15 t695.length co15] 32 (0,0)) (kq BK702.out) hb);replace BK703:=am (je (g:=gb703) (o:=.cells #[.slice Ao18 t698.length co18] 32 (0,0)) (kq BK703.out) hb);replace HB:=am (jl (Y153) hb);clear hb hbox hg;obtain ⟨Ao22,co22,eo22⟩:=Kd.jaa HO706.out;subst eo22;have hnb23:=NB708_701.out;have hnc23:=NB701_708.out;have hnb24:=NB708_702.out;have hnc24:=NB702_708.out;have hnb25:=NB708_703.out;have hnc25:=NB703_708.out;have hcz26_0:=bc0 BK708.out;have hfz26_0:=jf BK708.out 0;have hcz27_0:=bc0 BK701.out;have hfz27_0:=jf BK701.out 0;have hcz28_0:=bc0 BK702.out;have hfz28_0:=jf BK702.out 0;have hcz29_0:=bc0 BK703.out;have hfz29_0:=jf BK703.out 0) |((with_reducible refine jC (f:=37) rfl ?_);refine gL (some 36) Try.func37 #[.agg #[.slice Ao11 t692.length co11], .agg #[.slice Ao15 t695.length co15], .agg #[.slice Ao18 t698.length co18]] ?_;(with_reducible refine (jO.calls k _ _ t692 _ _ t695 _ _ t698 t709 t712 _ ?side1 ?side2 ?side3 ?side4 ?side5 ?side6 A5.out).mono ?_);(case side1=>refine (Kd.jB (e:=94) (base:=w.heap.size) (ok:=fun k_=>True) (n:=t692.length) (c:=co11) ?_).2.2;exact (Y213));(case side2=>exact (Kd.jB HO694.out).2.1);(case side3=>refine (Kd.jB (e:=54) (base:=w.heap.size) (ok:=fun k_=>(some k_≠(.slice Ao18 t698.length co18:Value).ownBlock∧some k_≠(.slice Ao22 t704.length co22:Value).ownBlock)) (n:=t695.length) (c:=co15) ?_).2.2;exact (Y154));(case side4=>exact (Kd.jB HO697.out).2.1);(case side5=>refine (Kd.jB (e:=54) (base:=w.heap.size) (ok:=fun k_=>(some k_≠(.slice Ao15 t695.length co15:Value).ownBlock∧some k_≠(.slice Ao22 t704.length co22:Value).ownBlock)) (n:=t698.length) (c:=co18) ?_).2.2;exact (Y155));(case side6=>exact (Kd.jB HO700.out).2.1);rintro e w30 ⟨v710,rfl,ho0,hb⟩;refine ⟨_,rfl,?_⟩;have HO711:=am (Kd.jla (Kd.jAb (Kd.jAb (Kd.jAb ho0 (Kd.R_lt (Y154))) (Kd.R_lt (Y155))) (Kd.R_lt (Y214))) (jQ (Y156)));replace HO694:=am (Kd.jP (Y213) hb);replace HO697:=am (Kd.jTa (Y154) (Kd.jBb ho0) hb);replace HO700:=am (Kd.jTa (Y155) (Kd.jBb ho0) hb);replace HO706:=am (Kd.jTa (Y214) (Kd.jBb ho0) hb);replace BK701:=am (je (g:=gb701) (o:=.cells #[.slice Ao11 t692.length co11] 37 (0,0)) (by (with_reducible repeat (first | refine jb ?_ _ | refine jd ?_ | refine jc ?_ _));refine jA ?_ NB701_708.out _;(with_reducible repeat (first | refine jb ?_ _ | refine jd ?_ | refine jc ?_ _));exact BK701.out) hb);replace BK702:=am (je (g:=gb702) (o:=.cells #[.slice Ao15 t695.length co15] 32 (0,0)) (by (with_reducible repeat (first | refine jb ?_ _ | refine jd ?_ | refine jc ?_ _));refine jA ?_ NB702_708.out _;(with_reducible repeat (first | refine jb ?_ _ | refine jd ?_ | refine jc ?_ _));exact BK702.out) hb);replace BK703:=am (je (g:=gb703) (o:=.cells #[.slice Ao18 t698.length co18] 32 (0,0)) (by (with_reducible repeat (first | refine jb ?_ _ | refine jd ?_ | refine jc ?_ _));refine jA ?_ NB703_708.out _;(with_reducible repeat (first | refine jb ?_ _ | refine jd ?_ | refine jc ?_ _));exact BK703.out) hb);replace BK708:=am (je (g:=gb708) (o:=.cells #[.slice Ao22 t704.length co22] 32 (0,0)) (by (with_reducible repeat (first | refine jb ?_ _ | refine jd ?_ | refine jc ?_ _));refine jfa (cs:=#[.slice none 0 0]) ?_ 0 _ rfl;(with_reducible repeat (first | refine jb ?_ _ | refine jd ?_ | refine jc ?_ _));exact BK708.out) hb);replace HB:=am (jl (Y156) hb);(try clear hb);(try clear hb2);(try clear hk);(try clear hi);(try clear ho0)) |((with_reducible refine jI (N:=8) rfl ?_);refine bE (N:=8) (cs:=#[.slice none 0 0]) (t:=32) ?_;intro gb713 hg w31 hbox hb;have BK713:=am (hbox);have GW713:=am ((Y215:w.heap.size≤gb713));have GE713:=am ((Y215:w.heap.size≤gb713));have NB701_713:=am ((Y127:gb701≠gb713));have NB713_701:=am ((Y128:gb713≠gb701));have NB702_713:=am ((Y129:gb702≠gb713));have NB713_702:=am ((Y130:gb713≠gb702));have NB703_713:=am ((Y131:gb703≠gb713));have NB713_703:=am ((Y132:gb713≠gb703));have NB708_713:=am ((Y157:gb708≠gb713));have NB713_708:=am ((Y158:gb713≠gb708));replace HO694:=am (Kd.jP (rq HO694.out) hb);replace HO697:=am (Kd.jP (rq HO697.out) hb);replace HO700:=am (Kd.jP (rq HO700.out) hb);replace HO706:=am (Kd.jP (rq HO706.out) hb);replace HO711:=am (Kd.jP (rq HO711.out) hb);replace BK701:=am (je (g:=gb701) (o:=.cells #[.slice Ao11 t692.length co11] 37 (0,0)) (kq BK701.out) hb);replace BK702:=am (je (g:=gb702) (o:=.cells #[.slice Ao15 t695.length co15] 32 (0,0)) (kq BK702.out) hb);replace BK703:=am (je (g:=gb703) (o:=.cells #[.slice Ao18 t698.length co18] 32 (0,0)) (kq BK703.out) hb);replace BK708:=am (je (g:=gb708) (o:=.cells #[.slice Ao22 t704.length co22] 32 (0,0)) (kq BK708.out) hb);replace HB:=am (jl (Y156) hb);clear hb hbox hg;obtain ⟨Ao32,co32,eo32⟩:=Kd.jaa HO711.out;subst eo32;have hnb33:=NB713_701.out;have hnc33:=NB701_713.out;have hnb34:=NB713_702.out;have hnc34:=NB702_713.out;have hnb35:=NB713_703.out;have hnc35:=NB703_713.out;have hnb36:=NB713_708.out;have hnc36:=NB708_713.out;have hcz37_0:=bc0 BK713.out;have hfz37_0:=jf BK713.out 0))
  (try simp only [Act.put,List.setIfInBounds_toArray,List.set_cons_zero,List.set_cons_succ])
  go_cut [51] (fun v51 wc=>∃ (kq:Nat) (x51_5:Bool),v51=.bool x51_5∧jw (jm.j0 kq t707 t712 x51_5 t692 t695 t698 t704 t709=some r)∧jw (kq≤k)∧jw (Kd.R k94 94 wc w.heap.size (fun _=>True) (.slice Ao11 t692.length co11) t692)∧jw (Kd.R k54 54 wc w.heap.size (fun k_=>some k_≠((.slice Ao18 t698.length co18):Value).ownBlock∧some k_≠((.slice Ao22 t704.length co22):Value).ownBlock∧some k_≠((.slice Ao32 t709.length co32):Value).ownBlock) (.slice Ao15 t695.length co15) t695)∧jw (Kd.R k54 54 wc w.heap.size (fun k_=>some k_≠((.slice Ao15 t695.length co15):Value).ownBlock∧some k_≠((.slice Ao22 t704.length co22):Value).ownBlock∧some k_≠((.slice Ao32 t709.length co32):Value).ownBlock) (.slice Ao18 t698.length co18) t698)∧jw (Kd.R k54 54 wc w.heap.size (fun k_=>some k_≠((.slice Ao15 t695.length co15):Value).ownBlock∧some k_≠((.slice Ao18 t698.length co18):Value).ownBlock∧some k_≠((.slice Ao32 t709.length co32):Value).ownBlock) (.slice Ao22 t704.length co22) t704)∧jw (Kd.R k54 54 wc w.heap.size (fun k_=>some k_≠((.slice Ao15 t695.length co15):Value).ownBlock∧some k_≠((.slice Ao18 t698.length co18):Value).ownBlock∧some k_≠((.slice Ao22 t704.length co22):Value).ownBlock) (.slice Ao32 t709.length co32) t709)∧jw (wc.heap[gb701]?=some (.cells #[(.slice Ao11 t692.length co11)] 37 (0,0)))∧jw (wc.heap[gb702]?=some (.cells #[(.slice Ao15 t695.length co15)] 32 (0,0)))∧jw (wc.heap[gb703]?=some (.cells #[(.slice Ao18 t698.length co18)] 32 (0,0)))∧jw (wc.heap[gb708]?=some (.cells #[(.slice Ao22 t704.length co22)] 32 (0,0)))∧jw (wc.heap[gb713]?=some (.cells #[(.slice Ao32 t709.length co32)] 32 (0,0)))∧jw (Below w.heap.size w wc))
  case first =>
   have H:=HC6.out
   clear HC6
   replace H:=bzS H
   obtain ⟨t714,A380,H⟩:=H
   replace H:(if t714=true then (if (t707 != t712)=true then (jm.j0 k t707 t712 true t692 t695 t698 t704 t709) else (jm.j0 k t707 t712 (!t707) t692 t695 t698 t704 t709)) else (jm.j0 k t707 t712 true t692 t695 t698 t704 t709))=some r:=H
   have A38:=am A380
   clear A380
   by_cases c39:t714=true
   ·subst c39
    have H1:(if (t707 != t712)=true then (jm.j0 k t707 t712 true t692 t695 t698 t704 t709) else (jm.j0 k t707 t712 (!t707) t692 t695 t698 t704 t709))=some r:=by rw [if_pos rfl] at H;exact H
    clear H
    have H:=H1
    clear H1
    by_cases c40:(t707 != t712)=true
    ·rw [if_pos c40] at H
     have c40b0:(t707 != t712)=true:=c40
     (try (have c40b1:decide (t707=t712)=false:=by simpa using c40))
     (try (have c40b2:(t707 == t712)=false:=by simpa using c40))
     (try (have c40b3:¬ (t707=t712):=by simpa using c40))
     clear c40
     (first | rw [c40b0] |(simp only [jjb,job];rw [c40b0]) | skip)
     have H':=am H
     clear H
     have hnb41:=NB708_701.out
     have hnc41:=NB701_708.out
     have hnb42:=NB708_702.out
     have hnc42:=NB702_708.out
     have hnb43:=NB708_703.out
     have hnc43:=NB703_708.out
     have hnb44:=NB708_713.out
     have hnc44:=NB713_708.out
     have hcz45_0:=bc0 BK708.out
     have hfz45_0:=jf BK708.out 0
     have hnb46:=NB713_701.out
     have hnc46:=NB701_713.out
     have hnb47:=NB713_702.out
     have hnc47:=NB702_713.out
     have hnb48:=NB713_703.out
     have hnc48:=NB703_713.out
     have hcz49_0:=bc0 BK713.out
     have hfz49_0:=jf BK713.out 0
     go_wp2_with (first |((with_reducible refine jC (f:=38) rfl ?_);refine gL (some 41) Try.func38 #[.agg #[.slice Ao22 t704.length co22], .agg #[.slice Ao32 t709.length co32]] ?_;(with_reducible refine (jda.calls k _ _ t704 _ _ t709 true _ ?side1 ?side2 ?side3 ?side4 A38.out).mono ?_);(case side1=>refine (Kd.jB (e:=54) (base:=w.heap.size) (ok:=fun k_=>(((True∧some k_≠(.slice Ao15 t695.length co15:Value).ownBlock)∧some k_≠(.slice Ao18 t698.length co18:Value).ownBlock)∧some k_≠(.slice Ao32 t709.length co32:Value).ownBlock)) (n:=t704.length) (c:=co22) ?_).2.2;exact (Y87));(case side2=>exact (Kd.jB HO706.out).2.1);(case side3=>refine (Kd.jB (e:=54) (base:=w.heap.size) (ok:=fun k_=>(((True∧some k_≠(.slice Ao15 t695.length co15:Value).ownBlock)∧some k_≠(.slice Ao18 t698.length co18:Value).ownBlock)∧some k_≠(.slice Ao22 t704.length co22:Value).ownBlock)) (n:=t709.length) (c:=co32) ?_).2.2;exact (Y88));(case side4=>exact (Kd.jB HO711.out).2.1);rintro e w50 ⟨rfl,hb⟩;refine ⟨_,rfl,?_⟩;replace HO694:=am (Kd.jP (Y159) hb);replace HO697:=am (Kd.jP (Y160) hb);replace HO700:=am (Kd.jP (Y161) hb);replace HO706:=am (Kd.jP (Y87) hb);replace HO711:=am (Kd.jP (Y88) hb);replace BK701:=am (je (g:=gb701) (o:=.cells #[.slice Ao11 t692.length co11] 37 (0,0)) (Y162) hb);replace BK702:=am (je (g:=gb702) (o:=.cells #[.slice Ao15 t695.length co15] 32 (0,0)) (Y163) hb);replace BK703:=am (je (g:=gb703) (o:=.cells #[.slice Ao18 t698.length co18] 32 (0,0)) (Y164) hb);replace BK708:=am (je (g:=gb708) (o:=.cells #[.slice Ao22 t704.length co22] 32 (0,0)) (Y165) hb);replace BK713:=am (je (g:=gb713) (o:=.cells #[.slice Ao32 t709.length co32] 32 (0,0)) (Y166) hb);replace HB:=am (jl (Y28) hb);(try clear hb);(try clear hb2);(try clear hk);(try clear hi)))
     go_meet
     case rel=>exact ⟨_,(true),(sq),H',⟨Y45⟩,⟨rq HO694.out⟩,⟨by (with_reducible repeat (first | apply Kd.jL | apply Kd.jM | apply Kd.jN));exact Kd.jD HO697.out (fun _ hk=>⟨hk.1.1,⟨hk.1.2,hk.2⟩⟩)⟩,⟨by (with_reducible repeat (first | apply Kd.jL | apply Kd.jM | apply Kd.jN));exact Kd.jD HO700.out (fun _ hk=>⟨hk.1.1,⟨hk.1.2,hk.2⟩⟩)⟩,⟨by (with_reducible repeat (first | apply Kd.jL | apply Kd.jM | apply Kd.jN));exact Kd.jD HO706.out (fun _ hk=>⟨hk.1.1.2,⟨hk.1.2,hk.2⟩⟩)⟩,⟨by (with_reducible repeat (first | apply Kd.jL | apply Kd.jM | apply Kd.jN));exact Kd.jD HO711.out (fun _ hk=>⟨hk.1.1.2,⟨hk.1.2,hk.2⟩⟩)⟩,⟨kq BK701.out⟩,⟨kq BK702.out⟩,⟨kq BK703.out⟩,⟨kq BK708.out⟩,⟨kq BK713.out⟩,⟨Y28⟩⟩
    ·rw [if_neg c40] at H
     have c40b0:(t707 != t712)=false:=by simpa using c40
     (try (have c40b1:decide (t707=t712)=true:=by simpa using c40))
     (try (have c40b2:(t707 == t712)=true:=by simpa using c40))
     clear c40
     (first | rw [c40b0] |(simp only [jjb,job];rw [c40b0]) | skip)
     have H':=am H
     clear H
     have hnb51:=NB708_701.out
     have hnc51:=NB701_708.out
     have hnb52:=NB708_702.out
     have hnc52:=NB702_708.out
     have hnb53:=NB708_703.out
     have hnc53:=NB703_708.out
     have hnb54:=NB708_713.out
     have hnc54:=NB713_708.out
     have hcz55_0:=bc0 BK708.out
     have hfz55_0:=jf BK708.out 0
     have hnb56:=NB713_701.out
     have hnc56:=NB701_713.out
     have hnb57:=NB713_702.out
     have hnc57:=NB702_713.out
     have hnb58:=NB713_703.out
     have hnc58:=NB703_713.out
     have hcz59_0:=bc0 BK713.out
     have hfz59_0:=jf BK713.out 0
     go_wp2_with (first |((with_reducible refine jC (f:=38) rfl ?_);refine gL (some 41) Try.func38 #[.agg #[.slice Ao22 t704.length co22], .agg #[.slice Ao32 t709.length co32]] ?_;(with_reducible refine (jda.calls k _ _ t704 _ _ t709 true _ ?side1 ?side2 ?side3 ?side4 A38.out).mono ?_);(case side1=>refine (Kd.jB (e:=54) (base:=w.heap.size) (ok:=fun k_=>(((True∧some k_≠(.slice Ao15 t695.length co15:Value).ownBlock)∧some k_≠(.slice Ao18 t698.length co18:Value).ownBlock)∧some k_≠(.slice Ao32 t709.length co32:Value).ownBlock)) (n:=t704.length) (c:=co22) ?_).2.2;exact (Y87));(case side2=>exact (Kd.jB HO706.out).2.1);(case side3=>refine (Kd.jB (e:=54) (base:=w.heap.size) (ok:=fun k_=>(((True∧some k_≠(.slice Ao15 t695.length co15:Value).ownBlock)∧some k_≠(.slice Ao18 t698.length co18:Value).ownBlock)∧some k_≠(.slice Ao22 t704.length co22:Value).ownBlock)) (n:=t709.length) (c:=co32) ?_).2.2;exact (Y88));(case side4=>exact (Kd.jB HO711.out).2.1);rintro e w60 ⟨rfl,hb⟩;refine ⟨_,rfl,?_⟩;replace HO694:=am (Kd.jP (Y159) hb);replace HO697:=am (Kd.jP (Y160) hb);replace HO700:=am (Kd.jP (Y161) hb);replace HO706:=am (Kd.jP (Y87) hb);replace HO711:=am (Kd.jP (Y88) hb);replace BK701:=am (je (g:=gb701) (o:=.cells #[.slice Ao11 t692.length co11] 37 (0,0)) (Y162) hb);replace BK702:=am (je (g:=gb702) (o:=.cells #[.slice Ao15 t695.length co15] 32 (0,0)) (Y163) hb);replace BK703:=am (je (g:=gb703) (o:=.cells #[.slice Ao18 t698.length co18] 32 (0,0)) (Y164) hb);replace BK708:=am (je (g:=gb708) (o:=.cells #[.slice Ao22 t704.length co22] 32 (0,0)) (Y165) hb);replace BK713:=am (je (g:=gb713) (o:=.cells #[.slice Ao32 t709.length co32] 32 (0,0)) (Y166) hb);replace HB:=am (jl (Y28) hb);(try clear hb);(try clear hb2);(try clear hk);(try clear hi)))
     go_meet
     case rel=>exact ⟨_,(!t707),(sq),H',⟨Y45⟩,⟨rq HO694.out⟩,⟨by (with_reducible repeat (first | apply Kd.jL | apply Kd.jM | apply Kd.jN));exact Kd.jD HO697.out (fun _ hk=>⟨hk.1.1,⟨hk.1.2,hk.2⟩⟩)⟩,⟨by (with_reducible repeat (first | apply Kd.jL | apply Kd.jM | apply Kd.jN));exact Kd.jD HO700.out (fun _ hk=>⟨hk.1.1,⟨hk.1.2,hk.2⟩⟩)⟩,⟨by (with_reducible repeat (first | apply Kd.jL | apply Kd.jM | apply Kd.jN));exact Kd.jD HO706.out (fun _ hk=>⟨hk.1.1.2,⟨hk.1.2,hk.2⟩⟩)⟩,⟨by (with_reducible repeat (first | apply Kd.jL | apply Kd.jM | apply Kd.jN));exact Kd.jD HO711.out (fun _ hk=>⟨hk.1.1.2,⟨hk.1.2,hk.2⟩⟩)⟩,⟨kq BK701.out⟩,⟨kq BK702.out⟩,⟨kq BK703.out⟩,⟨kq BK708.out⟩,⟨kq BK713.out⟩,⟨Y28⟩⟩
   ·replace c39:=Bool.eq_false_iff.mpr c39
    subst c39
    have H1:(jm.j0 k t707 t712 true t692 t695 t698 t704 t709)=some r:=by rw [if_neg (show ¬ (false=true) by decide)] at H;exact H
    clear H
    have H:=H1
    clear H1
    have H':=am H
    clear H
    have hnb61:=NB708_701.out
    have hnc61:=NB701_708.out
    have hnb62:=NB708_702.out
    have hnc62:=NB702_708.out
    have hnb63:=NB708_703.out
    have hnc63:=NB703_708.out
    have hnb64:=NB708_713.out
    have hnc64:=NB713_708.out
    have hcz65_0:=bc0 BK708.out
    have hfz65_0:=jf BK708.out 0
    have hnb66:=NB713_701.out
    have hnc66:=NB701_713.out
    have hnb67:=NB713_702.out
    have hnc67:=NB702_713.out
    have hnb68:=NB713_703.out
    have hnc68:=NB703_713.out
    have hcz69_0:=bc0 BK713.out
    have hfz69_0:=jf BK713.out 0
    go_wp2_with (first |((with_reducible refine jC (f:=38) rfl ?_);refine gL (some 41) Try.func38 #[.agg #[.slice Ao22 t704.length co22], .agg #[.slice Ao32 t709.length co32]] ?_;(with_reducible refine (jda.calls k _ _ t704 _ _ t709 false _ ?side1 ?side2 ?side3 ?side4 A38.out).mono ?_);(case side1=>refine (Kd.jB (e:=54) (base:=w.heap.size) (ok:=fun k_=>(((True∧some k_≠(.slice Ao15 t695.length co15:Value).ownBlock)∧some k_≠(.slice Ao18 t698.length co18:Value).ownBlock)∧some k_≠(.slice Ao32 t709.length co32:Value).ownBlock)) (n:=t704.length) (c:=co22) ?_).2.2;exact (Y87));(case side2=>exact (Kd.jB HO706.out).2.1);(case side3=>refine (Kd.jB (e:=54) (base:=w.heap.size) (ok:=fun k_=>(((True∧some k_≠(.slice Ao15 t695.length co15:Value).ownBlock)∧some k_≠(.slice Ao18 t698.length co18:Value).ownBlock)∧some k_≠(.slice Ao22 t704.length co22:Value).ownBlock)) (n:=t709.length) (c:=co32) ?_).2.2;exact (Y88));(case side4=>exact (Kd.jB HO711.out).2.1);rintro e w70 ⟨rfl,hb⟩;refine ⟨_,rfl,?_⟩;replace HO694:=am (Kd.jP (Y159) hb);replace HO697:=am (Kd.jP (Y160) hb);replace HO700:=am (Kd.jP (Y161) hb);replace HO706:=am (Kd.jP (Y87) hb);replace HO711:=am (Kd.jP (Y88) hb);replace BK701:=am (je (g:=gb701) (o:=.cells #[.slice Ao11 t692.length co11] 37 (0,0)) (Y162) hb);replace BK702:=am (je (g:=gb702) (o:=.cells #[.slice Ao15 t695.length co15] 32 (0,0)) (Y163) hb);replace BK703:=am (je (g:=gb703) (o:=.cells #[.slice Ao18 t698.length co18] 32 (0,0)) (Y164) hb);replace BK708:=am (je (g:=gb708) (o:=.cells #[.slice Ao22 t704.length co22] 32 (0,0)) (Y165) hb);replace BK713:=am (je (g:=gb713) (o:=.cells #[.slice Ao32 t709.length co32] 32 (0,0)) (Y166) hb);replace HB:=am (jl (Y28) hb);(try clear hb);(try clear hb2);(try clear hk);(try clear hi)))
    go_meet
    case rel=>exact ⟨_,(true),(sq),H',⟨Y45⟩,⟨rq HO694.out⟩,⟨by (with_reducible repeat (first | apply Kd.jL | apply Kd.jM | apply Kd.jN));exact Kd.jD HO697.out (fun _ hk=>⟨hk.1.1,⟨hk.1.2,hk.2⟩⟩)⟩,⟨by (with_reducible repeat (first | apply Kd.jL | apply Kd.jM | apply Kd.jN));exact Kd.jD HO700.out (fun _ hk=>⟨hk.1.1,⟨hk.1.2,hk.2⟩⟩)⟩,⟨by (with_reducible repeat (first | apply Kd.jL | apply Kd.jM | apply Kd.jN));exact Kd.jD HO706.out (fun _ hk=>⟨hk.1.1.2,⟨hk.1.2,hk.2⟩⟩)⟩,⟨by (with_reducible repeat (first | apply Kd.jL | apply Kd.jM | apply Kd.jN));exact Kd.jD HO711.out (fun _ hk=>⟨hk.1.1.2,⟨hk.1.2,hk.2⟩⟩)⟩,⟨kq BK701.out⟩,⟨kq BK702.out⟩,⟨kq BK703.out⟩,⟨kq BK708.out⟩,⟨kq BK713.out⟩,⟨Y28⟩⟩
  case rest =>
   clear HC6
   try clear c1
   try clear c2
   try clear c2b0
   try clear c2b1
   try clear p2
   try clear c3
   try clear c4
   try clear c5
   try clear c6
   try clear c8
   try clear c12
   try clear c13
   try clear c16
   try clear c23
   try clear c24
   try clear c25
   try clear c33
   try clear c34
   try clear c35
   try clear c36
   try clear c37
   try clear c38
   try clear c39
   try clear c40
   try clear c40b0
   try clear c40b1
   try clear c40b2
   try clear c41
   try clear c42
   try clear c43
   try clear c44
   try clear c46
   try clear c47
   try clear c48
   try clear c51
   try clear c52
   try clear c53
   try clear c54
   try clear c56
   try clear c57
   try clear c58
   try clear c61
   try clear c62
   try clear c63
   try clear c64
   try clear c66
   try clear c67
   try clear c68
   try clear hcz14_0
   try clear hcz17_0
   try clear hcz19_0
   try clear hcz26_0
   try clear hcz27_0
   try clear hcz28_0
   try clear hcz29_0
   try clear hcz37_0
   try clear hcz45_0
   try clear hcz49_0
   try clear hcz55_0
   try clear hcz59_0
   try clear hcz65_0
   try clear hcz69_0
   try clear hfz14_0
   try clear hfz17_0
   try clear hfz19_0
   try clear hfz26_0
   try clear hfz27_0
   try clear hfz28_0
   try clear hfz29_0
   try clear hfz37_0
   try clear hfz45_0
   try clear hfz49_0
   try clear hfz55_0
   try clear hfz59_0
   try clear hfz65_0
   try clear hfz69_0
   obtain ⟨kq,x51_5,rfl,HA,HJ5,HO_702000,HO_703000,HO_704000,HO_709000,HO_714000,BK701,BK702,BK703,BK708,BK713,HB⟩:=hcut
   cases kq with
   | zero=>exact absurd HA.out (by simp [jm.j0])
   | succ kj5 =>
    have H:=HA.out
    clear HA
    simp only [jm.j0] at H
    by_cases c71:x51_5=true
    ·subst c71
     have H1:((jda.f kj5 t704 t709).bind fun t715=>(if t715=true then (some (t707 == t712)) else (some false)))=some r:=by rw [if_pos rfl] at H;exact H
     clear H
     have H:=H1
     clear H1
     replace H:=bzS H
     obtain ⟨t715,A720,H⟩:=H
     replace H:(if t715=true then (some (t707 == t712)) else (some false))=some r:=H
     have A72:=am A720
     clear A720
     by_cases c73:t715=true
     ·subst c73
      have H1:(some (t707 == t712))=some r:=by rw [if_pos rfl] at H;exact H
      clear H
      have H:=H1
      clear H1
      obtain rfl:=Option.some.inj H
      have hnb74:=NB708_701.out
      have hnc74:=NB701_708.out
      have hnb75:=NB708_702.out
      have hnc75:=NB702_708.out
      have hnb76:=NB708_703.out
      have hnc76:=NB703_708.out
      have hnb77:=NB708_713.out
      have hnc77:=NB713_708.out
      have hcz78_0:=bc0 BK708.out
      have hfz78_0:=jf BK708.out 0
      have hnb79:=NB713_701.out
      have hnc79:=NB701_713.out
      have hnb80:=NB713_702.out
      have hnc80:=NB702_713.out
      have hnb81:=NB713_703.out
      have hnc81:=NB703_713.out
      have hcz82_0:=bc0 BK713.out
      have hfz82_0:=jf BK713.out 0
      go_wp2_with (first |((with_reducible refine jC (f:=38) rfl ?_);refine gL (some 54) Try.func38 #[.agg #[.slice Ao22 t704.length co22], .agg #[.slice Ao32 t709.length co32]] ?_;(with_reducible refine (jda.calls kj5 _ _ t704 _ _ t709 true _ ?side1 ?side2 ?side3 ?side4 A72.out).mono ?_);(case side1=>exact cq (Kd.jB HO_709000.out).2.2);(case side2=>exact (Kd.jB HO_709000.out).2.1);(case side3=>exact cq (Kd.jB HO_714000.out).2.2);(case side4=>exact (Kd.jB HO_714000.out).2.1);rintro e w83 ⟨rfl,hb⟩;refine ⟨_,rfl,?_⟩;replace HO_702000:=am (Kd.jP (rq HO_702000.out) hb);replace HO_703000:=am (Kd.jP (rq HO_703000.out) hb);replace HO_704000:=am (Kd.jP (rq HO_704000.out) hb);replace HO_709000:=am (Kd.jP (rq HO_709000.out) hb);replace HO_714000:=am (Kd.jP (rq HO_714000.out) hb);replace BK701:=am (je (g:=gb701) (o:=.cells #[.slice Ao11 t692.length co11] 37 (0,0)) (kq BK701.out) hb);replace BK702:=am (je (g:=gb702) (o:=.cells #[.slice Ao15 t695.length co15] 32 (0,0)) (kq BK702.out) hb);replace BK703:=am (je (g:=gb703) (o:=.cells #[.slice Ao18 t698.length co18] 32 (0,0)) (kq BK703.out) hb);replace BK708:=am (je (g:=gb708) (o:=.cells #[.slice Ao22 t704.length co22] 32 (0,0)) (kq BK708.out) hb);replace BK713:=am (je (g:=gb713) (o:=.cells #[.slice Ao32 t709.length co32] 32 (0,0)) (kq BK713.out) hb);replace HB:=am (jl (Y28) hb);(try clear hb);(try clear hb2);(try clear hk);(try clear hi)))
      go_ret
      exact ⟨Y2,Y28⟩
     ·replace c73:=Bool.eq_false_iff.mpr c73
      subst c73
      have H1:(some false)=some r:=by rw [if_neg (show ¬ (false=true) by decide)] at H;exact H
      clear H
      have H:=H1
      clear H1
      exact absurd ((Option.some.inj H).trans hT) Bool.false_ne_true
    ·replace c71:=Bool.eq_false_iff.mpr c71
     subst c71
     have H1:(jm.l0 kj5 (t695.length:Int) 0 t692 t695 t698 t704)=some r:=by rw [if_neg (show ¬ (false=true) by decide)] at H;exact H
     clear H
     have H:=H1
     clear H1
     have H':=am H
     clear H
     have hnb84:=NB702_701.out
     have hnc84:=NB701_702.out
     have hnb85:=NB702_703.out
     have hnc85:=NB703_702.out
     have hnb86:=NB702_708.out
     have hnc86:=NB708_702.out
     have hnb87:=NB702_713.out
     have hnc87:=NB713_702.out
     have hcz88_0:=bc0 BK702.out
     have hfz88_0:=jf BK702.out 0
     go_wp2
     go_loopg [11] kj5 (fun kq v11 w'=>∃ (x11_2:Int),v11=.int .i64 x11_2∧jw (jm.l0 kq (t695.length:Int) x11_2 t692 t695 t698 t704=some r)∧jw (kq≤kj5)∧jw (Kd.R k94 94 w' w.heap.size (fun _=>True) (.slice Ao11 t692.length co11) t692)∧jw (Kd.R k54 54 w' w.heap.size (fun k_=>some k_≠((.slice Ao18 t698.length co18):Value).ownBlock∧some k_≠((.slice Ao22 t704.length co22):Value).ownBlock∧some k_≠((.slice Ao32 t709.length co32):Value).ownBlock) (.slice Ao15 t695.length co15) t695)∧jw (Kd.R k54 54 w' w.heap.size (fun k_=>some k_≠((.slice Ao15 t695.length co15):Value).ownBlock∧some k_≠((.slice Ao22 t704.length co22):Value).ownBlock∧some k_≠((.slice Ao32 t709.length co32):Value).ownBlock) (.slice Ao18 t698.length co18) t698)∧jw (Kd.R k54 54 w' w.heap.size (fun k_=>some k_≠((.slice Ao15 t695.length co15):Value).ownBlock∧some k_≠((.slice Ao18 t698.length co18):Value).ownBlock∧some k_≠((.slice Ao32 t709.length co32):Value).ownBlock) (.slice Ao22 t704.length co22) t704)∧jw (Kd.R k54 54 w' w.heap.size (fun k_=>some k_≠((.slice Ao15 t695.length co15):Value).ownBlock∧some k_≠((.slice Ao18 t698.length co18):Value).ownBlock∧some k_≠((.slice Ao22 t704.length co22):Value).ownBlock) (.slice Ao32 t709.length co32) t709)∧jw (w'.heap[gb701]?=some (.cells #[(.slice Ao11 t692.length co11)] 37 (0,0)))∧jw (w'.heap[gb702]?=some (.cells #[(.slice Ao15 t695.length co15)] 32 (0,0)))∧jw (w'.heap[gb703]?=some (.cells #[(.slice Ao18 t698.length co18)] 32 (0,0)))∧jw (w'.heap[gb708]?=some (.cells #[(.slice Ao22 t704.length co22)] 32 (0,0)))∧jw (w'.heap[gb713]?=some (.cells #[(.slice Ao32 t709.length co32)] 32 (0,0)))∧jw (Below w.heap.size w w'))
     case atStart=>exact ⟨(0),(sq),H',⟨Nat.le_refl _⟩,⟨rq HO_702000.out⟩,⟨rq HO_703000.out⟩,⟨rq HO_704000.out⟩,⟨rq HO_709000.out⟩,⟨rq HO_714000.out⟩,⟨kq BK701.out⟩,⟨kq BK702.out⟩,⟨kq BK703.out⟩,⟨kq BK708.out⟩,⟨kq BK713.out⟩,⟨Y28⟩⟩
     case round =>
      clear H'
      try clear c1
      try clear c2
      try clear c2b0
      try clear c2b1
      try clear p2
      try clear c3
      try clear c4
      try clear c5
      try clear c6
      try clear c7
      try clear c8
      try clear c12
      try clear c13
      try clear c16
      try clear c23
      try clear c24
      try clear c25
      try clear c33
      try clear c34
      try clear c35
      try clear c36
      try clear c37
      try clear c38
      try clear c39
      try clear c40
      try clear c40b0
      try clear c40b1
      try clear c40b2
      try clear c41
      try clear c42
      try clear c43
      try clear c44
      try clear c46
      try clear c47
      try clear c48
      try clear c51
      try clear c52
      try clear c53
      try clear c54
      try clear c56
      try clear c57
      try clear c58
      try clear c61
      try clear c62
      try clear c63
      try clear c64
      try clear c66
      try clear c67
      try clear c68
      try clear c71
      try clear c73
      try clear c74
      try clear c75
      try clear c76
      try clear c77
      try clear c79
      try clear c80
      try clear c81
      try clear c84
      try clear c85
      try clear c86
      try clear c87
      try clear hcz14_0
      try clear hcz17_0
      try clear hcz19_0
      try clear hcz26_0
      try clear hcz27_0
      try clear hcz28_0
      try clear hcz29_0
      try clear hcz37_0
      try clear hcz45_0
      try clear hcz49_0
      try clear hcz55_0
      try clear hcz59_0
      try clear hcz65_0
      try clear hcz69_0
      try clear hcz78_0
      try clear hcz82_0
      try clear hcz88_0
      try clear hfz14_0
      try clear hfz17_0
      try clear hfz19_0
      try clear hfz26_0
      try clear hfz27_0
      try clear hfz28_0
      try clear hfz29_0
      try clear hfz37_0
      try clear hfz45_0
      try clear hfz49_0
      try clear hfz55_0
      try clear hfz59_0
      try clear hfz65_0
      try clear hfz69_0
      try clear hfz78_0
      try clear hfz82_0
      try clear hfz88_0
      try clear p2
      obtain ⟨x11_2,rfl,HA,HK2,HO_702000,HO_703000,HO_704000,HO_709000,HO_714000,BK701,BK702,BK703,BK708,BK713,HB⟩:=hrel
      cases gk with
      | zero=>exact absurd HA.out (by simp [jm.l0])
      | succ k2 =>
       have H:=HA.out
       clear HA
       simp only [jm.l0] at H
       by_cases c89:x11_2<(t704.length:Int)
       ·rw [if_pos c89] at H
        have c89b0:decide (x11_2<(t704.length:Int))=true:=dzT c89
        clear c89
        replace H:=bzS H
        obtain ⟨⟨t716,t719⟩,A900,H⟩:=H
        replace H:((jxa.f k2 t692 t695 x11_2).bind fun bt721=>(if x11_2≥(t695.length:Int) then ((jxa.f k2 t692 t698 (wrap64 (x11_2 - (t695.length:Int)))).bind fun bt726=>(jm.j2 k2 (t695.length:Int) x11_2 t719 bt726.2 t692 t695 t698 t704 t716 bt726.1)) else (jm.j2 k2 (t695.length:Int) x11_2 t719 bt721.2 t692 t695 t698 t704 t716 bt721.1)))=some r:=H
        have A90:=am A900
        clear A900
        replace H:=bzS H
        obtain ⟨⟨t721,t724⟩,A910,H⟩:=H
        replace H:(if x11_2≥(t695.length:Int) then ((jxa.f k2 t692 t698 (wrap64 (x11_2 - (t695.length:Int)))).bind fun bt726=>(jm.j2 k2 (t695.length:Int) x11_2 t719 bt726.2 t692 t695 t698 t704 t716 bt726.1)) else (jm.j2 k2 (t695.length:Int) x11_2 t719 t724 t692 t695 t698 t704 t716 t721))=some r:=H
        have A91:=am A910
        clear A910
        have HC92:=am H
        clear H
        have hnb93:=NB708_701.out
        have hnc93:=NB701_708.out
        have hnb94:=NB708_702.out
        have hnc94:=NB702_708.out
        have hnb95:=NB708_703.out
        have hnc95:=NB703_708.out
        have hnb96:=NB708_713.out
        have hnc96:=NB713_708.out
        have hcz97_0:=bc0 BK708.out
        have hfz97_0:=jf BK708.out 0
        have hnb98:=NB701_702.out
        have hnc98:=NB702_701.out
        have hnb99:=NB701_703.out
        have hnc99:=NB703_701.out
        have hnb100:=NB701_713.out
        have hnc100:=NB713_701.out
        have hcz101_0:=bc0 BK701.out
        have hfz101_0:=jf BK701.out 0
        go_upto_if 86 with (first |((with_reducible refine jC (f:=14) rfl ?_);refine gL (some 74) Try.func14 #[.agg #[.slice Ao11 t692.length co11], .agg #[.slice Ao22 t704.length co22], .int .i64 x11_2] ?_;(with_reducible refine (jxa.calls k2 _ _ t692 _ _ t704 x11_2 t716 t719 _ ?side1 ?side2 ?side3 ?side4 A90.out).mono ?_);(case side1=>exact cq (Kd.jB HO_702000.out).2.2);(case side2=>exact (Kd.jB HO_702000.out).2.1);(case side3=>exact cq (Kd.jB HO_709000.out).2.2);(case side4=>exact (Kd.jB HO_709000.out).2.1);rintro e w102 ⟨v717,rfl,ho0,hb⟩;refine ⟨_,rfl,?_⟩;have HO718:=am (Kd.jla (Kd.jAb (Kd.jAb (Kd.jAb (Kd.jAb ho0 (Kd.R_lt (rq HO_703000.out))) (Kd.R_lt (rq HO_704000.out))) (Kd.R_lt (rq HO_709000.out))) (Kd.R_lt (rq HO_714000.out))) (jQ (Y28)));replace HO_702000:=am (Kd.jP (rq HO_702000.out) hb);replace HO_703000:=am (Kd.jTa (rq HO_703000.out) (Kd.jBb ho0) hb);replace HO_704000:=am (Kd.jTa (rq HO_704000.out) (Kd.jBb ho0) hb);replace HO_709000:=am (Kd.jTa (rq HO_709000.out) (Kd.jBb ho0) hb);replace HO_714000:=am (Kd.jTa (rq HO_714000.out) (Kd.jBb ho0) hb);replace BK701:=am (je (g:=gb701) (o:=.cells #[.slice Ao11 t692.length co11] 37 (0,0)) (kq BK701.out) hb);replace BK702:=am (je (g:=gb702) (o:=.cells #[.slice Ao15 t695.length co15] 32 (0,0)) (kq BK702.out) hb);replace BK703:=am (je (g:=gb703) (o:=.cells #[.slice Ao18 t698.length co18] 32 (0,0)) (kq BK703.out) hb);replace BK708:=am (je (g:=gb708) (o:=.cells #[.slice Ao22 t704.length co22] 32 (0,0)) (kq BK708.out) hb);replace BK713:=am (je (g:=gb713) (o:=.cells #[.slice Ao32 t709.length co32] 32 (0,0)) (kq BK713.out) hb);replace HB:=am (jl (Y28) hb);(try clear hb);(try clear hb2);(try clear hk);(try clear hi);(try clear ho0)) |((with_reducible refine jI (N:=12) rfl ?_);refine bE (N:=12) (cs:=#[.slice none 0 0]) (t:=32) ?_;intro gb720 hg w103 hbox hb;have BK720:=am (hbox);have GW720:=am ((Y216:w.heap.size≤gb720));have GE720:=am ((Y216:w.heap.size≤gb720));have NB701_720:=am ((Y127:gb701≠gb720));have NB720_701:=am ((Y128:gb720≠gb701));have NB702_720:=am ((Y129:gb702≠gb720));have NB720_702:=am ((Y130:gb720≠gb702));have NB703_720:=am ((Y131:gb703≠gb720));have NB720_703:=am ((Y132:gb720≠gb703));have NB708_720:=am ((Y157:gb708≠gb720));have NB720_708:=am ((Y158:gb720≠gb708));have NB713_720:=am ((by rw [hg];exact Nat.ne_of_lt (jV (g:=gb713) (o:=.cells #[.slice Ao32 t709.length co32] 32 (0,0)) (kq BK713.out)):gb713≠gb720));have NB720_713:=am ((by rw [hg];exact Nat.ne_of_gt (jV (g:=gb713) (o:=.cells #[.slice Ao32 t709.length co32] 32 (0,0)) (kq BK713.out)):gb720≠gb713));replace HO_702000:=am (Kd.jP (rq HO_702000.out) hb);replace HO_703000:=am (Kd.jP (rq HO_703000.out) hb);replace HO_704000:=am (Kd.jP (rq HO_704000.out) hb);replace HO_709000:=am (Kd.jP (rq HO_709000.out) hb);replace HO_714000:=am (Kd.jP (rq HO_714000.out) hb);replace HO718:=am (Kd.jP (rq HO718.out) hb);replace BK701:=am (je (g:=gb701) (o:=.cells #[.slice Ao11 t692.length co11] 37 (0,0)) (kq BK701.out) hb);replace BK702:=am (je (g:=gb702) (o:=.cells #[.slice Ao15 t695.length co15] 32 (0,0)) (kq BK702.out) hb);replace BK703:=am (je (g:=gb703) (o:=.cells #[.slice Ao18 t698.length co18] 32 (0,0)) (kq BK703.out) hb);replace BK708:=am (je (g:=gb708) (o:=.cells #[.slice Ao22 t704.length co22] 32 (0,0)) (kq BK708.out) hb);replace BK713:=am (je (g:=gb713) (o:=.cells #[.slice Ao32 t709.length co32] 32 (0,0)) (kq BK713.out) hb);replace HB:=am (jl (Y28) hb);clear hb hbox hg;obtain ⟨Ao104,co104,eo104⟩:=Kd.jaa HO718.out;subst eo104;have hnb105:=NB720_701.out;have hnc105:=NB701_720.out;have hnb106:=NB720_702.out;have hnc106:=NB702_720.out;have hnb107:=NB720_703.out;have hnc107:=NB703_720.out;have hnb108:=NB720_708.out;have hnc108:=NB708_720.out;have hnb109:=NB720_713.out;have hnc109:=NB713_720.out;have hcz110_0:=bc0 BK720.out;have hfz110_0:=jf BK720.out 0;have hcz111_0:=bc0 BK701.out;have hfz111_0:=jf BK701.out 0;have hnb112:=NB702_703.out;have hnc112:=NB703_702.out;have hnb113:=NB702_713.out;have hnc113:=NB713_702.out;have hcz114_0:=bc0 BK702.out;have hfz114_0:=jf BK702.out 0) |((with_reducible refine jC (f:=14) rfl ?_);refine gL (some 81) Try.func14 #[.agg #[.slice Ao11 t692.length co11], .agg #[.slice Ao15 t695.length co15], .int .i64 x11_2] ?_;(with_reducible refine (jxa.calls k2 _ _ t692 _ _ t695 x11_2 t721 t724 _ ?side1 ?side2 ?side3 ?side4 A91.out).mono ?_);(case side1=>refine (Kd.jB (e:=94) (base:=w.heap.size) (ok:=fun k_=>True) (n:=t692.length) (c:=co11) ?_).2.2;exact (Y217));(case side2=>exact (Kd.jB HO_702000.out).2.1);(case side3=>refine (Kd.jB (e:=54) (base:=w.heap.size) (ok:=fun k_=>((some k_≠(.slice Ao18 t698.length co18:Value).ownBlock∧(some k_≠(.slice Ao22 t704.length co22:Value).ownBlock∧some k_≠(.slice Ao32 t709.length co32:Value).ownBlock))∧some k_≠(.slice Ao104 t716.length co104:Value).ownBlock)) (n:=t695.length) (c:=co15) ?_).2.2;exact (Y167));(case side4=>exact (Kd.jB HO_703000.out).2.1);rintro e w115 ⟨v722,rfl,ho0,hb⟩;refine ⟨_,rfl,?_⟩;have HO723:=am (Kd.jla (Kd.jAb (Kd.jAb (Kd.jAb (Kd.jAb (Kd.jAb ho0 (Kd.R_lt (Y167))) (Kd.R_lt (Y218))) (Kd.R_lt (Y219))) (Kd.R_lt (Y220))) (Kd.R_lt (Y221))) (jQ (Y168)));replace HO_702000:=am (Kd.jP (Y217) hb);replace HO_703000:=am (Kd.jTa (Y167) (Kd.jBb ho0) hb);replace HO_704000:=am (Kd.jTa (Y218) (Kd.jBb ho0) hb);replace HO_709000:=am (Kd.jTa (Y219) (Kd.jBb ho0) hb);replace HO_714000:=am (Kd.jTa (Y220) (Kd.jBb ho0) hb);replace HO718:=am (Kd.jTa (Y221) (Kd.jBb ho0) hb);replace BK701:=am (je (g:=gb701) (o:=.cells #[.slice Ao11 t692.length co11] 37 (0,0)) (by (with_reducible repeat (first | refine jb ?_ _ | refine jd ?_ | refine jc ?_ _));refine jA ?_ NB701_720.out _;(with_reducible repeat (first | refine jb ?_ _ | refine jd ?_ | refine jc ?_ _));exact BK701.out) hb);replace BK702:=am (je (g:=gb702) (o:=.cells #[.slice Ao15 t695.length co15] 32 (0,0)) (by (with_reducible repeat (first | refine jb ?_ _ | refine jd ?_ | refine jc ?_ _));refine jA ?_ NB702_720.out _;(with_reducible repeat (first | refine jb ?_ _ | refine jd ?_ | refine jc ?_ _));exact BK702.out) hb);replace BK703:=am (je (g:=gb703) (o:=.cells #[.slice Ao18 t698.length co18] 32 (0,0)) (by (with_reducible repeat (first | refine jb ?_ _ | refine jd ?_ | refine jc ?_ _));refine jA ?_ NB703_720.out _;(with_reducible repeat (first | refine jb ?_ _ | refine jd ?_ | refine jc ?_ _));exact BK703.out) hb);replace BK708:=am (je (g:=gb708) (o:=.cells #[.slice Ao22 t704.length co22] 32 (0,0)) (by (with_reducible repeat (first | refine jb ?_ _ | refine jd ?_ | refine jc ?_ _));refine jA ?_ NB708_720.out _;(with_reducible repeat (first | refine jb ?_ _ | refine jd ?_ | refine jc ?_ _));exact BK708.out) hb);replace BK713:=am (je (g:=gb713) (o:=.cells #[.slice Ao32 t709.length co32] 32 (0,0)) (by (with_reducible repeat (first | refine jb ?_ _ | refine jd ?_ | refine jc ?_ _));refine jA ?_ NB713_720.out _;(with_reducible repeat (first | refine jb ?_ _ | refine jd ?_ | refine jc ?_ _));exact BK713.out) hb);replace BK720:=am (je (g:=gb720) (o:=.cells #[.slice Ao104 t716.length co104] 32 (0,0)) (by (with_reducible repeat (first | refine jb ?_ _ | refine jd ?_ | refine jc ?_ _));refine jfa (cs:=#[.slice none 0 0]) ?_ 0 _ rfl;(with_reducible repeat (first | refine jb ?_ _ | refine jd ?_ | refine jc ?_ _));exact BK720.out) hb);replace HB:=am (jl (Y168) hb);(try clear hb);(try clear hb2);(try clear hk);(try clear hi);(try clear ho0)) |((with_reducible refine jI (N:=14) rfl ?_);refine bE (N:=14) (cs:=#[.slice none 0 0]) (t:=32) ?_;intro gb725 hg w116 hbox hb;have BK725:=am (hbox);have GW725:=am ((Y222:w.heap.size≤gb725));have GE725:=am ((Y222:w.heap.size≤gb725));have NB701_725:=am ((Y127:gb701≠gb725));have NB725_701:=am ((Y128:gb725≠gb701));have NB702_725:=am ((Y129:gb702≠gb725));have NB725_702:=am ((Y130:gb725≠gb702));have NB703_725:=am ((Y131:gb703≠gb725));have NB725_703:=am ((Y132:gb725≠gb703));have NB708_725:=am ((Y157:gb708≠gb725));have NB725_708:=am ((Y158:gb725≠gb708));have NB713_725:=am ((by rw [hg];exact Nat.ne_of_lt (jV (g:=gb713) (o:=.cells #[.slice Ao32 t709.length co32] 32 (0,0)) (kq BK713.out)):gb713≠gb725));have NB725_713:=am ((by rw [hg];exact Nat.ne_of_gt (jV (g:=gb713) (o:=.cells #[.slice Ao32 t709.length co32] 32 (0,0)) (kq BK713.out)):gb725≠gb713));have NB720_725:=am ((by rw [hg];exact Nat.ne_of_lt (jV (g:=gb720) (o:=.cells #[.slice Ao104 t716.length co104] 32 (0,0)) (kq BK720.out)):gb720≠gb725));have NB725_720:=am ((by rw [hg];exact Nat.ne_of_gt (jV (g:=gb720) (o:=.cells #[.slice Ao104 t716.length co104] 32 (0,0)) (kq BK720.out)):gb725≠gb720));replace HO_702000:=am (Kd.jP (rq HO_702000.out) hb);replace HO_703000:=am (Kd.jP (rq HO_703000.out) hb);replace HO_704000:=am (Kd.jP (rq HO_704000.out) hb);replace HO_709000:=am (Kd.jP (rq HO_709000.out) hb);replace HO_714000:=am (Kd.jP (rq HO_714000.out) hb);replace HO718:=am (Kd.jP (rq HO718.out) hb);replace HO723:=am (Kd.jP (rq HO723.out) hb);replace BK701:=am (je (g:=gb701) (o:=.cells #[.slice Ao11 t692.length co11] 37 (0,0)) (kq BK701.out) hb);replace BK702:=am (je (g:=gb702) (o:=.cells #[.slice Ao15 t695.length co15] 32 (0,0)) (kq BK702.out) hb);replace BK703:=am (je (g:=gb703) (o:=.cells #[.slice Ao18 t698.length co18] 32 (0,0)) (kq BK703.out) hb);replace BK708:=am (je (g:=gb708) (o:=.cells #[.slice Ao22 t704.length co22] 32 (0,0)) (kq BK708.out) hb);replace BK713:=am (je (g:=gb713) (o:=.cells #[.slice Ao32 t709.length co32] 32 (0,0)) (kq BK713.out) hb);replace BK720:=am (je (g:=gb720) (o:=.cells #[.slice Ao104 t716.length co104] 32 (0,0)) (kq BK720.out) hb);replace HB:=am (jl (Y168) hb);clear hb hbox hg;obtain ⟨Ao117,co117,eo117⟩:=Kd.jaa HO723.out;subst eo117;have hnb118:=NB725_701.out;have hnc118:=NB701_725.out;have hnb119:=NB725_702.out;have hnc119:=NB702_725.out;have hnb120:=NB725_703.out;have hnc120:=NB703_725.out;have hnb121:=NB725_708.out;have hnc121:=NB708_725.out;have hnb122:=NB725_713.out;have hnc122:=NB713_725.out;have hnb123:=NB725_720.out;have hnc123:=NB720_725.out;have hcz124_0:=bc0 BK725.out;have hfz124_0:=jf BK725.out 0))
        (try simp only [Act.put,List.setIfInBounds_toArray,List.set_cons_zero,List.set_cons_succ])
        go_cut [15] (fun v15 wc=>∃ (kq:Nat) (x15_91:Int) (x726000_91:List (S54)) (u726000:Value),v15=.int .i64 x15_91∧jw (jm.j2 kq (t695.length:Int) x11_2 t719 x15_91 t692 t695 t698 t704 t716 x726000_91=some r)∧jw (kq≤k2)∧jw (Kd.R k94 94 wc w.heap.size (fun _=>True) (.slice Ao11 t692.length co11) t692)∧jw (Kd.R k54 54 wc w.heap.size (fun k_=>some k_≠((.slice Ao18 t698.length co18):Value).ownBlock∧some k_≠((.slice Ao22 t704.length co22):Value).ownBlock∧some k_≠((.slice Ao32 t709.length co32):Value).ownBlock∧some k_≠((.slice Ao104 t716.length co104):Value).ownBlock∧some k_≠(u726000:Value).ownBlock) (.slice Ao15 t695.length co15) t695)∧jw (Kd.R k54 54 wc w.heap.size (fun k_=>some k_≠((.slice Ao15 t695.length co15):Value).ownBlock∧some k_≠((.slice Ao22 t704.length co22):Value).ownBlock∧some k_≠((.slice Ao32 t709.length co32):Value).ownBlock∧some k_≠((.slice Ao104 t716.length co104):Value).ownBlock∧some k_≠(u726000:Value).ownBlock) (.slice Ao18 t698.length co18) t698)∧jw (Kd.R k54 54 wc w.heap.size (fun k_=>some k_≠((.slice Ao15 t695.length co15):Value).ownBlock∧some k_≠((.slice Ao18 t698.length co18):Value).ownBlock∧some k_≠((.slice Ao32 t709.length co32):Value).ownBlock∧some k_≠((.slice Ao104 t716.length co104):Value).ownBlock∧some k_≠(u726000:Value).ownBlock) (.slice Ao22 t704.length co22) t704)∧jw (Kd.R k54 54 wc w.heap.size (fun k_=>some k_≠((.slice Ao15 t695.length co15):Value).ownBlock∧some k_≠((.slice Ao18 t698.length co18):Value).ownBlock∧some k_≠((.slice Ao22 t704.length co22):Value).ownBlock∧some k_≠((.slice Ao104 t716.length co104):Value).ownBlock∧some k_≠(u726000:Value).ownBlock) (.slice Ao32 t709.length co32) t709)∧jw (Kd.R k54 54 wc w.heap.size (fun k_=>some k_≠((.slice Ao15 t695.length co15):Value).ownBlock∧some k_≠((.slice Ao18 t698.length co18):Value).ownBlock∧some k_≠((.slice Ao22 t704.length co22):Value).ownBlock∧some k_≠((.slice Ao32 t709.length co32):Value).ownBlock∧some k_≠(u726000:Value).ownBlock) (.slice Ao104 t716.length co104) t716)∧jw (Kd.R k54 54 wc w.heap.size (fun k_=>some k_≠((.slice Ao15 t695.length co15):Value).ownBlock∧some k_≠((.slice Ao18 t698.length co18):Value).ownBlock∧some k_≠((.slice Ao22 t704.length co22):Value).ownBlock∧some k_≠((.slice Ao32 t709.length co32):Value).ownBlock∧some k_≠((.slice Ao104 t716.length co104):Value).ownBlock) u726000 x726000_91)∧jw (wc.heap[gb701]?=some (.cells #[(.slice Ao11 t692.length co11)] 37 (0,0)))∧jw (wc.heap[gb702]?=some (.cells #[(.slice Ao15 t695.length co15)] 32 (0,0)))∧jw (wc.heap[gb703]?=some (.cells #[(.slice Ao18 t698.length co18)] 32 (0,0)))∧jw (wc.heap[gb708]?=some (.cells #[(.slice Ao22 t704.length co22)] 32 (0,0)))∧jw (wc.heap[gb713]?=some (.cells #[(.slice Ao32 t709.length co32)] 32 (0,0)))∧jw (wc.heap[gb720]?=some (.cells #[(.slice Ao104 t716.length co104)] 32 (0,0)))∧jw (wc.heap[gb725]?=some (.cells #[u726000] 32 (0,0)))∧jw (Below w.heap.size w wc))
        case first =>
         have H:=HC92.out
         clear HC92
         by_cases c125:x11_2≥(t695.length:Int)
         ·rw [if_pos c125] at H
          have c125b0:decide ((t695.length:Int)≤x11_2)=true:=dzT c125
          clear c125
          (first | rw [c125b0] |(simp only [jjb,job];rw [c125b0]) | skip)
          replace H:=bzS H
          obtain ⟨⟨t726,t729⟩,A1260,H⟩:=H
          replace H:(jm.j2 k2 (t695.length:Int) x11_2 t719 t729 t692 t695 t698 t704 t716 t726)=some r:=H
          have A126:=am A1260
          clear A1260
          have H':=am H
          clear H
          have hnb127:=NB701_702.out
          have hnc127:=NB702_701.out
          have hnb128:=NB701_703.out
          have hnc128:=NB703_701.out
          have hnb129:=NB701_708.out
          have hnc129:=NB708_701.out
          have hnb130:=NB701_713.out
          have hnc130:=NB713_701.out
          have hnb131:=NB701_720.out
          have hnc131:=NB720_701.out
          have hnb132:=NB701_725.out
          have hnc132:=NB725_701.out
          have hcz133_0:=bc0 BK701.out
          have hfz133_0:=jf BK701.out 0
          have hnb134:=NB703_702.out
          have hnc134:=NB702_703.out
          have hnb135:=NB703_708.out
          have hnc135:=NB708_703.out
          have hnb136:=NB703_713.out
          have hnc136:=NB713_703.out
          have hnb137:=NB703_720.out
          have hnc137:=NB720_703.out
          have hnb138:=NB703_725.out
          have hnc138:=NB725_703.out
          have hcz139_0:=bc0 BK703.out
          have hfz139_0:=jf BK703.out 0
          go_wp2_with (first |((with_reducible refine jC (f:=14) rfl ?_);refine gL (some 93) Try.func14 #[.agg #[.slice Ao11 t692.length co11], .agg #[.slice Ao18 t698.length co18], .int .i64 (wrap64 (x11_2 - (t695.length:Int)))] ?_;(with_reducible refine (jxa.calls k2 _ _ t692 _ _ t698 (wrap64 (x11_2 - (t695.length:Int))) t726 t729 _ ?side1 ?side2 ?side3 ?side4 A126.out).mono ?_);(case side1=>refine (Kd.jB (e:=94) (base:=w.heap.size) (ok:=fun k_=>True) (n:=t692.length) (c:=co11) ?_).2.2;exact (Y223));(case side2=>exact (Kd.jB HO_702000.out).2.1);(case side3=>refine (Kd.jB (e:=54) (base:=w.heap.size) (ok:=fun k_=>(((some k_≠(.slice Ao15 t695.length co15:Value).ownBlock∧(some k_≠(.slice Ao22 t704.length co22:Value).ownBlock∧some k_≠(.slice Ao32 t709.length co32:Value).ownBlock))∧some k_≠(.slice Ao104 t716.length co104:Value).ownBlock)∧some k_≠(.slice Ao117 t721.length co117:Value).ownBlock)) (n:=t698.length) (c:=co18) ?_).2.2;exact (Y169));(case side4=>exact (Kd.jB HO_704000.out).2.1);rintro e w140 ⟨v727,rfl,ho0,hb⟩;refine ⟨_,rfl,?_⟩;have HO728:=am (Kd.jla (Kd.jAb (Kd.jAb (Kd.jAb (Kd.jAb (Kd.jAb (Kd.jAb ho0 (Kd.R_lt (Y224))) (Kd.R_lt (Y169))) (Kd.R_lt (Y225))) (Kd.R_lt (Y226))) (Kd.R_lt (Y227))) (Kd.R_lt (Y228))) (jQ (Y89)));replace HO_702000:=am (Kd.jP (Y223) hb);replace HO_703000:=am (Kd.jTa (Y224) (Kd.jBb ho0) hb);replace HO_704000:=am (Kd.jTa (Y169) (Kd.jBb ho0) hb);replace HO_709000:=am (Kd.jTa (Y225) (Kd.jBb ho0) hb);replace HO_714000:=am (Kd.jTa (Y226) (Kd.jBb ho0) hb);replace HO718:=am (Kd.jTa (Y227) (Kd.jBb ho0) hb);replace HO723:=am (Kd.jTa (Y228) (Kd.jBb ho0) hb);replace BK701:=am (je (g:=gb701) (o:=.cells #[.slice Ao11 t692.length co11] 37 (0,0)) (by (with_reducible repeat (first | refine jb ?_ _ | refine jd ?_ | refine jc ?_ _));refine jA ?_ NB701_725.out _;(with_reducible repeat (first | refine jb ?_ _ | refine jd ?_ | refine jc ?_ _));exact BK701.out) hb);replace BK702:=am (je (g:=gb702) (o:=.cells #[.slice Ao15 t695.length co15] 32 (0,0)) (by (with_reducible repeat (first | refine jb ?_ _ | refine jd ?_ | refine jc ?_ _));refine jA ?_ NB702_725.out _;(with_reducible repeat (first | refine jb ?_ _ | refine jd ?_ | refine jc ?_ _));exact BK702.out) hb);replace BK703:=am (je (g:=gb703) (o:=.cells #[.slice Ao18 t698.length co18] 32 (0,0)) (by (with_reducible repeat (first | refine jb ?_ _ | refine jd ?_ | refine jc ?_ _));refine jA ?_ NB703_725.out _;(with_reducible repeat (first | refine jb ?_ _ | refine jd ?_ | refine jc ?_ _));exact BK703.out) hb);replace BK708:=am (je (g:=gb708) (o:=.cells #[.slice Ao22 t704.length co22] 32 (0,0)) (by (with_reducible repeat (first | refine jb ?_ _ | refine jd ?_ | refine jc ?_ _));refine jA ?_ NB708_725.out _;(with_reducible repeat (first | refine jb ?_ _ | refine jd ?_ | refine jc ?_ _));exact BK708.out) hb);replace BK713:=am (je (g:=gb713) (o:=.cells #[.slice Ao32 t709.length co32] 32 (0,0)) (by (with_reducible repeat (first | refine jb ?_ _ | refine jd ?_ | refine jc ?_ _));refine jA ?_ NB713_725.out _;(with_reducible repeat (first | refine jb ?_ _ | refine jd ?_ | refine jc ?_ _));exact BK713.out) hb);replace BK720:=am (je (g:=gb720) (o:=.cells #[.slice Ao104 t716.length co104] 32 (0,0)) (by (with_reducible repeat (first | refine jb ?_ _ | refine jd ?_ | refine jc ?_ _));refine jA ?_ NB720_725.out _;(with_reducible repeat (first | refine jb ?_ _ | refine jd ?_ | refine jc ?_ _));exact BK720.out) hb);replace BK725:=am (je (g:=gb725) (o:=.cells #[.slice Ao117 t721.length co117] 32 (0,0)) (by (with_reducible repeat (first | refine jb ?_ _ | refine jd ?_ | refine jc ?_ _));refine jfa (cs:=#[.slice none 0 0]) ?_ 0 _ rfl;(with_reducible repeat (first | refine jb ?_ _ | refine jd ?_ | refine jc ?_ _));exact BK725.out) hb);replace HB:=am (jl (Y89) hb);(try clear hb);(try clear hb2);(try clear hk);(try clear hi);(try clear ho0);obtain ⟨Ao141,co141,eo141⟩:=Kd.jaa HO728.out;subst eo141;have hnb142:=NB725_702.out;have hnc142:=NB702_725.out;have hnb143:=NB725_708.out;have hnc143:=NB708_725.out;have hnb144:=NB725_713.out;have hnc144:=NB713_725.out;have hnb145:=NB725_720.out;have hnc145:=NB720_725.out;have hcz146_0:=bc0 BK725.out;have hfz146_0:=jf BK725.out 0))
          go_meet
          case rel=>exact ⟨_,(t729),(t726),(.slice Ao141 t726.length co141),(sq),H',⟨by have:=HJ5.out;have:=HK2.out;first | omega | exact Nat.le_refl _⟩,⟨by (with_reducible repeat (first | apply Kd.jL | apply Kd.jM | apply Kd.jN));exact Kd.jD (Kd.jX (p:=⟨gb725,0,none⟩) (Kd.jJ HO_702000.out BK725.out (by decide)) (fun _ hk=>hk.2) (.slice Ao141 t726.length co141)) (fun _ hk=>trivial)⟩,⟨by (with_reducible repeat (first | apply Kd.jL | apply Kd.jM | apply Kd.jN));exact Kd.jD (Kd.jX (p:=⟨gb725,0,none⟩) (Kd.jJ HO_703000.out BK725.out (by decide)) (fun _ hk=>hk.2) (.slice Ao141 t726.length co141)) (fun _ hk=>⟨hk.1.1.1.1.1,⟨hk.1.1.1.1.2.1,⟨hk.1.1.1.1.2.2,⟨hk.1.1.1.2,hk.1.2⟩⟩⟩⟩)⟩,⟨by (with_reducible repeat (first | apply Kd.jL | apply Kd.jM | apply Kd.jN));exact Kd.jD (Kd.jX (p:=⟨gb725,0,none⟩) (Kd.jJ HO_704000.out BK725.out (by decide)) (fun _ hk=>hk.2) (.slice Ao141 t726.length co141)) (fun _ hk=>⟨hk.1.1.1.1.1,⟨hk.1.1.1.1.2.1,⟨hk.1.1.1.1.2.2,⟨hk.1.1.1.2,hk.1.2⟩⟩⟩⟩)⟩,⟨by (with_reducible repeat (first | apply Kd.jL | apply Kd.jM | apply Kd.jN));exact Kd.jD (Kd.jX (p:=⟨gb725,0,none⟩) (Kd.jJ HO_709000.out BK725.out (by decide)) (fun _ hk=>hk.2) (.slice Ao141 t726.length co141)) (fun _ hk=>⟨hk.1.1.1.1.1,⟨hk.1.1.1.1.2.1,⟨hk.1.1.1.1.2.2,⟨hk.1.1.1.2,hk.1.2⟩⟩⟩⟩)⟩,⟨by (with_reducible repeat (first | apply Kd.jL | apply Kd.jM | apply Kd.jN));exact Kd.jD (Kd.jX (p:=⟨gb725,0,none⟩) (Kd.jJ HO_714000.out BK725.out (by decide)) (fun _ hk=>hk.2) (.slice Ao141 t726.length co141)) (fun _ hk=>⟨hk.1.1.1.1.1,⟨hk.1.1.1.1.2.1,⟨hk.1.1.1.1.2.2,⟨hk.1.1.1.2,hk.1.2⟩⟩⟩⟩)⟩,⟨by (with_reducible repeat (first | apply Kd.jL | apply Kd.jM | apply Kd.jN));exact Kd.jD (Kd.jX (p:=⟨gb725,0,none⟩) (Kd.jJ HO718.out BK725.out (by decide)) (fun _ hk=>hk.2) (.slice Ao141 t726.length co141)) (fun _ hk=>⟨hk.1.1.1.1.1.1.2,⟨hk.1.1.1.1.1.2,⟨hk.1.1.1.1.2,⟨hk.1.1.1.2,hk.1.2⟩⟩⟩⟩)⟩,⟨by (with_reducible repeat (first | apply Kd.jL | apply Kd.jM | apply Kd.jN));exact Kd.jD (Kd.jX (p:=⟨gb725,0,none⟩) (Kd.jJ HO728.out BK725.out (by decide)) (fun _ hk=>hk.2) (.slice Ao141 t726.length co141)) (fun _ hk=>⟨hk.1.1.1.1.1.1.2,⟨hk.1.1.1.1.1.2,⟨hk.1.1.1.1.2,⟨hk.1.1.1.2,hk.1.1.2⟩⟩⟩⟩)⟩,⟨by (with_reducible repeat (first | refine jb ?_ _ | refine jd ?_ | refine jc ?_ _));refine jA ?_ NB701_725.out _;(with_reducible repeat (first | refine jb ?_ _ | refine jd ?_ | refine jc ?_ _));exact BK701.out⟩,⟨by (with_reducible repeat (first | refine jb ?_ _ | refine jd ?_ | refine jc ?_ _));refine jA ?_ NB702_725.out _;(with_reducible repeat (first | refine jb ?_ _ | refine jd ?_ | refine jc ?_ _));exact BK702.out⟩,⟨by (with_reducible repeat (first | refine jb ?_ _ | refine jd ?_ | refine jc ?_ _));refine jA ?_ NB703_725.out _;(with_reducible repeat (first | refine jb ?_ _ | refine jd ?_ | refine jc ?_ _));exact BK703.out⟩,⟨by (with_reducible repeat (first | refine jb ?_ _ | refine jd ?_ | refine jc ?_ _));refine jA ?_ NB708_725.out _;(with_reducible repeat (first | refine jb ?_ _ | refine jd ?_ | refine jc ?_ _));exact BK708.out⟩,⟨by (with_reducible repeat (first | refine jb ?_ _ | refine jd ?_ | refine jc ?_ _));refine jA ?_ NB713_725.out _;(with_reducible repeat (first | refine jb ?_ _ | refine jd ?_ | refine jc ?_ _));exact BK713.out⟩,⟨by (with_reducible repeat (first | refine jb ?_ _ | refine jd ?_ | refine jc ?_ _));refine jA ?_ NB720_725.out _;(with_reducible repeat (first | refine jb ?_ _ | refine jd ?_ | refine jc ?_ _));exact BK720.out⟩,⟨by (with_reducible repeat (first | refine jb ?_ _ | refine jd ?_ | refine jc ?_ _));refine jfa (cs:=#[.slice Ao117 t721.length co117]) ?_ 0 _ rfl;(with_reducible repeat (first | refine jb ?_ _ | refine jd ?_ | refine jc ?_ _));exact BK725.out⟩,⟨Y89⟩⟩
         ·rw [if_neg c125] at H
          have c125b0:decide ((t695.length:Int)≤x11_2)=false:=dzF c125
          clear c125
          (first | rw [c125b0] |(simp only [jjb,job];rw [c125b0]) | skip)
          have H':=am H
          clear H
          go_wp2
          go_meet
          case rel=>exact ⟨_,(t724),(t721),(.slice Ao117 t721.length co117),(sq),H',⟨by have:=HJ5.out;have:=HK2.out;first | omega | exact Nat.le_refl _⟩,⟨by (with_reducible repeat (first | apply Kd.jL | apply Kd.jM | apply Kd.jN));exact Kd.jD (Kd.jX (p:=⟨gb725,0,none⟩) (Kd.jJ HO_702000.out BK725.out (by decide)) (fun _ hk=>hk.2) (.slice Ao117 t721.length co117)) (fun _ hk=>trivial)⟩,⟨by (with_reducible repeat (first | apply Kd.jL | apply Kd.jM | apply Kd.jN));exact Kd.jD (Kd.jX (p:=⟨gb725,0,none⟩) (Kd.jJ HO_703000.out BK725.out (by decide)) (fun _ hk=>hk.2) (.slice Ao117 t721.length co117)) (fun _ hk=>⟨hk.1.1.1.1,⟨hk.1.1.1.2.1,⟨hk.1.1.1.2.2,⟨hk.1.1.2,hk.1.2⟩⟩⟩⟩)⟩,⟨by (with_reducible repeat (first | apply Kd.jL | apply Kd.jM | apply Kd.jN));exact Kd.jD (Kd.jX (p:=⟨gb725,0,none⟩) (Kd.jJ HO_704000.out BK725.out (by decide)) (fun _ hk=>hk.2) (.slice Ao117 t721.length co117)) (fun _ hk=>⟨hk.1.1.1.1,⟨hk.1.1.1.2.1,⟨hk.1.1.1.2.2,⟨hk.1.1.2,hk.1.2⟩⟩⟩⟩)⟩,⟨by (with_reducible repeat (first | apply Kd.jL | apply Kd.jM | apply Kd.jN));exact Kd.jD (Kd.jX (p:=⟨gb725,0,none⟩) (Kd.jJ HO_709000.out BK725.out (by decide)) (fun _ hk=>hk.2) (.slice Ao117 t721.length co117)) (fun _ hk=>⟨hk.1.1.1.1,⟨hk.1.1.1.2.1,⟨hk.1.1.1.2.2,⟨hk.1.1.2,hk.1.2⟩⟩⟩⟩)⟩,⟨by (with_reducible repeat (first | apply Kd.jL | apply Kd.jM | apply Kd.jN));exact Kd.jD (Kd.jX (p:=⟨gb725,0,none⟩) (Kd.jJ HO_714000.out BK725.out (by decide)) (fun _ hk=>hk.2) (.slice Ao117 t721.length co117)) (fun _ hk=>⟨hk.1.1.1.1,⟨hk.1.1.1.2.1,⟨hk.1.1.1.2.2,⟨hk.1.1.2,hk.1.2⟩⟩⟩⟩)⟩,⟨by (with_reducible repeat (first | apply Kd.jL | apply Kd.jM | apply Kd.jN));exact Kd.jD (Kd.jX (p:=⟨gb725,0,none⟩) (Kd.jJ HO718.out BK725.out (by decide)) (fun _ hk=>hk.2) (.slice Ao117 t721.length co117)) (fun _ hk=>⟨hk.1.1.1.1.1.2,⟨hk.1.1.1.1.2,⟨hk.1.1.1.2,⟨hk.1.1.2,hk.1.2⟩⟩⟩⟩)⟩,⟨by (with_reducible repeat (first | apply Kd.jL | apply Kd.jM | apply Kd.jN));exact Kd.jD (Kd.jX (p:=⟨gb725,0,none⟩) (Kd.jJ HO723.out BK725.out (by decide)) (fun _ hk=>hk.2) (.slice Ao117 t721.length co117)) (fun _ hk=>⟨hk.1.1.1.1.1.2,⟨hk.1.1.1.1.2,⟨hk.1.1.1.2,⟨hk.1.1.2,hk.1.2⟩⟩⟩⟩)⟩,⟨by (with_reducible repeat (first | refine jb ?_ _ | refine jd ?_ | refine jc ?_ _));refine jA ?_ NB701_725.out _;(with_reducible repeat (first | refine jb ?_ _ | refine jd ?_ | refine jc ?_ _));exact BK701.out⟩,⟨by (with_reducible repeat (first | refine jb ?_ _ | refine jd ?_ | refine jc ?_ _));refine jA ?_ NB702_725.out _;(with_reducible repeat (first | refine jb ?_ _ | refine jd ?_ | refine jc ?_ _));exact BK702.out⟩,⟨by (with_reducible repeat (first | refine jb ?_ _ | refine jd ?_ | refine jc ?_ _));refine jA ?_ NB703_725.out _;(with_reducible repeat (first | refine jb ?_ _ | refine jd ?_ | refine jc ?_ _));exact BK703.out⟩,⟨by (with_reducible repeat (first | refine jb ?_ _ | refine jd ?_ | refine jc ?_ _));refine jA ?_ NB708_725.out _;(with_reducible repeat (first | refine jb ?_ _ | refine jd ?_ | refine jc ?_ _));exact BK708.out⟩,⟨by (with_reducible repeat (first | refine jb ?_ _ | refine jd ?_ | refine jc ?_ _));refine jA ?_ NB713_725.out _;(with_reducible repeat (first | refine jb ?_ _ | refine jd ?_ | refine jc ?_ _));exact BK713.out⟩,⟨by (with_reducible repeat (first | refine jb ?_ _ | refine jd ?_ | refine jc ?_ _));refine jA ?_ NB720_725.out _;(with_reducible repeat (first | refine jb ?_ _ | refine jd ?_ | refine jc ?_ _));exact BK720.out⟩,⟨by (with_reducible repeat (first | refine jb ?_ _ | refine jd ?_ | refine jc ?_ _));refine jfa (cs:=#[.slice none 0 0]) ?_ 0 _ rfl;(with_reducible repeat (first | refine jb ?_ _ | refine jd ?_ | refine jc ?_ _));exact BK725.out⟩,⟨Y89⟩⟩
        case rest =>
         clear HC92
         try clear c1
         try clear c2
         try clear c2b0
         try clear c2b1
         try clear p2
         try clear c3
         try clear c4
         try clear c5
         try clear c6
         try clear p6
         try clear c7
         try clear c8
         try clear c9
         try clear c10
         try clear c11
         try clear c12
         try clear c13
         try clear c14
         try clear c16
         try clear c23
         try clear c24
         try clear c25
         try clear c33
         try clear c34
         try clear c35
         try clear c36
         try clear c37
         try clear c38
         try clear c39
         try clear c40
         try clear c40b0
         try clear c40b1
         try clear c40b2
         try clear c41
         try clear c42
         try clear c43
         try clear c44
         try clear c46
         try clear c47
         try clear c48
         try clear c51
         try clear c52
         try clear c53
         try clear c54
         try clear c56
         try clear c57
         try clear c58
         try clear c61
         try clear c62
         try clear c63
         try clear c64
         try clear p64
         try clear c66
         try clear c67
         try clear c68
         try clear c71
         try clear c73
         try clear c74
         try clear c75
         try clear c76
         try clear c77
         try clear c79
         try clear c80
         try clear c81
         try clear c84
         try clear c85
         try clear c86
         try clear c87
         try clear c89
         try clear c89b0
         try clear c93
         try clear c94
         try clear c95
         try clear c96
         try clear c98
         try clear c99
         try clear c100
         try clear c105
         try clear c106
         try clear c107
         try clear c108
         try clear c109
         try clear c112
         try clear c113
         try clear c118
         try clear c119
         try clear c120
         try clear c121
         try clear c122
         try clear c123
         try clear c125
         try clear c125b0
         try clear c127
         try clear c128
         try clear c129
         try clear c130
         try clear c131
         try clear c132
         try clear c134
         try clear c135
         try clear c136
         try clear c137
         try clear c138
         try clear c142
         try clear c143
         try clear c144
         try clear c145
         try clear hcz101_0
         try clear hcz110_0
         try clear hcz111_0
         try clear hcz114_0
         try clear hcz124_0
         try clear hcz133_0
         try clear hcz139_0
         try clear hcz146_0
         try clear hcz14_0
         try clear hcz17_0
         try clear hcz19_0
         try clear hcz26_0
         try clear hcz27_0
         try clear hcz28_0
         try clear hcz29_0
         try clear hcz37_0
         try clear hcz45_0
         try clear hcz49_0
         try clear hcz55_0
         try clear hcz59_0
         try clear hcz65_0
         try clear hcz69_0
         try clear hcz78_0
         try clear hcz82_0
         try clear hcz88_0
         try clear hcz97_0
         try clear hfz101_0
         try clear hfz110_0
         try clear hfz111_0
         try clear hfz114_0
         try clear hfz124_0
         try clear hfz133_0
         try clear hfz139_0
         try clear hfz146_0
         try clear hfz14_0
         try clear hfz17_0
         try clear hfz19_0
         try clear hfz26_0
         try clear hfz27_0
         try clear hfz28_0
         try clear hfz29_0
         try clear hfz37_0
         try clear hfz45_0
         try clear hfz49_0
         try clear hfz55_0
         try clear hfz59_0
         try clear hfz65_0
         try clear hfz69_0
         try clear hfz78_0
         try clear hfz82_0
         try clear hfz88_0
         try clear hfz97_0
         try clear p2
         obtain ⟨kq,x15_91,x726000_91,u726000,rfl,HA,HJ91,HO_702000,HO_703000,HO_704000,HO_709000,HO_714000,HO_721000,HO_726000,BK701,BK702,BK703,BK708,BK713,BK720,BK725,HB⟩:=hcut
         cases kq with
         | zero=>exact absurd HA.out (by simp [jm.j2])
         | succ kj91 =>
          have H:=HA.out
          clear HA
          simp only [jm.j2] at H
          replace H:=bzS H
          obtain ⟨t730,A1470,H⟩:=H
          replace H:(if t730=true then (if t719=x15_91 then (jm.l0 kj91 (t695.length:Int) (wrap64 (x11_2+1)) t692 t695 t698 t704) else (some false)) else (some false))=some r:=H
          have A147:=am A1470
          clear A1470
          by_cases c148:t730=true
          ·subst c148
           have H1:(if t719=x15_91 then (jm.l0 kj91 (t695.length:Int) (wrap64 (x11_2+1)) t692 t695 t698 t704) else (some false))=some r:=by rw [if_pos rfl] at H;exact H
           clear H
           have H:=H1
           clear H1
           by_cases c149:t719=x15_91
           ·rw [if_pos c149] at H
            have c149b0:(t719 == x15_91)=true:=beq_iff_eq.mpr c149
            have c149b1:(t719 != x15_91)=false:=bne_eq_false_iff_eq.mpr c149
            clear c149
            have H':=am H
            clear H
            have hnb150:=NB720_701.out
            have hnc150:=NB701_720.out
            have hnb151:=NB720_702.out
            have hnc151:=NB702_720.out
            have hnb152:=NB720_703.out
            have hnc152:=NB703_720.out
            have hnb153:=NB720_708.out
            have hnc153:=NB708_720.out
            have hnb154:=NB720_713.out
            have hnc154:=NB713_720.out
            have hnb155:=NB720_725.out
            have hnc155:=NB725_720.out
            have hcz156_0:=bc0 BK720.out
            have hfz156_0:=jf BK720.out 0
            have hnb157:=NB725_701.out
            have hnc157:=NB701_725.out
            have hnb158:=NB725_702.out
            have hnc158:=NB702_725.out
            have hnb159:=NB725_703.out
            have hnc159:=NB703_725.out
            have hnb160:=NB725_708.out
            have hnc160:=NB708_725.out
            have hnb161:=NB725_713.out
            have hnc161:=NB713_725.out
            have hcz162_0:=bc0 BK725.out
            have hfz162_0:=jf BK725.out 0
            obtain ⟨Ao163,co163,eo163⟩:=Kd.jaa HO_726000.out
            subst eo163
            go_wp2_with (first |((with_reducible refine jC (f:=38) rfl ?_);refine gL (some 98) Try.func38 #[.agg #[.slice Ao104 t716.length co104], .agg #[.slice Ao163 x726000_91.length co163]] ?_;(with_reducible refine (jda.calls kj91 _ _ t716 _ _ x726000_91 true _ ?side1 ?side2 ?side3 ?side4 A147.out).mono ?_);(case side1=>exact cq (Kd.jB HO_721000.out).2.2);(case side2=>exact (Kd.jB HO_721000.out).2.1);(case side3=>exact cq (Kd.jB HO_726000.out).2.2);(case side4=>exact (Kd.jB HO_726000.out).2.1);rintro e w164 ⟨rfl,hb⟩;refine ⟨_,rfl,?_⟩;replace HO_702000:=am (Kd.jP (rq HO_702000.out) hb);replace HO_703000:=am (Kd.jP (rq HO_703000.out) hb);replace HO_704000:=am (Kd.jP (rq HO_704000.out) hb);replace HO_709000:=am (Kd.jP (rq HO_709000.out) hb);replace HO_714000:=am (Kd.jP (rq HO_714000.out) hb);replace HO_721000:=am (Kd.jP (rq HO_721000.out) hb);replace HO_726000:=am (Kd.jP (rq HO_726000.out) hb);replace BK701:=am (je (g:=gb701) (o:=.cells #[.slice Ao11 t692.length co11] 37 (0,0)) (kq BK701.out) hb);replace BK702:=am (je (g:=gb702) (o:=.cells #[.slice Ao15 t695.length co15] 32 (0,0)) (kq BK702.out) hb);replace BK703:=am (je (g:=gb703) (o:=.cells #[.slice Ao18 t698.length co18] 32 (0,0)) (kq BK703.out) hb);replace BK708:=am (je (g:=gb708) (o:=.cells #[.slice Ao22 t704.length co22] 32 (0,0)) (kq BK708.out) hb);replace BK713:=am (je (g:=gb713) (o:=.cells #[.slice Ao32 t709.length co32] 32 (0,0)) (kq BK713.out) hb);replace BK720:=am (je (g:=gb720) (o:=.cells #[.slice Ao104 t716.length co104] 32 (0,0)) (kq BK720.out) hb);replace BK725:=am (je (g:=gb725) (o:=.cells #[.slice Ao163 x726000_91.length co163] 32 (0,0)) (kq BK725.out) hb);replace HB:=am (jl (Y89) hb);(try clear hb);(try clear hb2);(try clear hk);(try clear hi)))
            go_roundg kj91
            case measure=>have:=HJ5.out;have:=HK2.out;have:=HJ91.out;omega
            case rel=>exact ⟨(wrap64 (x11_2+1)),(sq),H',⟨by have:=HJ5.out;have:=HK2.out;have:=HJ91.out;omega⟩,⟨rq HO_702000.out⟩,⟨by (with_reducible repeat (first | apply Kd.jL | apply Kd.jM | apply Kd.jN));exact Kd.jD HO_703000.out (fun _ hk=>⟨hk.1,⟨hk.2.1,hk.2.2.1⟩⟩)⟩,⟨by (with_reducible repeat (first | apply Kd.jL | apply Kd.jM | apply Kd.jN));exact Kd.jD HO_704000.out (fun _ hk=>⟨hk.1,⟨hk.2.1,hk.2.2.1⟩⟩)⟩,⟨by (with_reducible repeat (first | apply Kd.jL | apply Kd.jM | apply Kd.jN));exact Kd.jD HO_709000.out (fun _ hk=>⟨hk.1,⟨hk.2.1,hk.2.2.1⟩⟩)⟩,⟨by (with_reducible repeat (first | apply Kd.jL | apply Kd.jM | apply Kd.jN));exact Kd.jD HO_714000.out (fun _ hk=>⟨hk.1,⟨hk.2.1,hk.2.2.1⟩⟩)⟩,⟨kq BK701.out⟩,⟨kq BK702.out⟩,⟨kq BK703.out⟩,⟨kq BK708.out⟩,⟨kq BK713.out⟩,⟨Y89⟩⟩
           ·rw [if_neg c149] at H
            have c149b0:(t719 == x15_91)=false:=beq_eq_false_iff_ne.mpr c149
            have c149b1:(t719 != x15_91)=true:=bne_iff_ne.mpr c149
            exact absurd ((Option.some.inj H).trans hT) Bool.false_ne_true
          ·replace c148:=Bool.eq_false_iff.mpr c148
           subst c148
           have H1:(some false)=some r:=by rw [if_neg (show ¬ (false=true) by decide)] at H;exact H
           clear H
           have H:=H1
           clear H1
           exact absurd ((Option.some.inj H).trans hT) Bool.false_ne_true
       ·rw [if_neg c89] at H
        have c89b0:decide (x11_2<(t704.length:Int))=false:=dzF c89
        clear c89
        obtain rfl:=Option.some.inj H
        have hnb165:=NB708_701.out
        have hnc165:=NB701_708.out
        have hnb166:=NB708_702.out
        have hnc166:=NB702_708.out
        have hnb167:=NB708_703.out
        have hnc167:=NB703_708.out
        have hnb168:=NB708_713.out
        have hnc168:=NB713_708.out
        have hcz169_0:=bc0 BK708.out
        have hfz169_0:=jf BK708.out 0
        go_wp2
        go_ret
        exact ⟨Y2,Y28⟩
def jm.Pure : Prop := ∀ (l0 : List Int), l0.length ≤ maxLen → l0.length * 1 ≤ 140737488351232 → (∀ x ∈ l0, (Lit.int .u8 x).wf = true) → ∃ k, jm.f k l0 = some true
theorem jm.walk (P : jm.Pure) (a0 : Option Addr) (len0 cap0 : Nat) (z0 : List Int) (w : World) (w0 : (a0 = none ∧ len0 = 0 ∧ cap0 = 0 ∧ z0 = []) ∨ ∃ x, a0 = some x ∧ len0 ≤ cap0 ∧ cap0 ≤ maxLen ∧ z0.length = cap0 ∧ (∀ i, i < z0.length → w.cell? (x.add i) = some (.int .u8 (z0.getD i 0))) ∧ ∀ n ∈ z0, (Lit.int .u8 n).wf = true) (y0 : len0 * 1 ≤ 140737488351232) :
  Calls Try.prog 8 #[.slice a0 len0 cap0] w fun e w'=>e=.returned (.bool true)∧Below w.heap.size w w':=by
 obtain ⟨l0,rfl,hr0,hm0,hw0,hc0⟩:=jXa.ofRowC w0
 obtain ⟨k,h⟩:=P l0 hm0 y0 hw0
 refine (jm.calls k _ _ l0 true w (Kd.C_of_reads (d:=(0:Int)) (h1:=fun _=>rfl) hr0) hc0 rfl h).mono ?_
 rintro e w' ⟨rfl,hd⟩
 exact ⟨rfl,hd⟩
end Go.Proofs.Ytecdfgejmbpclaa.P
end
