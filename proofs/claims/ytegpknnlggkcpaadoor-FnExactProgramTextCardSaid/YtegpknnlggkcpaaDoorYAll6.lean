/- One part of the proofs on this program: functions of the program as plain functions, that the code comes to them, and facts on them. -/
import Derived.Test.YtegpknnlggkcpaaDoorYAll1
import Derived.Test.YtegpknnlggkcpaaDoorYAll3
import Derived.Test.YtegpknnlggkcpaaDoorYAll5
import Derived.Test.YtegpknnlggkcpaaDoorYWAuto
section
namespace Go.Proofs.YtegpknnlggkcpaaDoor.P
open Go.RowKit Go.Proofs.YtegpknnlggkcpaaDoorW.PrintWords Go.Proofs.YtegpknnlggkcpaaDoorW.PrintLast Go.Proofs.YtegpknnlggkcpaaDoorW.PrintMore
attribute [local go_sem] jaa jY jna jma jR jQ jZ jX jh
set_option linter.unusedVariables false
set_option linter.unusedSimpArgs false
def jCa.f (k : Nat) (l0_0 : List (S59)) (l1 : List (S44)) : Option (Bool) := (jVa.f k l0_0 1048576).bind fun t295 => (if t295 < 0 then (some true) else ((jPa.f l1 t295).bind fun t296 => (if t296 < 0 then (some true) else ((jca.f k l0_0).bind fun t297 => ((jC.f k l1).bind fun t300 => ((jwa.f k t297 t300).bind fun t303 => ((jca.f k l0_0).bind fun t304 => ((jC.f k l1).bind fun t308 => ((jka.f k t304 t308).bind fun t311 => (if t311.toList = t303.toList then ((jca.f k l0_0).bind fun t312 => ((jDa.f k t304 t312).bind fun t315 => (if t315 = true then ((jC.f k l1).bind fun t316 => ((jF.f k t308 t316).bind fun t319 => (if t319 = true then (some true) else (some false)))) else (some false)))) else (some false)))))))))))
set_option maxHeartbeats 8000000 in
set_option maxRecDepth 100000 in
theorem jCa.calls (k : Nat) (A0_0 : Option Addr) (c0_0 : Nat) (l0_0 : List (S59)) (A1 : Option Addr) (c1 : Nat) (l1 : List (S44)) (r : Bool) (w : World) (hr0_0 : Kd.C k59 w A0_0 l0_0.length l0_0) (hc0_0 : l0_0.length ≤ c0_0) (hr1 : Kd.C k44 w A1 l1.length l1) (hc1 : l1.length ≤ c1) (hT : r = true) (h : jCa.f k l0_0 l1 = some r) :
  Calls Tryd.prog 3 #[.agg #[.slice A0_0 l0_0.length c0_0], .slice A1 l1.length c1] w fun e w'=>e=.returned (.bool r)∧Below w.heap.size w w':=by
 have hu24:=Tryd.underlying24
 have hu31:=Tryd.underlying31
 have HR0_0:=am hr0_0
 have HC0_0:=am hc0_0
 clear hr0_0 hc0_0
 have HR1:=am hr1
 have HC1:=am hc1
 clear hr1 hc1
 have HB:=am (Below.refl w.heap.size w)
 have H:((jVa.f k l0_0 1048576).bind fun t295=>(if t295<0 then (some true) else ((jPa.f l1 t295).bind fun t296=>(if t296<0 then (some true) else ((jca.f k l0_0).bind fun t297=>((jC.f k l1).bind fun t300=>((jwa.f k t297 t300).bind fun t303=>((jca.f k l0_0).bind fun t304=>((jC.f k l1).bind fun t308=>((jka.f k t304 t308).bind fun t311=>(if t311.toList=t303.toList then ((jca.f k l0_0).bind fun t312=>((jDa.f k t304 t312).bind fun t315=>(if t315=true then ((jC.f k l1).bind fun t316=>((jF.f k t308 t316).bind fun t319=>(if t319=true then (some true) else (some false)))) else (some false)))) else (some false))))))))))))=some r:=h
 clear h
 replace H:=bzS H
 obtain ⟨t295,A30,H⟩:=H
 replace H:(if t295<0 then (some true) else ((jPa.f l1 t295).bind fun t296=>(if t296<0 then (some true) else ((jca.f k l0_0).bind fun t297=>((jC.f k l1).bind fun t300=>((jwa.f k t297 t300).bind fun t303=>((jca.f k l0_0).bind fun t304=>((jC.f k l1).bind fun t308=>((jka.f k t304 t308).bind fun t311=>(if t311.toList=t303.toList then ((jca.f k l0_0).bind fun t312=>((jDa.f k t304 t312).bind fun t315=>(if t315=true then ((jC.f k l1).bind fun t316=>((jF.f k t308 t316).bind fun t319=>(if t319=true then (some true) else (some false)))) else (some false)))) else (some false)))))))))))=some r:=H
 have A3:=am A30
 clear A30
 by_cases c4:t295<0
 ·rw [if_pos c4] at H
  have c4b0:decide (t295<0)=true:=dzT c4
  clear c4
  obtain rfl:=Option.some.inj H
  go_enter Tryd.func3,Tryd.ntmps3
  go_wp2_with (first |((with_reducible refine jN (N:=2) rfl ?_);refine bE (N:=2) (cs:=#[.slice A0_0 l0_0.length c0_0]) (t:=24) ?_;intro gb294 hg w5 hbox hb;have BK294:=am (hbox);have GW294:=am ((Y1:w.heap.size≤gb294));have GE294:=am ((Y1:w.heap.size≤gb294));replace HB:=am (jc (bq) hb);clear hb hbox hg;have hcz6_0:=bc0 BK294.out;have hfz6_0:=ja BK294.out 0) |((with_reducible refine jf (f:=4) rfl ?_);refine gL (some 12) Tryd.func4 #[.agg #[.slice A0_0 l0_0.length c0_0], .int .i64 1048576] ?_;(with_reducible refine (jVa.calls k _ _ l0_0 1048576 t295 _ ?side1 ?side2 A3.out).mono ?_);(case side1=>exact cq (Kd.jH HR0_0.out HB.out));(case side2=>exact HC0_0.out);rintro e w7 ⟨rfl,hb⟩;refine ⟨_,rfl,?_⟩;replace BK294:=am (ji (g:=gb294) (o:=.cells #[.slice A0_0 l0_0.length c0_0] 24 (0,0)) (kq BK294.out) hb);replace HB:=am (jc (Y6) hb);(try clear hb);(try clear hb2);(try clear hk);(try clear hi)))
  go_ret
  exact ⟨Y0,Y6⟩
 ·rw [if_neg c4] at H
  have c4b0:decide (t295<0)=false:=dzF c4
  clear c4
  replace H:=bzS H
  obtain ⟨t296,A80,H⟩:=H
  replace H:(if t296<0 then (some true) else ((jca.f k l0_0).bind fun t297=>((jC.f k l1).bind fun t300=>((jwa.f k t297 t300).bind fun t303=>((jca.f k l0_0).bind fun t304=>((jC.f k l1).bind fun t308=>((jka.f k t304 t308).bind fun t311=>(if t311.toList=t303.toList then ((jca.f k l0_0).bind fun t312=>((jDa.f k t304 t312).bind fun t315=>(if t315=true then ((jC.f k l1).bind fun t316=>((jF.f k t308 t316).bind fun t319=>(if t319=true then (some true) else (some false)))) else (some false)))) else (some false)))))))))=some r:=H
  have A8:=am A80
  clear A80
  by_cases c9:t296<0
  ·rw [if_pos c9] at H
   have c9b0:decide (t296<0)=true:=dzT c9
   clear c9
   obtain rfl:=Option.some.inj H
   go_enter Tryd.func3,Tryd.ntmps3
   go_wp2_with (first |((with_reducible refine jN (N:=2) rfl ?_);refine bE (N:=2) (cs:=#[.slice A0_0 l0_0.length c0_0]) (t:=24) ?_;intro gb294 hg w10 hbox hb;have BK294:=am (hbox);have GW294:=am ((Y1:w.heap.size≤gb294));have GE294:=am ((Y1:w.heap.size≤gb294));replace HB:=am (jc (bq) hb);clear hb hbox hg;have hcz11_0:=bc0 BK294.out;have hfz11_0:=ja BK294.out 0) |((with_reducible refine jf (f:=4) rfl ?_);refine gL (some 12) Tryd.func4 #[.agg #[.slice A0_0 l0_0.length c0_0], .int .i64 1048576] ?_;(with_reducible refine (jVa.calls k _ _ l0_0 1048576 t295 _ ?side1 ?side2 A3.out).mono ?_);(case side1=>exact cq (Kd.jH HR0_0.out HB.out));(case side2=>exact HC0_0.out);rintro e w12 ⟨rfl,hb⟩;refine ⟨_,rfl,?_⟩;replace BK294:=am (ji (g:=gb294) (o:=.cells #[.slice A0_0 l0_0.length c0_0] 24 (0,0)) (kq BK294.out) hb);replace HB:=am (jc (Y6) hb);(try clear hb);(try clear hb2);(try clear hk);(try clear hi)) |((with_reducible refine jf (f:=5) rfl ?_);refine gL (some 17) Tryd.func5 #[.slice A1 l1.length c1, .int .i64 t295] ?_;(with_reducible refine (jPa.calls _ _ l1 t295 t296 _ ?side1 ?side2 A8.out).mono ?_);(case side1=>exact cq (Kd.jH HR1.out HB.out));(case side2=>exact HC1.out);rintro e w' ⟨rfl,⟨nd,rfl⟩⟩;refine ⟨_,rfl,?_⟩))
   go_ret
   exact ⟨Y0,Y6⟩
  ·rw [if_neg c9] at H
   have c9b0:decide (t296<0)=false:=dzF c9
   clear c9
   replace H:=bzS H
   obtain ⟨t297,A130,H⟩:=H
   replace H:((jC.f k l1).bind fun t300=>((jwa.f k t297 t300).bind fun t303=>((jca.f k l0_0).bind fun t304=>((jC.f k l1).bind fun t308=>((jka.f k t304 t308).bind fun t311=>(if t311.toList=t303.toList then ((jca.f k l0_0).bind fun t312=>((jDa.f k t304 t312).bind fun t315=>(if t315=true then ((jC.f k l1).bind fun t316=>((jF.f k t308 t316).bind fun t319=>(if t319=true then (some true) else (some false)))) else (some false)))) else (some false)))))))=some r:=H
   have A13:=am A130
   clear A130
   replace H:=bzS H
   obtain ⟨t300,A140,H⟩:=H
   replace H:((jwa.f k t297 t300).bind fun t303=>((jca.f k l0_0).bind fun t304=>((jC.f k l1).bind fun t308=>((jka.f k t304 t308).bind fun t311=>(if t311.toList=t303.toList then ((jca.f k l0_0).bind fun t312=>((jDa.f k t304 t312).bind fun t315=>(if t315=true then ((jC.f k l1).bind fun t316=>((jF.f k t308 t316).bind fun t319=>(if t319=true then (some true) else (some false)))) else (some false)))) else (some false))))))=some r:=H
   have A14:=am A140
   clear A140
   replace H:=bzS H
   obtain ⟨t303,A150,H⟩:=H
   replace H:((jca.f k l0_0).bind fun t304=>((jC.f k l1).bind fun t308=>((jka.f k t304 t308).bind fun t311=>(if t311.toList=t303.toList then ((jca.f k l0_0).bind fun t312=>((jDa.f k t304 t312).bind fun t315=>(if t315=true then ((jC.f k l1).bind fun t316=>((jF.f k t308 t316).bind fun t319=>(if t319=true then (some true) else (some false)))) else (some false)))) else (some false)))))=some r:=H
   have A15:=am A150
   clear A150
   replace H:=bzS H
   obtain ⟨t304,A160,H⟩:=H
   replace H:((jC.f k l1).bind fun t308=>((jka.f k t304 t308).bind fun t311=>(if t311.toList=t303.toList then ((jca.f k l0_0).bind fun t312=>((jDa.f k t304 t312).bind fun t315=>(if t315=true then ((jC.f k l1).bind fun t316=>((jF.f k t308 t316).bind fun t319=>(if t319=true then (some true) else (some false)))) else (some false)))) else (some false))))=some r:=H
   have A16:=am A160
   clear A160
   replace H:=bzS H
   obtain ⟨t308,A170,H⟩:=H
   replace H:((jka.f k t304 t308).bind fun t311=>(if t311.toList=t303.toList then ((jca.f k l0_0).bind fun t312=>((jDa.f k t304 t312).bind fun t315=>(if t315=true then ((jC.f k l1).bind fun t316=>((jF.f k t308 t316).bind fun t319=>(if t319=true then (some true) else (some false)))) else (some false)))) else (some false)))=some r:=H
   have A17:=am A170
   clear A170
   replace H:=bzS H
   obtain ⟨t311,A180,H⟩:=H
   replace H:(if t311.toList=t303.toList then ((jca.f k l0_0).bind fun t312=>((jDa.f k t304 t312).bind fun t315=>(if t315=true then ((jC.f k l1).bind fun t316=>((jF.f k t308 t316).bind fun t319=>(if t319=true then (some true) else (some false)))) else (some false)))) else (some false))=some r:=H
   have A18:=am A180
   clear A180
   by_cases c19:t311.toList=t303.toList
   ·rw [if_pos c19] at H
    have c19b0:(t311.toList == t303.toList)=true:=beq_iff_eq.mpr c19
    have c19b1:(t311.toList != t303.toList)=false:=bne_eq_false_iff_eq.mpr c19
    clear c19
    replace H:=bzS H
    obtain ⟨t312,A200,H⟩:=H
    replace H:((jDa.f k t304 t312).bind fun t315=>(if t315=true then ((jC.f k l1).bind fun t316=>((jF.f k t308 t316).bind fun t319=>(if t319=true then (some true) else (some false)))) else (some false)))=some r:=H
    have A20:=am A200
    clear A200
    replace H:=bzS H
    obtain ⟨t315,A210,H⟩:=H
    replace H:(if t315=true then ((jC.f k l1).bind fun t316=>((jF.f k t308 t316).bind fun t319=>(if t319=true then (some true) else (some false)))) else (some false))=some r:=H
    have A21:=am A210
    clear A210
    by_cases c22:t315=true
    ·subst c22
     have H1:((jC.f k l1).bind fun t316=>((jF.f k t308 t316).bind fun t319=>(if t319=true then (some true) else (some false))))=some r:=by rw [if_pos rfl] at H;exact H
     clear H
     have H:=H1
     clear H1
     replace H:=bzS H
     obtain ⟨t316,A230,H⟩:=H
     replace H:((jF.f k t308 t316).bind fun t319=>(if t319=true then (some true) else (some false)))=some r:=H
     have A23:=am A230
     clear A230
     replace H:=bzS H
     obtain ⟨t319,A240,H⟩:=H
     replace H:(if t319=true then (some true) else (some false))=some r:=H
     have A24:=am A240
     clear A240
     by_cases c25:t319=true
     ·subst c25
      have H1:(some true)=some r:=by rw [if_pos rfl] at H;exact H
      clear H
      have H:=H1
      clear H1
      obtain rfl:=Option.some.inj H
      go_enter Tryd.func3,Tryd.ntmps3
      try go_wp2_with (first |((with_reducible refine jN (N:=2) rfl ?_);refine bE (N:=2) (cs:=#[.slice A0_0 l0_0.length c0_0]) (t:=24) ?_;intro gb294 hg w26 hbox hb;have BK294:=am (hbox);have GW294:=am ((Y1:w.heap.size≤gb294));have GE294:=am ((Y1:w.heap.size≤gb294));replace HB:=am (jc (bq) hb);clear hb hbox hg;have hcz27_0:=bc0 BK294.out;have hfz27_0:=ja BK294.out 0) |((with_reducible refine jf (f:=4) rfl ?_);refine gL (some 12) Tryd.func4 #[.agg #[.slice A0_0 l0_0.length c0_0], .int .i64 1048576] ?_;(with_reducible refine (jVa.calls k _ _ l0_0 1048576 t295 _ ?side1 ?side2 A3.out).mono ?_);(case side1=>exact cq (Kd.jH HR0_0.out HB.out));(case side2=>exact HC0_0.out);rintro e w28 ⟨rfl,hb⟩;refine ⟨_,rfl,?_⟩;replace BK294:=am (ji (g:=gb294) (o:=.cells #[.slice A0_0 l0_0.length c0_0] 24 (0,0)) (kq BK294.out) hb);replace HB:=am (jc (Y6) hb);(try clear hb);(try clear hb2);(try clear hk);(try clear hi)) |((with_reducible refine jf (f:=5) rfl ?_);refine gL (some 17) Tryd.func5 #[.slice A1 l1.length c1, .int .i64 t295] ?_;(with_reducible refine (jPa.calls _ _ l1 t295 t296 _ ?side1 ?side2 A8.out).mono ?_);(case side1=>exact cq (Kd.jH HR1.out HB.out));(case side2=>exact HC1.out);rintro e w' ⟨rfl,⟨nd,rfl⟩⟩;refine ⟨_,rfl,?_⟩;(try (rw [drewN_self w28];generalize hq_:World.drewN w28 _=w28;have n0_:jD (w28.heap[gb294]?=some (.cells #[.slice A0_0 l0_0.length c0_0] 24 (0,0))):=⟨by rw [← hq_];exact (kq BK294.out)⟩;have n1_:jD (Below w.heap.size w w28):=⟨by rw [← hq_];exact (Y6)⟩;clear BK294 HB hq_;have BK294:=n0_;have HB:=n1_;clear n0_ n1_));have hcz29_0:=bc0 BK294.out;have hfz29_0:=ja BK294.out 0) |((with_reducible refine jf (f:=7) rfl ?_);refine gL (some 21) Tryd.func7 #[.agg #[.slice A0_0 l0_0.length c0_0]] ?_;(with_reducible refine (jca.calls k _ _ l0_0 t297 _ ?side1 ?side2 A13.out).mono ?_);(case side1=>exact cq (Kd.jH HR0_0.out HB.out));(case side2=>exact HC0_0.out);rintro e w30 ⟨v298,rfl,ho0,hb⟩;refine ⟨_,rfl,?_⟩;have HO299:=am (Kd.jRa ho0 (jP (Y6)));replace BK294:=am (ji (g:=gb294) (o:=.cells #[.slice A0_0 l0_0.length c0_0] 24 (0,0)) (kq BK294.out) hb);replace HB:=am (jc (Y6) hb);(try clear hb);(try clear hb2);(try clear hk);(try clear hi);(try clear ho0)) |((with_reducible refine jf (f:=8) rfl ?_);refine gL (some 23) Tryd.func8 #[.slice A1 l1.length c1] ?_;(with_reducible refine (jC.calls k _ _ l1 t300 _ ?side1 ?side2 A14.out).mono ?_);(case side1=>exact cq (Kd.jH HR1.out HB.out));(case side2=>exact HC1.out);rintro e w31 ⟨v301,rfl,ho0,hb⟩;refine ⟨_,rfl,?_⟩;have HO302:=am (Kd.jRa ho0 (jP (Y6)));replace HO299:=am (Kd.jqa (rq HO299.out) hb);replace BK294:=am (ji (g:=gb294) (o:=.cells #[.slice A0_0 l0_0.length c0_0] 24 (0,0)) (kq BK294.out) hb);replace HB:=am (jc (Y6) hb);(try clear hb);(try clear hb2);(try clear hk);(try clear hi);(try clear ho0);obtain ⟨Ao32,co32,eo32⟩:=Kd.jKa HO299.out;subst eo32;obtain ⟨Ao33,co33,eo33⟩:=Kd.jKa HO302.out;subst eo33) |((with_reducible refine jf (f:=6) rfl ?_);refine gL (some 24) Tryd.func6 #[.agg #[.slice Ao32 t297.length co32], .slice Ao33 t300.length co33] ?_;(with_reducible refine (jwa.calls k _ _ t297 _ _ t300 t303 _ ?side1 ?side2 ?side3 ?side4 A15.out).mono ?_);(case side1=>exact cq (Kd.jT HO299.out).2.2);(case side2=>exact (Kd.jT HO299.out).2.1);(case side3=>exact cq (Kd.jT HO302.out).2.2);(case side4=>exact (Kd.jT HO302.out).2.1);rintro e w34 ⟨rfl,hb⟩;refine ⟨_,rfl,?_⟩;replace HO299:=am (Kd.jqa (rq HO299.out) hb);replace HO302:=am (Kd.jqa (rq HO302.out) hb);replace BK294:=am (ji (g:=gb294) (o:=.cells #[.slice A0_0 l0_0.length c0_0] 24 (0,0)) (kq BK294.out) hb);replace HB:=am (jc (Y6) hb);(try clear hb);(try clear hb2);(try clear hk);(try clear hi);have hcz35_0:=bc0 BK294.out;have hfz35_0:=ja BK294.out 0) |((with_reducible refine jf (f:=7) rfl ?_);refine gL (some 26) Tryd.func7 #[.agg #[.slice A0_0 l0_0.length c0_0]] ?_;(with_reducible refine (jca.calls k _ _ l0_0 t304 _ ?side1 ?side2 A16.out).mono ?_);(case side1=>exact cq (Kd.jH HR0_0.out HB.out));(case side2=>exact HC0_0.out);rintro e w36 ⟨v305,rfl,ho0,hb⟩;refine ⟨_,rfl,?_⟩;have HO306:=am (Kd.jRa (Kd.R_new' ho0 (Kd.R_lt (rq HO299.out))) (jP (Y6)));replace HO299:=am (Kd.jGb (rq HO299.out) (Kd.R_base ho0) hb);replace HO302:=am (Kd.jqa (rq HO302.out) hb);replace BK294:=am (ji (g:=gb294) (o:=.cells #[.slice A0_0 l0_0.length c0_0] 24 (0,0)) (kq BK294.out) hb);replace HB:=am (jc (Y6) hb);(try clear hb);(try clear hb2);(try clear hk);(try clear hi);(try clear ho0)) |((with_reducible refine jN (N:=7) rfl ?_);refine bE (N:=7) (cs:=#[.slice none 0 0]) (t:=31) ?_;intro gb307 hg w37 hbox hb;have BK307:=am (hbox);have GW307:=am ((Y47:w.heap.size≤gb307));have GE307:=am ((Y47:w.heap.size≤gb307));have NB294_307:=am ((by rw [hg];exact Nat.ne_of_lt (jEa (g:=gb294) (o:=.cells #[.slice A0_0 l0_0.length c0_0] 24 (0,0)) (kq BK294.out)):gb294≠gb307));have NB307_294:=am ((by rw [hg];exact Nat.ne_of_gt (jEa (g:=gb294) (o:=.cells #[.slice A0_0 l0_0.length c0_0] 24 (0,0)) (kq BK294.out)):gb307≠gb294));replace HO299:=am (Kd.jqa (rq HO299.out) hb);replace HO302:=am (Kd.jqa (rq HO302.out) hb);replace HO306:=am (Kd.jqa (rq HO306.out) hb);replace BK294:=am (ji (g:=gb294) (o:=.cells #[.slice A0_0 l0_0.length c0_0] 24 (0,0)) (kq BK294.out) hb);replace HB:=am (jc (Y6) hb);clear hb hbox hg;obtain ⟨Ao38,co38,eo38⟩:=Kd.jKa HO306.out;subst eo38;have hnb39:=NB307_294.out;have hnc39:=NB294_307.out;have hcz40_0:=bc0 BK307.out;have hfz40_0:=ja BK307.out 0) |((with_reducible refine jf (f:=8) rfl ?_);refine gL (some 28) Tryd.func8 #[.slice A1 l1.length c1] ?_;(with_reducible refine (jC.calls k _ _ l1 t308 _ ?side1 ?side2 A17.out).mono ?_);(case side1=>exact Kd.jH HR1.out (Y10));(case side2=>exact HC1.out);rintro e w41 ⟨v309,rfl,ho0,hb⟩;refine ⟨_,rfl,?_⟩;have HO310:=am (Kd.jRa (Kd.R_new' ho0 (Kd.R_lt (Y48))) (jP (Y10)));replace HO299:=am (Kd.jqa (by (with_reducible repeat (first | apply Kd.jPb | apply Kd.jOb | apply Kd.jLb));exact (Kd.jKb (Kd.R_far (p:=⟨gb307,0,none⟩) (Kd.R_types HO299.out BK307.out (by decide)) (fun _ hk=>hk.2) (.slice Ao38 t304.length co38)) (fun _ h_=>h_.1))) hb);replace HO302:=am (Kd.jGb (Y48) (Kd.R_base ho0) hb);replace HO306:=am (Kd.jqa (by (with_reducible repeat (first | apply Kd.jPb | apply Kd.jOb | apply Kd.jLb));exact (Kd.jKb (Kd.R_far (p:=⟨gb307,0,none⟩) (Kd.R_types HO306.out BK307.out (by decide)) (fun _ hk=>hk.2) (.slice Ao38 t304.length co38)) (fun _ h_=>h_.1))) hb);replace BK294:=am (ji (g:=gb294) (o:=.cells #[.slice A0_0 l0_0.length c0_0] 24 (0,0)) (by (with_reducible repeat (first | refine jO ?_ _ | refine jI ?_ | refine jJ ?_ _));refine jkb ?_ NB294_307.out _;(with_reducible repeat (first | refine jO ?_ _ | refine jI ?_ | refine jJ ?_ _));exact BK294.out) hb);replace BK307:=am (ji (g:=gb307) (o:=.cells #[.slice Ao38 t304.length co38] 31 (0,0)) (by (with_reducible repeat (first | refine jO ?_ _ | refine jI ?_ | refine jJ ?_ _));refine jjb (cs:=#[.slice none 0 0]) ?_ 0 _ rfl;(with_reducible repeat (first | refine jO ?_ _ | refine jI ?_ | refine jJ ?_ _));exact BK307.out) hb);replace HB:=am (jc (Y10) hb);(try clear hb);(try clear hb2);(try clear hk);(try clear hi);(try clear ho0);have hcz42_0:=bc0 BK307.out;have hfz42_0:=ja BK307.out 0;obtain ⟨Ao43,co43,eo43⟩:=Kd.jKa HO310.out;subst eo43) |((with_reducible refine jf (f:=9) rfl ?_);refine gL (some 31) Tryd.func9 #[.agg #[.slice Ao38 t304.length co38], .slice Ao43 t308.length co43] ?_;(with_reducible refine (jka.calls k _ _ t304 _ _ t308 t311 _ ?side1 ?side2 ?side3 ?side4 A18.out).mono ?_);(case side1=>exact cq (Kd.jT HO306.out).2.2);(case side2=>exact (Kd.jT HO306.out).2.1);(case side3=>exact cq (Kd.jT HO310.out).2.2);(case side4=>exact (Kd.jT HO310.out).2.1);rintro e w44 ⟨rfl,hb⟩;refine ⟨_,rfl,?_⟩;replace HO299:=am (Kd.jqa (rq HO299.out) hb);replace HO302:=am (Kd.jqa (rq HO302.out) hb);replace HO306:=am (Kd.jqa (rq HO306.out) hb);replace HO310:=am (Kd.jqa (rq HO310.out) hb);replace BK294:=am (ji (g:=gb294) (o:=.cells #[.slice A0_0 l0_0.length c0_0] 24 (0,0)) (kq BK294.out) hb);replace BK307:=am (ji (g:=gb307) (o:=.cells #[.slice Ao38 t304.length co38] 31 (0,0)) (kq BK307.out) hb);replace HB:=am (jc (Y10) hb);(try clear hb);(try clear hb2);(try clear hk);(try clear hi)))
      replace HO299:=am (Kd.jLb HO299.out)
      replace HO302:=am (Kd.jLb HO302.out)
      replace HO306:=am (Kd.jLb HO306.out)
      replace HO310:=am (Kd.jLb HO310.out)
      replace BK294:=am (jI BK294.out)
      replace BK307:=am (jI BK307.out)
      replace HB:=am (jy HB.out)
      refine start_ (n:=5) (S:=fun w'=>w'.cell? ⟨gb307,0,none⟩=some (.slice Ao38 t304.length co38)∧w'.cell? ⟨gb294,0,none⟩=some (.slice A0_0 l0_0.length c0_0)) (ds:=[]) #[false,false,false,false,false] (by kernel_rfl) rfl rfl ⟨(joa BK307.out 0).trans rfl,(joa BK294.out 0).trans rfl⟩ (fun hHeld=>?_)
      generalize w44.drew=w45 at HO299 HO302 HO306 HO310 BK294 BK307 HB hHeld ⊢
      refine take_ (i:=0) (N:=some 35) (v:=?_) (a':=?_) #[true,false,false,false,false] rfl rfl (by kernel_rfl) (fun _ _ _ h=>h) (Or.inl ⟨by rfl,?_⟩) hHeld ?_ ?_
      rotate_left
      ·rintro w' ⟨s0,s1⟩
       go_simp
       with_reducible rfl
      rotate_left
      ·exact sa
      refine take_ (i:=1) (N:=some 36) (v:=?_) (a':=?_) #[true,true,false,false,false] rfl rfl (by kernel_rfl) (fun _ _ _ h=>h) (Or.inl ⟨by rfl,?_⟩) hHeld ?_ ?_
      rotate_left
      ·rintro w' ⟨s0,s1⟩
       go_simp
       with_reducible rfl
      rotate_left
      ·exact sa
      refine one_ (i:=2) (N:=some 37) #[true,true,true,false,false] rfl rfl (by kernel_rfl) (by decide) (fun K hK=>?_)
      refine goes_ Tryd.func7 (by kernel_rfl) rfl #[.agg #[.slice A0_0 l0_0.length c0_0]] (by rfl) rfl rfl (aq) ?_
      with_reducible refine (jca.calls k _ _ l0_0 t312 _ ?side1 ?side2 A20.out).mono ?_
      (case side1=>exact cq (Kd.jH HR0_0.out HB.out))
      (case side2=>exact HC0_0.out)
      rintro e w46 ⟨v313,rfl,ho0,hb⟩
      refine ⟨_,rfl,?_⟩
      have HO314:=am (Kd.jRa (Kd.R_new' (Kd.R_new' ho0 (Kd.R_lt (rq HO299.out))) (Kd.R_lt (rq HO306.out))) (jP (Y10)))
      replace HO299:=am (Kd.jGb (rq HO299.out) (Kd.R_base ho0) hb)
      replace HO302:=am (Kd.jqa (rq HO302.out) hb)
      replace HO306:=am (Kd.jGb (rq HO306.out) (Kd.R_base ho0) hb)
      replace HO310:=am (Kd.jqa (rq HO310.out) hb)
      replace BK294:=am (ji (g:=gb294) (o:=.cells #[.slice A0_0 l0_0.length c0_0] 24 (0,0)) (kq BK294.out) hb)
      replace BK307:=am (ji (g:=gb307) (o:=.cells #[.slice Ao38 t304.length co38] 31 (0,0)) (kq BK307.out) hb)
      replace HB:=am (jc (Y10) hb)
      (try clear hb)
      (try clear hb2)
      (try clear hk)
      (try clear hi)
      (try clear ho0)
      obtain ⟨Ao47,co47,eo47⟩:=Kd.jKa HO314.out
      (first | subst eo47 |(injection eo47 with f1_ f2_ f3_;have f4_:=f1_.symm;have f5_:=f3_.symm;clear f1_ f2_ f3_;subst f4_;subst f5_))
      refine hK.out _ _ ⟨(joa BK307.out 0).trans rfl,(joa BK294.out 0).trans rfl⟩ (fun hHeld=>?_)
      clear hK K
      refine norm_ (a':=?_) ?_ ?_
      rotate_left
      ·show Act.put _ (some 37) _=_
       simp only [Act.put,List.setIfInBounds_toArray,List.set_cons_zero,List.set_cons_succ,jlb,job]
       rfl
      refine one_ (i:=3) (N:=some 38) #[true,true,true,true,false] rfl rfl (by kernel_rfl) (by decide) (fun K hK=>?_)
      refine goes_ Tryd.func10 (by kernel_rfl) rfl #[.agg #[.slice Ao38 t304.length co38], .agg #[.slice Ao47 t312.length co47]] (by rfl) rfl rfl (aq) ?_
      with_reducible refine (jDa.calls k _ _ t304 _ _ t312 true _ ?side1 ?side2 ?side3 ?side4 A21.out).mono ?_
      (case side1=>exact cq (Kd.jT HO306.out).2.2)
      (case side2=>exact (Kd.jT HO306.out).2.1)
      (case side3=>exact cq (Kd.jT HO314.out).2.2)
      (case side4=>exact (Kd.jT HO314.out).2.1)
      rintro e w48 ⟨rfl,hb⟩
      refine ⟨_,rfl,?_⟩
      replace HO299:=am (Kd.jqa (rq HO299.out) hb)
      replace HO302:=am (Kd.jqa (rq HO302.out) hb)
      replace HO306:=am (Kd.jqa (rq HO306.out) hb)
      replace HO310:=am (Kd.jqa (rq HO310.out) hb)
      replace HO314:=am (Kd.jqa (rq HO314.out) hb)
      replace BK294:=am (ji (g:=gb294) (o:=.cells #[.slice A0_0 l0_0.length c0_0] 24 (0,0)) (kq BK294.out) hb)
      replace BK307:=am (ji (g:=gb307) (o:=.cells #[.slice Ao38 t304.length co38] 31 (0,0)) (kq BK307.out) hb)
      replace HB:=am (jc (Y10) hb)
      (try clear hb)
      (try clear hb2)
      (try clear hk)
      (try clear hi)
      refine hK.out _ _ ⟨(joa BK307.out 0).trans rfl,(joa BK294.out 0).trans rfl⟩ (fun hHeld=>?_)
      clear hK K
      refine norm_ (a':=?_) ?_ ?_
      rotate_left
      ·show Act.put _ (some 38) _=_
       simp only [Act.put,List.setIfInBounds_toArray,List.set_cons_zero,List.set_cons_succ,jlb,job]
       rfl
      refine pure_ (i:=4) (N:=some 39) (v:=?_) (a':=?_) #[true,true,true,true,true] rfl rfl (by kernel_rfl) (fun _ _ _ h=>h) (Or.inl ⟨by rfl,?_⟩) ?_ ?_
      rotate_left
      ·exact sb
      rotate_left
      ·exact sa
      refine done_ (by kernel_rfl) ?_
      try go_wp2_with (first |((with_reducible refine jf (f:=8) rfl ?_);refine gL (some 42) Tryd.func8 #[.slice A1 l1.length c1] ?_;(with_reducible refine (jC.calls k _ _ l1 t316 _ ?side1 ?side2 A23.out).mono ?_);(case side1=>exact cq (Kd.jH HR1.out HB.out));(case side2=>exact HC1.out);rintro e w49 ⟨v317,rfl,ho0,hb⟩;refine ⟨_,rfl,?_⟩;have HO318:=am (Kd.jRa (Kd.R_new' (Kd.R_new' ho0 (Kd.R_lt (rq HO302.out))) (Kd.R_lt (rq HO310.out))) (jP (Y10)));replace HO299:=am (Kd.jqa (rq HO299.out) hb);replace HO302:=am (Kd.jGb (rq HO302.out) (Kd.R_base ho0) hb);replace HO306:=am (Kd.jqa (rq HO306.out) hb);replace HO310:=am (Kd.jGb (rq HO310.out) (Kd.R_base ho0) hb);replace HO314:=am (Kd.jqa (rq HO314.out) hb);replace BK294:=am (ji (g:=gb294) (o:=.cells #[.slice A0_0 l0_0.length c0_0] 24 (0,0)) (kq BK294.out) hb);replace BK307:=am (ji (g:=gb307) (o:=.cells #[.slice Ao38 t304.length co38] 31 (0,0)) (kq BK307.out) hb);replace HB:=am (jc (Y10) hb);(try clear hb);(try clear hb2);(try clear hk);(try clear hi);(try clear ho0);obtain ⟨Ao50,co50,eo50⟩:=Kd.jKa HO318.out;subst eo50) |((with_reducible refine jf (f:=11) rfl ?_);refine gL (some 43) Tryd.func11 #[.slice Ao43 t308.length co43, .slice Ao50 t316.length co50] ?_;(with_reducible refine (jF.calls k _ _ t308 _ _ t316 true _ ?side1 ?side2 ?side3 ?side4 A24.out).mono ?_);(case side1=>exact cq (Kd.jT HO310.out).2.2);(case side2=>exact (Kd.jT HO310.out).2.1);(case side3=>exact cq (Kd.jT HO318.out).2.2);(case side4=>exact (Kd.jT HO318.out).2.1);rintro e w51 ⟨rfl,hb⟩;refine ⟨_,rfl,?_⟩;replace HO299:=am (Kd.jqa (rq HO299.out) hb);replace HO302:=am (Kd.jqa (rq HO302.out) hb);replace HO306:=am (Kd.jqa (rq HO306.out) hb);replace HO310:=am (Kd.jqa (rq HO310.out) hb);replace HO314:=am (Kd.jqa (rq HO314.out) hb);replace HO318:=am (Kd.jqa (rq HO318.out) hb);replace BK294:=am (ji (g:=gb294) (o:=.cells #[.slice A0_0 l0_0.length c0_0] 24 (0,0)) (kq BK294.out) hb);replace BK307:=am (ji (g:=gb307) (o:=.cells #[.slice Ao38 t304.length co38] 31 (0,0)) (kq BK307.out) hb);replace HB:=am (jc (Y10) hb);(try clear hb);(try clear hb2);(try clear hk);(try clear hi)))
      go_ret
      exact ⟨Y0,Y10⟩
     ·replace c25:=Bool.eq_false_iff.mpr c25
      subst c25
      have H1:(some false)=some r:=by rw [if_neg (show ¬ (false=true) by decide)] at H;exact H
      clear H
      have H:=H1
      clear H1
      exact absurd ((Option.some.inj H).trans hT) Bool.false_ne_true
    ·replace c22:=Bool.eq_false_iff.mpr c22
     subst c22
     have H1:(some false)=some r:=by rw [if_neg (show ¬ (false=true) by decide)] at H;exact H
     clear H
     have H:=H1
     clear H1
     exact absurd ((Option.some.inj H).trans hT) Bool.false_ne_true
   ·rw [if_neg c19] at H
    have c19b0:(t311.toList == t303.toList)=false:=beq_eq_false_iff_ne.mpr c19
    have c19b1:(t311.toList != t303.toList)=true:=bne_iff_ne.mpr c19
    exact absurd ((Option.some.inj H).trans hT) Bool.false_ne_true
end Go.Proofs.YtegpknnlggkcpaaDoor.P
end
