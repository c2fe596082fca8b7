/- One part of the proofs on this program: functions of the program as plain functions, that the code comes to them, and facts on them. -/
import Derived.Test.YtecdfgejmbpclaaYAll1
import Derived.Test.YtecdfgejmbpclaaYAll2
import Derived.Test.YtecdfgejmbpclaaYAll3
import Derived.Test.YtecdfgejmbpclaaYAll7
import Derived.Test.YtecdfgejmbpclaaYWAuto
section
namespace Go.Proofs.Ytecdfgejmbpclaa.P
open Go.RowKit Go.Proofs.YtecdfgejmbpclaaW.PrintWords Go.Proofs.YtecdfgejmbpclaaW.PrintLast Go.Proofs.YtecdfgejmbpclaaW.PrintMore
attribute [local go_sem] jxa jva jEa jDa jka jja jwa jua jD
set_option linter.unusedVariables false
set_option linter.unusedSimpArgs false
mutual
def jo.j0 : Nat → Int → List Int → Bool → List (S94) → List (S54) → Option (Bool)
 | 0,_,_,_,_,_=>none
 | k+1,x5,x6,x35,x515000,x516000=>if x35=true then ((jTa.f k x515000 x516000 x5).bind fun t523=>((jfa.f k x6 t523).bind fun t526=>(some t526))) else (jo.l0 k x5 x6 0 x515000 x516000)
def jo.l0 : Nat → Int → List Int → Int → List (S94) → List (S54) → Option (Bool)
 | 0,_,_,_,_,_=>none
 | k+1,x5,x6,x7,x515000,x516000=>if x7<(x6.length:Int) then (if 0≤x7 then (if 0≤(rd x6 x7) then (if (rd x6 x7)<(x516000.length:Int) then (if ((ja x516000 (rd x6 x7)).f2)≥0 then ((jBa.f k x6 ((ja x516000 (rd x6 x7)).f2)).bind fun t530=>(if t530=true then (if ((ja x516000 (rd x6 x7)).f3)≥0 then ((jBa.f k x6 ((ja x516000 (rd x6 x7)).f3)).bind fun t531=>(jo.j2 k x5 x6 x7 (!t531) x515000 x516000)) else (jo.j2 k x5 x6 x7 false x515000 x516000)) else (jo.j2 k x5 x6 x7 true x515000 x516000))) else (if ((ja x516000 (rd x6 x7)).f3)≥0 then ((jBa.f k x6 ((ja x516000 (rd x6 x7)).f3)).bind fun t532=>(jo.j2 k x5 x6 x7 (!t532) x515000 x516000)) else (jo.j2 k x5 x6 x7 false x515000 x516000))) else (none)) else (none)) else (none)) else ((jKa.f k x6).bind fun t539=>(if t539=true then ((jBa.f k x6 x5).bind fun t540=>(some t540)) else (some false)))
def jo.j2 : Nat → Int → List Int → Int → Bool → List (S94) → List (S54) → Option (Bool)
 | 0,_,_,_,_,_,_=>none
 | k+1,x5,x6,x7,x77,x515000,x516000=>if x77=true then (some false) else (if 0≤x7 then (if x7<(x6.length:Int) then ((jYa.f k x515000 x516000 (rd x6 x7)).bind fun t534=>(jo.l1 k x5 x6 x7 t534 0 x515000 x516000)) else (none)) else (none))
def jo.l1 : Nat → Int → List Int → Int → List Int → Int → List (S94) → List (S54) → Option (Bool)
 | 0,_,_,_,_,_,_,_=>none
 | k+1,x5,x6,x7,x9,x10,x515000,x516000=>if x10<(x9.length:Int) then (if 0≤x10 then ((jBa.f k x6 (rd x9 x10)).bind fun t538=>(if t538=true then (jo.l1 k x5 x6 x7 x9 (wrap64 (x10+1)) x515000 x516000) else (some false))) else (none)) else (jo.l0 k x5 x6 (wrap64 (x7+1)) x515000 x516000)
end
def jo.f (k : Nat) (l0 : List Int) : Option (Bool) := if (l0.length : Int) > 1048576 then (some true) else ((jbb.f k l0).bind fun bt507 => ((jYa.f k bt507.1 bt507.2.1 bt507.2.2).bind fun t516 => ((jTa.f k bt507.1 bt507.2.1 bt507.2.2).bind fun t519 => ((jfa.f k t516 t519).bind fun t522 => (if t522 = true then (jo.j0 k bt507.2.2 t516 ((t516.length : Int) == 0) bt507.1 bt507.2.1) else (jo.j0 k bt507.2.2 t516 true bt507.1 bt507.2.1))))))
def jo.T10 : Bool × List (List Nat × List Nat) := (true, [([], []), ([0], [0]), ([], []), ([], []), ([2, 3], [2, 3]), ([4], [4]), ([1, 5], [1, 5]), ([6], [6]), ([], []), ([8, 7, 0, 1, 2, 3, 4, 5, 6, 7, 8], [7, 8])])
def jo.B10 : List Nat := [0, 1, 0, 0, 12, 28, 63, 127, 0, 511]
theorem jo.tab10 : rtab .any (opsOf Try.f7 10) = jo.T10 := by kernel_rfl
theorem jo.bits10 : jxb jo.T10.2 jo.B10 = true := by kernel_rfl
def jo.T13 : Bool × List (List Nat × List Nat) := (true, [([], []), ([], []), ([], []), ([], []), ([2, 3], [2, 3]), ([4], [4]), ([0, 1, 5], [0, 1, 5]), ([6, 6, 0, 1, 2, 3, 4, 5, 6], [6])])
def jo.B13 : List Nat := [0, 0, 0, 0, 12, 28, 63, 127]
theorem jo.tab13 : rtab .any (opsOf Try.f7 13) = jo.T13 := by kernel_rfl
theorem jo.bits13 : jxb jo.T13.2 jo.B13 = true := by kernel_rfl
set_option maxHeartbeats 8000000 in
set_option maxRecDepth 100000 in
theorem jo.calls (k : Nat) (A0 : Option Addr) (c0 : Nat) (l0 : List Int) (r : Bool) (w : World) (hr0 : Kd.C (Kd.int .u8) w A0 l0.length l0) (hc0 : l0.length ≤ c0) (hT : r = true) (h : jo.f k l0 = some r) :
  Calls Try.prog 7 #[.slice A0 l0.length c0] w fun e w'=>e=.returned (.bool r)∧Below w.heap.size w w':=by
 have hu37:=Try.underlying37
 have hu32:=Try.underlying32
 have hu54:=Try.underlying54
 have HR0:=am hr0
 have HC0:=am hc0
 clear hr0 hc0
 have HB:=am (Below.refl w.heap.size w)
 have H:(if (l0.length:Int) > 1048576 then (some true) else ((jbb.f k l0).bind fun bt507=>((jYa.f k bt507.1 bt507.2.1 bt507.2.2).bind fun t516=>((jTa.f k bt507.1 bt507.2.1 bt507.2.2).bind fun t519=>((jfa.f k t516 t519).bind fun t522=>(if t522=true then (jo.j0 k bt507.2.2 t516 ((t516.length:Int) == 0) bt507.1 bt507.2.1) else (jo.j0 k bt507.2.2 t516 true bt507.1 bt507.2.1)))))))=some r:=h
 clear h
 by_cases c2:(l0.length:Int) > 1048576
 ·rw [if_pos c2] at H
  have c2b0:decide (1048576<(l0.length:Int))=true:=dzT c2
  have c2b1:decide (1048576<l0.length)=true:=dzT (by omega)
  clear c2
  obtain rfl:=Option.some.inj H
  go_enter Try.func7,Try.ntmps7
  go_wp2
  go_ret
  exact ⟨Y1,bq⟩
 ·rw [if_neg c2] at H
  have c2b0:decide (1048576<(l0.length:Int))=false:=dzF c2
  have c2b1:decide (1048576<l0.length)=false:=dzF (by omega)
  clear c2
  replace H:=bzS H
  obtain ⟨⟨t507,t510,t513⟩,A30,H⟩:=H
  replace H:((jYa.f k t507 t510 t513).bind fun t516=>((jTa.f k t507 t510 t513).bind fun t519=>((jfa.f k t516 t519).bind fun t522=>(if t522=true then (jo.j0 k t513 t516 ((t516.length:Int) == 0) t507 t510) else (jo.j0 k t513 t516 true t507 t510)))))=some r:=H
  have A3:=am A30
  clear A30
  replace H:=bzS H
  obtain ⟨t516,A40,H⟩:=H
  replace H:((jTa.f k t507 t510 t513).bind fun t519=>((jfa.f k t516 t519).bind fun t522=>(if t522=true then (jo.j0 k t513 t516 ((t516.length:Int) == 0) t507 t510) else (jo.j0 k t513 t516 true t507 t510))))=some r:=H
  have A4:=am A40
  clear A40
  have HC5:=am H
  clear H
  go_enter Try.func7,Try.ntmps7
  go_upto_region 5 with (first |((with_reducible refine jB (f:=33) rfl ?_);refine gL (some 16) Try.func33 #[.slice A0 l0.length c0] ?_;(with_reducible refine (jbb.calls k _ _ l0 t507 t510 t513 _ ?side1 ?side2 A3.out).mono ?_);(case side1=>exact Y134);(case side2=>exact HC0.out);rintro e w6 ⟨v508,v511,rfl,ho0,ho1,hb⟩;refine ⟨_,rfl,?_⟩;have HO509:=am (Kd.jea ho0 (jU (bq)));have HO512:=am (Kd.jea ho1 (jU (bq)));replace HB:=am (jk (bq) hb);(try clear hb);(try clear hb2);(try clear hk);(try clear hi);(try clear ho0);(try clear ho1)) |((with_reducible refine jI (N:=3) rfl ?_);(try (refine jVa (by rfl) ?_;dsimp only));refine jlb ?hg (N:=3) ?hd (cs:=#[.slice none 0 0]) (t:=37) ?hr ?_;(case hd=>rfl);(case hg=>rfl);(case hr=>exact Y4);intro gb514 hg w7 hbox hb;have BK514:=am (hbox);have GW514:=am ((Y2:w.heap.size≤gb514));have GE514:=am ((Y2:w.heap.size≤gb514));replace HO509:=am (Kd.jaa (rq HO509.out) hb);replace HO512:=am (Kd.jaa (rq HO512.out) hb);replace HB:=am (jk (bq) hb);clear hb hbox hg) |((with_reducible refine jI (N:=4) rfl ?_);(try (refine jVa (by rfl) ?_;dsimp only));refine jlb ?hg (N:=4) ?hd (cs:=#[.slice none 0 0]) (t:=32) ?hr ?_;(case hd=>rfl);(case hg=>rfl);(case hr=>exact Y4);intro gb515 hg w8 hbox hb;have BK515:=am (hbox);have GW515:=am ((Y160:w.heap.size≤gb515));have GE515:=am ((Y160:w.heap.size≤gb515));have NB514_515:=am ((by rw [hg];exact Nat.ne_of_lt (jca (g:=gb514) (o:=.cells #[.slice none 0 0] 37 (0,0)) (kq BK514.out)):gb514≠gb515));have NB515_514:=am ((by rw [hg];exact Nat.ne_of_gt (jca (g:=gb514) (o:=.cells #[.slice none 0 0] 37 (0,0)) (kq BK514.out)):gb515≠gb514));replace HO509:=am (Kd.jaa (rq HO509.out) hb);replace HO512:=am (Kd.jaa (rq HO512.out) hb);replace BK514:=am (jh (g:=gb514) (o:=.cells #[.slice none 0 0] 37 (0,0)) (kq BK514.out) hb);replace HB:=am (jk (by repeat (first |(with_reducible first | exact HB.out | apply jA | apply jq | apply jv | refine jm ?_ GE514.out) | exact HB.out)) hb);clear hb hbox hg;obtain ⟨Ao9,co9,eo9⟩:=Kd.jW HO509.out;subst eo9;have hnb10:=NB514_515.out;have hnc10:=NB515_514.out;have hcz11_0:=bc0 BK514.out;have hfz11_0:=jc BK514.out 0;obtain ⟨Ao12,co12,eo12⟩:=Kd.jW HO512.out;subst eo12;have hcz13_0:=bc0 BK515.out;have hfz13_0:=jc BK515.out 0) |((with_reducible refine jB (f:=21) rfl ?_);refine gL (some 23) Try.func21 #[.agg #[.slice Ao9 t507.length co9], .agg #[.slice Ao12 t510.length co12], .int .i64 t513] ?_;(with_reducible refine (jYa.calls k _ _ t507 _ _ t510 t513 t516 _ ?side1 ?side2 ?side3 ?side4 A4.out).mono ?_);(case side1=>refine (Kd.jw (e:=94) (base:=w.heap.size) (ok:=fun k_=>True) (n:=t507.length) (c:=co9) ?_).2.2;exact (Y161));(case side2=>exact (Kd.jw HO509.out).2.1);(case side3=>refine (Kd.jw (e:=54) (base:=w.heap.size) (ok:=fun k_=>True) (n:=t510.length) (c:=co12) ?_).2.2;exact (Y162));(case side4=>exact (Kd.jw HO512.out).2.1);rintro e w14 ⟨v517,rfl,ho0,hb⟩;refine ⟨_,rfl,?_⟩;have HO518:=am (Kd.jea ho0 (jU (Y29)));replace HO509:=am (Kd.jaa (Y161) hb);replace HO512:=am (Kd.jaa (Y162) hb);replace BK514:=am (jh (g:=gb514) (o:=.cells #[.slice Ao9 t507.length co9] 37 (0,0)) (by (with_reducible repeat (first | refine je ?_ _ | refine jg ?_ | refine jf ?_ _));refine jJ ?_ NB514_515.out _;(with_reducible repeat (first | refine je ?_ _ | refine jg ?_ | refine jf ?_ _));refine jla (cs:=#[.slice none 0 0]) ?_ 0 _ rfl;(with_reducible repeat (first | refine je ?_ _ | refine jg ?_ | refine jf ?_ _));exact BK514.out) hb);replace BK515:=am (jh (g:=gb515) (o:=.cells #[.slice Ao12 t510.length co12] 32 (0,0)) (by (with_reducible repeat (first | refine je ?_ _ | refine jg ?_ | refine jf ?_ _));refine jla (cs:=#[.slice none 0 0]) ?_ 0 _ rfl;(with_reducible repeat (first | refine je ?_ _ | refine jg ?_ | refine jf ?_ _));refine jJ ?_ NB515_514.out _;(with_reducible repeat (first | refine je ?_ _ | refine jg ?_ | refine jf ?_ _));exact BK515.out) hb);replace HB:=am (jk (Y29) hb);(try clear hb);(try clear hb2);(try clear hk);(try clear hi);(try clear ho0)))
  (try simp only [Act.put,List.setIfInBounds_toArray,List.set_cons_zero,List.set_cons_succ])
  go_cut [35] (fun v35 wc=>∃ (kq:Nat) (x35_4:Bool),v35=.bool x35_4∧jC (jo.j0 kq t513 t516 x35_4 t507 t510=some r)∧jC (kq≤k)∧jC (Kd.R (Kd.int .i64) 3 wc w.heap.size (fun _=>True) v517 t516)∧jC (Kd.R k94 94 wc w.heap.size (fun _=>True) (.slice Ao9 t507.length co9) t507)∧jC (Kd.R k54 54 wc w.heap.size (fun _=>True) (.slice Ao12 t510.length co12) t510)∧jC (wc.heap[gb514]?=some (.cells #[(.slice Ao9 t507.length co9)] 37 (0,0)))∧jC (wc.heap[gb515]?=some (.cells #[(.slice Ao12 t510.length co12)] 32 (0,0)))∧jC (Below w.heap.size w wc))
  case first =>
   have H:=HC5.out
   clear HC5
   replace H:=bzS H
   obtain ⟨t519,A150,H⟩:=H
   replace H:((jfa.f k t516 t519).bind fun t522=>(if t522=true then (jo.j0 k t513 t516 ((t516.length:Int) == 0) t507 t510) else (jo.j0 k t513 t516 true t507 t510)))=some r:=H
   have A15:=am A150
   clear A150
   replace H:=bzS H
   obtain ⟨t522,A160,H⟩:=H
   replace H:(if t522=true then (jo.j0 k t513 t516 ((t516.length:Int) == 0) t507 t510) else (jo.j0 k t513 t516 true t507 t510))=some r:=H
   have A16:=am A160
   clear A160
   by_cases c17:t522=true
   ·subst c17
    have H1:(jo.j0 k t513 t516 ((t516.length:Int) == 0) t507 t510)=some r:=by rw [if_pos rfl] at H;exact H
    clear H
    have H:=H1
    clear H1
    have H':=am H
    clear H
    have hnb18:=NB514_515.out
    have hnc18:=NB515_514.out
    have hcz19_0:=bc0 BK514.out
    have hfz19_0:=jc BK514.out 0
    have hcz20_0:=bc0 BK515.out
    have hfz20_0:=jc BK515.out 0
    go_wp2_with (first |((with_reducible refine jB (f:=20) rfl ?_);refine gL (some 28) Try.func20 #[.agg #[.slice Ao9 t507.length co9], .agg #[.slice Ao12 t510.length co12], .int .i64 t513] ?_;(with_reducible refine (jTa.calls k _ _ t507 _ _ t510 t513 t519 _ ?side1 ?side2 ?side3 ?side4 A15.out).mono ?_);(case side1=>exact cq (Kd.jw HO509.out).2.2);(case side2=>exact (Kd.jw HO509.out).2.1);(case side3=>exact cq (Kd.jw HO512.out).2.2);(case side4=>exact (Kd.jw HO512.out).2.1);rintro e w21 ⟨v520,rfl,ho0,hb⟩;refine ⟨_,rfl,?_⟩;have HO521:=am (Kd.jea (Kd.R_new' ho0 (Kd.R_lt (rq HO518.out))) (jU (Y29)));replace HO509:=am (Kd.jaa (rq HO509.out) hb);replace HO512:=am (Kd.jaa (rq HO512.out) hb);replace HO518:=am (Kd.jdc (rq HO518.out) (Kd.R_base ho0) hb);replace BK514:=am (jh (g:=gb514) (o:=.cells #[.slice Ao9 t507.length co9] 37 (0,0)) (kq BK514.out) hb);replace BK515:=am (jh (g:=gb515) (o:=.cells #[.slice Ao12 t510.length co12] 32 (0,0)) (kq BK515.out) hb);replace HB:=am (jk (Y29) hb);(try clear hb);(try clear hb2);(try clear hk);(try clear hi);(try clear ho0);obtain ⟨Ao22,co22,eo22⟩:=Kd.jW HO518.out;subst eo22;obtain ⟨Ao23,co23,eo23⟩:=Kd.jW HO521.out;subst eo23) |((with_reducible refine jB (f:=27) rfl ?_);refine gL (some 29) Try.func27 #[.slice Ao22 t516.length co22, .slice Ao23 t519.length co23] ?_;(with_reducible refine (jfa.calls k _ _ t516 _ _ t519 true _ ?side1 ?side2 ?side3 ?side4 A16.out).mono ?_);(case side1=>exact cq (Kd.jw HO518.out).2.2);(case side2=>exact (Kd.jw HO518.out).2.1);(case side3=>exact cq (Kd.jw HO521.out).2.2);(case side4=>exact (Kd.jw HO521.out).2.1);rintro e w' ⟨rfl,⟨nd,rfl⟩⟩;refine ⟨_,rfl,?_⟩))
    go_meet
    case rel=>exact ⟨_,(((t516.length:Int) == 0)),(sq),H',⟨Y51⟩,⟨by (with_reducible repeat (first | apply Kd.jO | apply Kd.jQ | apply Kd.jM));exact Kd.jE HO518.out (fun _ hk=>trivial)⟩,⟨rq HO509.out⟩,⟨rq HO512.out⟩,⟨kq BK514.out⟩,⟨kq BK515.out⟩,⟨Y29⟩⟩
   ·replace c17:=Bool.eq_false_iff.mpr c17
    subst c17
    have H1:(jo.j0 k t513 t516 true t507 t510)=some r:=by rw [if_neg (show ¬ (false=true) by decide)] at H;exact H
    clear H
    have H:=H1
    clear H1
    have H':=am H
    clear H
    have hnb24:=NB514_515.out
    have hnc24:=NB515_514.out
    have hcz25_0:=bc0 BK514.out
    have hfz25_0:=jc BK514.out 0
    have hcz26_0:=bc0 BK515.out
    have hfz26_0:=jc BK515.out 0
    go_wp2_with (first |((with_reducible refine jB (f:=20) rfl ?_);refine gL (some 28) Try.func20 #[.agg #[.slice Ao9 t507.length co9], .agg #[.slice Ao12 t510.length co12], .int .i64 t513] ?_;(with_reducible refine (jTa.calls k _ _ t507 _ _ t510 t513 t519 _ ?side1 ?side2 ?side3 ?side4 A15.out).mono ?_);(case side1=>exact cq (Kd.jw HO509.out).2.2);(case side2=>exact (Kd.jw HO509.out).2.1);(case side3=>exact cq (Kd.jw HO512.out).2.2);(case side4=>exact (Kd.jw HO512.out).2.1);rintro e w27 ⟨v520,rfl,ho0,hb⟩;refine ⟨_,rfl,?_⟩;have HO521:=am (Kd.jea (Kd.R_new' ho0 (Kd.R_lt (rq HO518.out))) (jU (Y29)));replace HO509:=am (Kd.jaa (rq HO509.out) hb);replace HO512:=am (Kd.jaa (rq HO512.out) hb);replace HO518:=am (Kd.jdc (rq HO518.out) (Kd.R_base ho0) hb);replace BK514:=am (jh (g:=gb514) (o:=.cells #[.slice Ao9 t507.length co9] 37 (0,0)) (kq BK514.out) hb);replace BK515:=am (jh (g:=gb515) (o:=.cells #[.slice Ao12 t510.length co12] 32 (0,0)) (kq BK515.out) hb);replace HB:=am (jk (Y29) hb);(try clear hb);(try clear hb2);(try clear hk);(try clear hi);(try clear ho0);obtain ⟨Ao28,co28,eo28⟩:=Kd.jW HO518.out;subst eo28;obtain ⟨Ao29,co29,eo29⟩:=Kd.jW HO521.out;subst eo29) |((with_reducible refine jB (f:=27) rfl ?_);refine gL (some 29) Try.func27 #[.slice Ao28 t516.length co28, .slice Ao29 t519.length co29] ?_;(with_reducible refine (jfa.calls k _ _ t516 _ _ t519 false _ ?side1 ?side2 ?side3 ?side4 A16.out).mono ?_);(case side1=>exact cq (Kd.jw HO518.out).2.2);(case side2=>exact (Kd.jw HO518.out).2.1);(case side3=>exact cq (Kd.jw HO521.out).2.2);(case side4=>exact (Kd.jw HO521.out).2.1);rintro e w' ⟨rfl,⟨nd,rfl⟩⟩;refine ⟨_,rfl,?_⟩))
    go_meet
    case rel=>exact ⟨_,(true),(sq),H',⟨Y51⟩,⟨by (with_reducible repeat (first | apply Kd.jO | apply Kd.jQ | apply Kd.jM));exact Kd.jE HO518.out (fun _ hk=>trivial)⟩,⟨rq HO509.out⟩,⟨rq HO512.out⟩,⟨kq BK514.out⟩,⟨kq BK515.out⟩,⟨Y29⟩⟩
  case rest =>
   clear HC5
   try clear c1
   try clear c2
   try clear c2b0
   try clear c2b1
   try clear p2
   try clear c3
   try clear c7
   try clear c10
   try clear c17
   try clear c18
   try clear c20
   try clear c21
   try clear c24
   try clear c27
   try clear hcz11_0
   try clear hcz13_0
   try clear hcz19_0
   try clear hcz20_0
   try clear hcz25_0
   try clear hcz26_0
   try clear hfz11_0
   try clear hfz13_0
   try clear hfz19_0
   try clear hfz20_0
   try clear hfz25_0
   try clear hfz26_0
   obtain ⟨kq,x35_4,rfl,HA,HJ4,HO_6,HO_515000,HO_516000,BK514,BK515,HB⟩:=hcut
   cases kq with
   | zero=>exact absurd HA.out (by simp [jo.j0])
   | succ kj4 =>
    have H:=HA.out
    clear HA
    simp only [jo.j0] at H
    by_cases c30:x35_4=true
    ·subst c30
     have H1:((jTa.f kj4 t507 t510 t513).bind fun t523=>((jfa.f kj4 t516 t523).bind fun t526=>(some t526)))=some r:=by rw [if_pos rfl] at H;exact H
     clear H
     have H:=H1
     clear H1
     replace H:=bzS H
     obtain ⟨t523,A310,H⟩:=H
     replace H:((jfa.f kj4 t516 t523).bind fun t526=>(some t526))=some r:=H
     have A31:=am A310
     clear A310
     replace H:=bzS H
     obtain ⟨t526,A320,H⟩:=H
     replace H:(some t526)=some r:=H
     have A32:=am A320
     clear A320
     obtain rfl:=Option.some.inj H
     have hnb33:=NB514_515.out
     have hnc33:=NB515_514.out
     have hcz34_0:=bc0 BK514.out
     have hfz34_0:=jc BK514.out 0
     have hcz35_0:=bc0 BK515.out
     have hfz35_0:=jc BK515.out 0
     go_wp2_with (first |((with_reducible refine jB (f:=20) rfl ?_);refine gL (some 40) Try.func20 #[.agg #[.slice Ao9 t507.length co9], .agg #[.slice Ao12 t510.length co12], .int .i64 t513] ?_;(with_reducible refine (jTa.calls kj4 _ _ t507 _ _ t510 t513 t523 _ ?side1 ?side2 ?side3 ?side4 A31.out).mono ?_);(case side1=>exact cq (Kd.jw HO_515000.out).2.2);(case side2=>exact (Kd.jw HO_515000.out).2.1);(case side3=>exact cq (Kd.jw HO_516000.out).2.2);(case side4=>exact (Kd.jw HO_516000.out).2.1);rintro e w36 ⟨v524,rfl,ho0,hb⟩;refine ⟨_,rfl,?_⟩;have HO525:=am (Kd.jea (Kd.R_new' ho0 (Kd.R_lt (rq HO_6.out))) (jU (Y29)));replace HO_6:=am (Kd.jdc (rq HO_6.out) (Kd.R_base ho0) hb);replace HO_515000:=am (Kd.jaa (rq HO_515000.out) hb);replace HO_516000:=am (Kd.jaa (rq HO_516000.out) hb);replace BK514:=am (jh (g:=gb514) (o:=.cells #[.slice Ao9 t507.length co9] 37 (0,0)) (kq BK514.out) hb);replace BK515:=am (jh (g:=gb515) (o:=.cells #[.slice Ao12 t510.length co12] 32 (0,0)) (kq BK515.out) hb);replace HB:=am (jk (Y29) hb);(try clear hb);(try clear hb2);(try clear hk);(try clear hi);(try clear ho0);obtain ⟨Ao37,co37,eo37⟩:=Kd.jW HO_6.out;subst eo37;obtain ⟨Ao38,co38,eo38⟩:=Kd.jW HO525.out;subst eo38) |((with_reducible refine jB (f:=27) rfl ?_);refine gL (some 41) Try.func27 #[.slice Ao37 t516.length co37, .slice Ao38 t523.length co38] ?_;(with_reducible refine (jfa.calls kj4 _ _ t516 _ _ t523 t526 _ ?side1 ?side2 ?side3 ?side4 A32.out).mono ?_);(case side1=>exact cq (Kd.jw HO_6.out).2.2);(case side2=>exact (Kd.jw HO_6.out).2.1);(case side3=>exact cq (Kd.jw HO525.out).2.2);(case side4=>exact (Kd.jw HO525.out).2.1);rintro e w' ⟨rfl,⟨nd,rfl⟩⟩;refine ⟨_,rfl,?_⟩))
     go_ret
     exact ⟨Y1,Y29⟩
    ·replace c30:=Bool.eq_false_iff.mpr c30
     subst c30
     have H1:(jo.l0 kj4 t513 t516 0 t507 t510)=some r:=by rw [if_neg (show ¬ (false=true) by decide)] at H;exact H
     clear H
     have H:=H1
     clear H1
     have H':=am H
     clear H
     go_wp2
     go_loopg [7] kj4 (fun kq v7 w'=>∃ (x7_2:Int),v7=.int .i64 x7_2∧jC (jo.l0 kq t513 t516 x7_2 t507 t510=some r)∧jC (kq≤kj4)∧jC (Kd.R (Kd.int .i64) 3 w' w.heap.size (fun _=>True) v517 t516)∧jC (Kd.R k94 94 w' w.heap.size (fun _=>True) (.slice Ao9 t507.length co9) t507)∧jC (Kd.R k54 54 w' w.heap.size (fun _=>True) (.slice Ao12 t510.length co12) t510)∧jC (w'.heap[gb514]?=some (.cells #[(.slice Ao9 t507.length co9)] 37 (0,0)))∧jC (w'.heap[gb515]?=some (.cells #[(.slice Ao12 t510.length co12)] 32 (0,0)))∧jC (Below w.heap.size w w'))
     case atStart=>exact ⟨(0),(sq),H',⟨Nat.le_refl _⟩,⟨rq HO_6.out⟩,⟨rq HO_515000.out⟩,⟨rq HO_516000.out⟩,⟨kq BK514.out⟩,⟨kq BK515.out⟩,⟨Y29⟩⟩
     case round =>
      clear H'
      try clear c1
      try clear c2
      try clear c2b0
      try clear c2b1
      try clear p2
      try clear c3
      try clear c7
      try clear c10
      try clear c17
      try clear c18
      try clear c20
      try clear c21
      try clear c24
      try clear c27
      try clear c30
      try clear c33
      try clear hcz11_0
      try clear hcz13_0
      try clear hcz19_0
      try clear hcz20_0
      try clear hcz25_0
      try clear hcz26_0
      try clear hcz34_0
      try clear hcz35_0
      try clear hfz11_0
      try clear hfz13_0
      try clear hfz19_0
      try clear hfz20_0
      try clear hfz25_0
      try clear hfz26_0
      try clear hfz34_0
      try clear hfz35_0
      try clear p2
      obtain ⟨x7_2,rfl,HA,HK2,HO_6,HO_515000,HO_516000,BK514,BK515,HB⟩:=hrel
      cases gk with
      | zero=>exact absurd HA.out (by simp [jo.l0])
      | succ k2 =>
       have H:=HA.out
       clear HA
       simp only [jo.l0] at H
       by_cases c39:x7_2<(t516.length:Int)
       ·rw [if_pos c39] at H
        have c39b0:decide (x7_2<(t516.length:Int))=true:=dzT c39
        clear c39
        by_cases c40:0≤x7_2
        ·rw [if_pos c40] at H
         have c40b0:decide (0≤x7_2)=true:=dzT c40
         clear c40
         by_cases c41:0≤(rd t516 x7_2)
         ·rw [if_pos c41] at H
          have c41b0:decide (0≤(rd t516 x7_2))=true:=dzT c41
          clear c41
          by_cases c42:(rd t516 x7_2)<(t510.length:Int)
          ·rw [if_pos c42] at H
           have c42b0:decide ((rd t516 x7_2)<(t510.length:Int))=true:=dzT c42
           clear c42
           have HC43:=am H
           clear H
           obtain ⟨Ao44,co44,eo44⟩:=Kd.jW HO_6.out
           subst eo44
           try go_wp2
           replace HO_6:=am (Kd.jM HO_6.out)
           replace HO_515000:=am (Kd.jM HO_515000.out)
           replace HO_516000:=am (Kd.jM HO_516000.out)
           replace BK514:=am (jg BK514.out)
           replace BK515:=am (jg BK515.out)
           replace HB:=am (jv HB.out)
           have p527:0≤(x7_2:Int):=ozD (uq)
           have q527:x7_2<(t516.length:Int):=ozD (uq)
           obtain ⟨ad527,e527,hx527_0⟩:=Kd.jcb (Kd.jw HO_6.out).2.2 x7_2 p527 q527
           cases e527
           replace p527:=ezT p527
           replace q527:=ezT q527
           have p528:0≤((rd t516 x7_2):Int):=ozD (uq)
           have q528:(rd t516 x7_2)<(t510.length:Int):=ozD (uq)
           obtain ⟨ad528,e528,hx528_0,hx528_1,hx528_2,hx528_3,hx528_4⟩:=jvb (Kd.jw HO_516000.out).2.2 (rd t516 x7_2) p528 q528
           cases e528
           replace p528:=ezT p528
           replace q528:=ezT q528
           refine jHb (n:=10) (S:=fun w'=>w'.cell? ⟨gb515,0,none⟩=some (.slice (some ad528) t510.length co12)∧w'.cell? (ad527.add (x7_2).toNat)=some (.int .i64 (rd t516 x7_2))∧w'.cell? (ad528.add (((rd t516 x7_2)).toNat * 5))=some (.int .i64 ((ja t510 (rd t516 x7_2)).f0))∧w'.cell? ⟨(ad528.add (((rd t516 x7_2)).toNat * 5)).block,(ad528.add (((rd t516 x7_2)).toNat * 5)).off+1,none⟩=some (.int .i64 ((ja t510 (rd t516 x7_2)).f1))∧w'.cell? ⟨(ad528.add (((rd t516 x7_2)).toNat * 5)).block,(ad528.add (((rd t516 x7_2)).toNat * 5)).off+2,none⟩=some (.int .i64 ((ja t510 (rd t516 x7_2)).f2))∧w'.cell? ⟨(ad528.add (((rd t516 x7_2)).toNat * 5)).block,(ad528.add (((rd t516 x7_2)).toNat * 5)).off+3,none⟩=some (.int .i64 ((ja t510 (rd t516 x7_2)).f3))∧w'.cell? ⟨(ad528.add (((rd t516 x7_2)).toNat * 5)).block,(ad528.add (((rd t516 x7_2)).toNat * 5)).off+4,none⟩=some (.bool ((ja t510 (rd t516 x7_2)).f4))) (ds:=[]) #[false,false,false,false,false,false,false,false,false,false] (by kernel_rfl) rfl rfl ⟨(jH BK515.out 0).trans rfl,hx527_0,hx528_0,hx528_1,hx528_2,hx528_3,hx528_4⟩ (fun hHeld=>?_);refine jnb jo.tab10 jo.bits10 (fun HT_ HW_=>?_)
           generalize wr.drew=w45 at HO_6 HO_515000 HO_516000 BK514 BK515 HB hx527_0 hx528_0 hx528_1 hx528_2 hx528_3 hx528_4 hHeld ⊢
           refine pq (i:=0) (N:=some 48) #[true,false,false,false,false,false,false,false,false,false] ?_
           refine pq (i:=2) (N:=some 50) #[true,false,true,false,false,false,false,false,false,false] ?_
           refine pq (i:=3) (N:=some 51) #[true,false,true,true,false,false,false,false,false,false] ?_
           refine pq (i:=4) (N:=some 52) #[true,false,true,true,true,false,false,false,false,false] ?_
           refine job (i:=1) (N:=some 49) (v:=?_) (a':=?_) #[true,true,true,true,true,false,false,false,false,false] rfl rfl (jLa HT_.out HW_.out (by kernel_rfl)) (fun _ _ _ h=>h) (Or.inl ⟨by rfl,?_⟩) hHeld ?_ ?_
           rotate_left
           ·rintro w' ⟨s0,s1,s2,s3,s4,s5,s6⟩
            go_simp
            with_reducible rfl
           rotate_left
           ·exact sa
           refine job (i:=5) (N:=some 53) (v:=?_) (a':=?_) #[true,true,true,true,true,true,false,false,false,false] rfl rfl (jLa HT_.out HW_.out (by kernel_rfl)) (fun _ _ _ h=>h) (Or.inl ⟨by rfl,?_⟩) hHeld ?_ ?_
           rotate_left
           ·rintro w' ⟨s0,s1,s2,s3,s4,s5,s6⟩
            go_simp
            with_reducible rfl
           rotate_left
           ·exact sa
           refine pq (i:=6) (N:=some 54) #[true,true,true,true,true,true,true,false,false,false] ?_
           refine job (i:=7) (N:=some 55) (v:=?_) (a':=?_) #[true,true,true,true,true,true,true,true,false,false] rfl rfl (jLa HT_.out HW_.out (by kernel_rfl)) (fun _ _ _ h=>h) (Or.inl ⟨by rfl,?_⟩) hHeld ?_ ?_
           rotate_left
           ·rintro w' ⟨s0,s1,s2,s3,s4,s5,s6⟩
            go_simp
            with_reducible rfl
           rotate_left
           ·exact sa
           refine one_ (i:=8) (N:=some 8) #[true,true,true,true,true,true,true,true,true,false] rfl rfl (jZa HT_.out (by kernel_rfl)) (by decide) (fun K hK=>?_)
           refine box_step ?hg (N:=8) ?hd (cs:=#[.int .i64 0, .int .i64 0, .int .i64 0, .int .i64 0, .bool false]) (t:=54) ?hr ?_;(case hd=>rfl);(case hg=>rfl);(case hr=>exact Y4)
           intro gb529 hg w46 hbox hb
           have HS1_:=(hb.cell (World.block_lt_of_cell? _ _ (hHeld.2.1))).trans (hHeld.2.1)
           have HS2_:=(hb.cell (World.block_lt_of_cell? _ _ (hHeld.2.2.1))).trans (hHeld.2.2.1)
           have HS3_:=(hb.cell (World.block_lt_of_cell? _ _ (hHeld.2.2.2.1))).trans (hHeld.2.2.2.1)
           have HS4_:=(hb.cell (World.block_lt_of_cell? _ _ (hHeld.2.2.2.2.1))).trans (hHeld.2.2.2.2.1)
           have HS5_:=(hb.cell (World.block_lt_of_cell? _ _ (hHeld.2.2.2.2.2.1))).trans (hHeld.2.2.2.2.2.1)
           have HS6_:=(hb.cell (World.block_lt_of_cell? _ _ (hHeld.2.2.2.2.2.2))).trans (hHeld.2.2.2.2.2.2)
           have BK529:=am (hbox)
           have GW529:=am ((Y163:w.heap.size≤gb529))
           have GE529:=am ((Y163:w.heap.size≤gb529))
           have NB514_529:=am ((by rw [hg];exact Nat.ne_of_lt (jca (g:=gb514) (o:=.cells #[.slice Ao9 t507.length co9] 37 (0,0)) (kq BK514.out)):gb514≠gb529))
           have NB529_514:=am ((by rw [hg];exact Nat.ne_of_gt (jca (g:=gb514) (o:=.cells #[.slice Ao9 t507.length co9] 37 (0,0)) (kq BK514.out)):gb529≠gb514))
           have NB515_529:=am ((by rw [hg];exact Nat.ne_of_lt (jca (g:=gb515) (o:=.cells #[.slice (some ad528) t510.length co12] 32 (0,0)) (kq BK515.out)):gb515≠gb529))
           have NB529_515:=am ((by rw [hg];exact Nat.ne_of_gt (jca (g:=gb515) (o:=.cells #[.slice (some ad528) t510.length co12] 32 (0,0)) (kq BK515.out)):gb529≠gb515))
           replace HO_6:=am (Kd.jaa (rq HO_6.out) hb)
           replace HO_515000:=am (Kd.jaa (rq HO_515000.out) hb)
           replace HO_516000:=am (Kd.jaa (Kd.R_elderB (rq HO_516000.out) gb529 (Nat.le_of_eq hg.symm)) hb)
           replace BK514:=am (jh (g:=gb514) (o:=.cells #[.slice Ao9 t507.length co9] 37 (0,0)) (kq BK514.out) hb)
           replace BK515:=am (jh (g:=gb515) (o:=.cells #[.slice (some ad528) t510.length co12] 32 (0,0)) (kq BK515.out) hb)
           replace HB:=am (jk (Y29) hb)
           clear hb hbox hg
           refine hK.out _ _ ⟨(jH BK515.out 0).trans rfl,HS1_,HS2_,HS3_,HS4_,HS5_,HS6_⟩ (fun hHeld=>?_)
           clear hK K
           refine jMb (a':=?_) ?_ ?_
           rotate_left
           ·show Act.put _ (some 8) _=_
            simp only [Act.put,List.setIfInBounds_toArray,List.set_cons_zero,List.set_cons_succ,jqb,jub]
            rfl
           refine one_ (i:=9) (N:=none) #[true,true,true,true,true,true,true,true,true,true] rfl rfl (jZa HT_.out (by kernel_rfl)) (by decide) (fun K hK=>?_)
           have hs47:w46.cell? ⟨gb529,0,none⟩=some (.int .i64 0):=(jH BK529.out 0).trans rfl
           have hfs47:=jc BK529.out 0
           have hns47_0:=NB514_529.out
           have hns47_1:=NB515_529.out
           have hms47_0:=NB529_514.out
           have hms47_1:=NB529_515.out
           have hs48:w46.cell? ⟨gb529,1,none⟩=some (.int .i64 0):=(jH BK529.out 1).trans rfl
           have hfs48:=jc BK529.out 1
           have hns48_0:=NB514_529.out
           have hns48_1:=NB515_529.out
           have hms48_0:=NB529_514.out
           have hms48_1:=NB529_515.out
           have hs49:w46.cell? ⟨gb529,2,none⟩=some (.int .i64 0):=(jH BK529.out 2).trans rfl
           have hfs49:=jc BK529.out 2
           have hns49_0:=NB514_529.out
           have hns49_1:=NB515_529.out
           have hms49_0:=NB529_514.out
           have hms49_1:=NB529_515.out
           have hs50:w46.cell? ⟨gb529,3,none⟩=some (.int .i64 0):=(jH BK529.out 3).trans rfl
           have hfs50:=jc BK529.out 3
           have hns50_0:=NB514_529.out
           have hns50_1:=NB515_529.out
           have hms50_0:=NB529_514.out
           have hms50_1:=NB529_515.out
           have hs51:w46.cell? ⟨gb529,4,none⟩=some (.bool false):=(jH BK529.out 4).trans rfl
           have hfs51:=jc BK529.out 4
           have hns51_0:=NB514_529.out
           have hns51_1:=NB515_529.out
           have hms51_0:=NB529_514.out
           have hms51_1:=NB529_515.out
           refine jUb (w1:=?_) (by rfl) rfl ?_ ?_
           rotate_left
           ·go_simp
            rfl
           refine hK.out _ _ ⟨((cell_far (p:=⟨gb529,_,none⟩) NB515_529.out _).trans (((cell_far (p:=⟨gb529,_,none⟩) NB515_529.out _).trans (((cell_far (p:=⟨gb529,_,none⟩) NB515_529.out _).trans (((cell_far (p:=⟨gb529,_,none⟩) NB515_529.out _).trans (((cell_far (p:=⟨gb529,_,none⟩) NB515_529.out _).trans (hHeld.1)))))))))),((cell_far (p:=⟨gb529,_,none⟩) (Y91) _).trans (((cell_far (p:=⟨gb529,_,none⟩) (Y91) _).trans (((cell_far (p:=⟨gb529,_,none⟩) (Y91) _).trans (((cell_far (p:=⟨gb529,_,none⟩) (Y91) _).trans (((cell_far (p:=⟨gb529,_,none⟩) (Y91) _).trans (hHeld.2.1)))))))))),((cell_far (p:=⟨gb529,_,none⟩) (Y16) _).trans (((cell_far (p:=⟨gb529,_,none⟩) (Y16) _).trans (((cell_far (p:=⟨gb529,_,none⟩) (Y16) _).trans (((cell_far (p:=⟨gb529,_,none⟩) (Y16) _).trans (((cell_far (p:=⟨gb529,_,none⟩) (Y16) _).trans (hHeld.2.2.1)))))))))),((cell_far (p:=⟨gb529,_,none⟩) (Y16) _).trans (((cell_far (p:=⟨gb529,_,none⟩) (Y16) _).trans (((cell_far (p:=⟨gb529,_,none⟩) (Y16) _).trans (((cell_far (p:=⟨gb529,_,none⟩) (Y16) _).trans (((cell_far (p:=⟨gb529,_,none⟩) (Y16) _).trans (hHeld.2.2.2.1)))))))))),((cell_far (p:=⟨gb529,_,none⟩) (Y16) _).trans (((cell_far (p:=⟨gb529,_,none⟩) (Y16) _).trans (((cell_far (p:=⟨gb529,_,none⟩) (Y16) _).trans (((cell_far (p:=⟨gb529,_,none⟩) (Y16) _).trans (((cell_far (p:=⟨gb529,_,none⟩) (Y16) _).trans (hHeld.2.2.2.2.1)))))))))),((cell_far (p:=⟨gb529,_,none⟩) (Y16) _).trans (((cell_far (p:=⟨gb529,_,none⟩) (Y16) _).trans (((cell_far (p:=⟨gb529,_,none⟩) (Y16) _).trans (((cell_far (p:=⟨gb529,_,none⟩) (Y16) _).trans (((cell_far (p:=⟨gb529,_,none⟩) (Y16) _).trans (hHeld.2.2.2.2.2.1)))))))))),((cell_far (p:=⟨gb529,_,none⟩) (Y16) _).trans (((cell_far (p:=⟨gb529,_,none⟩) (Y16) _).trans (((cell_far (p:=⟨gb529,_,none⟩) (Y16) _).trans (((cell_far (p:=⟨gb529,_,none⟩) (Y16) _).trans (((cell_far (p:=⟨gb529,_,none⟩) (Y16) _).trans (hHeld.2.2.2.2.2.2))))))))))⟩ (fun hHeld=>?_)
           clear hK K
           refine jgc (jNb HT_.out (by kernel_rfl)) ?_
           go_upto_region 11 with (fail)
           go_cut [77] (fun v77 wc=>∃ (kq:Nat) (x77_42:Bool),v77=.bool x77_42∧jC (jo.j2 kq t513 t516 x7_2 x77_42 t507 t510=some r)∧jC (kq≤k2)∧jC (Kd.R (Kd.int .i64) 3 wc w.heap.size (fun _=>True) (.slice (some ad527) t516.length co44) t516)∧jC (Kd.R k94 94 wc w.heap.size (fun _=>True) (.slice Ao9 t507.length co9) t507)∧jC (Kd.R k54 54 wc w.heap.size (fun k_=>k_≠gb529) (.slice (some ad528) t510.length co12) t510)∧jC (wc.heap[gb514]?=some (.cells #[(.slice Ao9 t507.length co9)] 37 (0,0)))∧jC (wc.heap[gb515]?=some (.cells #[(.slice (some ad528) t510.length co12)] 32 (0,0)))∧jC (wc.heap[gb529]?=some (.cells #[.int .i64 ((ja t510 (rd t516 x7_2)).f0), .int .i64 ((ja t510 (rd t516 x7_2)).f1), .int .i64 ((ja t510 (rd t516 x7_2)).f2), .int .i64 ((ja t510 (rd t516 x7_2)).f3), .bool ((ja t510 (rd t516 x7_2)).f4)] 54 (0,0)))∧jC (Below w.heap.size w wc))
           case first =>
            have H:=HC43.out
            clear HC43
            by_cases c52:((ja t510 (rd t516 x7_2)).f2)≥0
            ·rw [if_pos c52] at H
             have c52b0:decide (0≤((ja t510 (rd t516 x7_2)).f2))=true:=dzT c52
             clear c52
             (first | rw [c52b0] |(simp only [jqb,jub];rw [c52b0]) | skip)
             replace H:=bzS H
             obtain ⟨t530,A530,H⟩:=H
             replace H:(if t530=true then (if ((ja t510 (rd t516 x7_2)).f3)≥0 then ((jBa.f k2 t516 ((ja t510 (rd t516 x7_2)).f3)).bind fun t531=>(jo.j2 k2 t513 t516 x7_2 (!t531) t507 t510)) else (jo.j2 k2 t513 t516 x7_2 false t507 t510)) else (jo.j2 k2 t513 t516 x7_2 true t507 t510))=some r:=H
             have A53:=am A530
             clear A530
             by_cases c54:t530=true
             ·subst c54
              have H1:(if ((ja t510 (rd t516 x7_2)).f3)≥0 then ((jBa.f k2 t516 ((ja t510 (rd t516 x7_2)).f3)).bind fun t531=>(jo.j2 k2 t513 t516 x7_2 (!t531) t507 t510)) else (jo.j2 k2 t513 t516 x7_2 false t507 t510))=some r:=by rw [if_pos rfl] at H;exact H
              clear H
              have H:=H1
              clear H1
              by_cases c55:((ja t510 (rd t516 x7_2)).f3)≥0
              ·rw [if_pos c55] at H
               have c55b0:decide (0≤((ja t510 (rd t516 x7_2)).f3))=true:=dzT c55
               clear c55
               replace H:=bzS H
               obtain ⟨t531,A560,H⟩:=H
               replace H:(jo.j2 k2 t513 t516 x7_2 (!t531) t507 t510)=some r:=H
               have A56:=am A560
               clear A560
               have H':=am H
               clear H
               have hnb57:=NB529_514.out
               have hnc57:=NB514_529.out
               have hnb58:=NB529_515.out
               have hnc58:=NB515_529.out
               have hcz59_0:=bc0 BK529.out
               have hcz59_1:=bc1 BK529.out
               have hcz59_2:=bc2 BK529.out
               have hcz59_3:=bc3 BK529.out
               have hcz59_4:w46.cell? ⟨gb529,4,none⟩=some (.bool false):=(jH BK529.out 4).trans rfl
               have hfz59_0:=jc BK529.out 0
               have hfz59_1:=jc BK529.out 1
               have hfz59_2:=jc BK529.out 2
               have hfz59_3:=jc BK529.out 3
               have hfz59_4:=jc BK529.out 4
               go_wp2_with (first |(go_at_call 29;(with_reducible refine (jBa.calls k2 _ _ t516 ((ja t510 (rd t516 x7_2)).f2) true _ ?side1 ?side2 A53.out).mono ?_);(case side1=>refine (Kd.jw (e:=3) (base:=w.heap.size) (ok:=fun k_=>True) (n:=t516.length) (c:=co44) ?_).2.2;exact (Y92));(case side2=>exact (Kd.jw HO_6.out).2.1);rintro e w' ⟨rfl,⟨nd,rfl⟩⟩) |(go_at_call 29;(with_reducible refine (jBa.calls k2 _ _ t516 ((ja t510 (rd t516 x7_2)).f3) t531 _ ?side1 ?side2 A56.out).mono ?_);(case side1=>refine (Kd.jw (e:=3) (base:=w.heap.size) (ok:=fun k_=>True) (n:=t516.length) (c:=co44) ?_).2.2;exact (Y92));(case side2=>exact (Kd.jw HO_6.out).2.1);rintro e w' ⟨rfl,⟨nd,rfl⟩⟩))
               go_meet
               case rel=>exact ⟨_,(!t531),(sq),H',⟨by have:=HJ4.out;have:=HK2.out;first | omega | exact Nat.le_refl _⟩,⟨by (with_reducible repeat (first | apply Kd.jO | apply Kd.jQ | apply Kd.jM));exact Kd.jE (Kd.jX (p:=⟨gb529,4,none⟩) (Kd.jX (p:=⟨gb529,3,none⟩) (Kd.jX (p:=⟨gb529,2,none⟩) (Kd.jX (p:=⟨gb529,1,none⟩) (Kd.jX (p:=⟨gb529,0,none⟩) (Kd.jN HO_6.out BK529.out (by decide)) (fun _ hk=>hk.2) (.int .i64 ((ja t510 (rd t516 x7_2)).f0))) (fun _ hk=>hk.2) (.int .i64 ((ja t510 (rd t516 x7_2)).f1))) (fun _ hk=>hk.2) (.int .i64 ((ja t510 (rd t516 x7_2)).f2))) (fun _ hk=>hk.2) (.int .i64 ((ja t510 (rd t516 x7_2)).f3))) (fun _ hk=>hk.2) (.bool ((ja t510 (rd t516 x7_2)).f4))) (fun _ hk=>trivial)⟩,⟨by (with_reducible repeat (first | apply Kd.jO | apply Kd.jQ | apply Kd.jM));exact Kd.jE (Kd.jX (p:=⟨gb529,4,none⟩) (Kd.jX (p:=⟨gb529,3,none⟩) (Kd.jX (p:=⟨gb529,2,none⟩) (Kd.jX (p:=⟨gb529,1,none⟩) (Kd.jX (p:=⟨gb529,0,none⟩) (Kd.jN HO_515000.out BK529.out (by decide)) (fun _ hk=>hk.2) (.int .i64 ((ja t510 (rd t516 x7_2)).f0))) (fun _ hk=>hk.2) (.int .i64 ((ja t510 (rd t516 x7_2)).f1))) (fun _ hk=>hk.2) (.int .i64 ((ja t510 (rd t516 x7_2)).f2))) (fun _ hk=>hk.2) (.int .i64 ((ja t510 (rd t516 x7_2)).f3))) (fun _ hk=>hk.2) (.bool ((ja t510 (rd t516 x7_2)).f4))) (fun _ hk=>trivial)⟩,⟨by (with_reducible repeat (first | apply Kd.jO | apply Kd.jQ | apply Kd.jM));exact Kd.jE (Kd.jX (p:=⟨gb529,4,none⟩) (Kd.jX (p:=⟨gb529,3,none⟩) (Kd.jX (p:=⟨gb529,2,none⟩) (Kd.jX (p:=⟨gb529,1,none⟩) (Kd.jX (p:=⟨gb529,0,none⟩) (Kd.jE HO_516000.out (fun k_ hk=>(⟨hk,hk.2⟩:_∧k_≠gb529))) (fun _ hk=>hk.2) (.int .i64 ((ja t510 (rd t516 x7_2)).f0))) (fun _ hk=>hk.2) (.int .i64 ((ja t510 (rd t516 x7_2)).f1))) (fun _ hk=>hk.2) (.int .i64 ((ja t510 (rd t516 x7_2)).f2))) (fun _ hk=>hk.2) (.int .i64 ((ja t510 (rd t516 x7_2)).f3))) (fun _ hk=>hk.2) (.bool ((ja t510 (rd t516 x7_2)).f4))) (fun _ hk=>hk.1.2)⟩,⟨by (with_reducible repeat (first | refine je ?_ _ | refine jg ?_ | refine jf ?_ _));refine jJ ?_ NB514_529.out _;(with_reducible repeat (first | refine je ?_ _ | refine jg ?_ | refine jf ?_ _));refine jJ ?_ NB514_529.out _;(with_reducible repeat (first | refine je ?_ _ | refine jg ?_ | refine jf ?_ _));refine jJ ?_ NB514_529.out _;(with_reducible repeat (first | refine je ?_ _ | refine jg ?_ | refine jf ?_ _));refine jJ ?_ NB514_529.out _;(with_reducible repeat (first | refine je ?_ _ | refine jg ?_ | refine jf ?_ _));refine jJ ?_ NB514_529.out _;(with_reducible repeat (first | refine je ?_ _ | refine jg ?_ | refine jf ?_ _));exact BK514.out⟩,⟨by (with_reducible repeat (first | refine je ?_ _ | refine jg ?_ | refine jf ?_ _));refine jJ ?_ NB515_529.out _;(with_reducible repeat (first | refine je ?_ _ | refine jg ?_ | refine jf ?_ _));refine jJ ?_ NB515_529.out _;(with_reducible repeat (first | refine je ?_ _ | refine jg ?_ | refine jf ?_ _));refine jJ ?_ NB515_529.out _;(with_reducible repeat (first | refine je ?_ _ | refine jg ?_ | refine jf ?_ _));refine jJ ?_ NB515_529.out _;(with_reducible repeat (first | refine je ?_ _ | refine jg ?_ | refine jf ?_ _));refine jJ ?_ NB515_529.out _;(with_reducible repeat (first | refine je ?_ _ | refine jg ?_ | refine jf ?_ _));exact BK515.out⟩,⟨by (with_reducible repeat (first | refine je ?_ _ | refine jg ?_ | refine jf ?_ _));refine jla (cs:=#[.int .i64 ((ja t510 (rd t516 x7_2)).f0), .int .i64 ((ja t510 (rd t516 x7_2)).f1), .int .i64 ((ja t510 (rd t516 x7_2)).f2), .int .i64 ((ja t510 (rd t516 x7_2)).f3), .bool false]) ?_ 4 _ rfl;(with_reducible repeat (first | refine je ?_ _ | refine jg ?_ | refine jf ?_ _));refine jla (cs:=#[.int .i64 ((ja t510 (rd t516 x7_2)).f0), .int .i64 ((ja t510 (rd t516 x7_2)).f1), .int .i64 ((ja t510 (rd t516 x7_2)).f2), .int .i64 0, .bool false]) ?_ 3 _ rfl;(with_reducible repeat (first | refine je ?_ _ | refine jg ?_ | refine jf ?_ _));refine jla (cs:=#[.int .i64 ((ja t510 (rd t516 x7_2)).f0), .int .i64 ((ja t510 (rd t516 x7_2)).f1), .int .i64 0, .int .i64 0, .bool false]) ?_ 2 _ rfl;(with_reducible repeat (first | refine je ?_ _ | refine jg ?_ | refine jf ?_ _));refine jla (cs:=#[.int .i64 ((ja t510 (rd t516 x7_2)).f0), .int .i64 0, .int .i64 0, .int .i64 0, .bool false]) ?_ 1 _ rfl;(with_reducible repeat (first | refine je ?_ _ | refine jg ?_ | refine jf ?_ _));refine jla (cs:=#[.int .i64 0, .int .i64 0, .int .i64 0, .int .i64 0, .bool false]) ?_ 0 _ rfl;(with_reducible repeat (first | refine je ?_ _ | refine jg ?_ | refine jf ?_ _));exact BK529.out⟩,⟨Y43⟩⟩
              ·rw [if_neg c55] at H
               have c55b0:decide (0≤((ja t510 (rd t516 x7_2)).f3))=false:=dzF c55
               clear c55
               have H':=am H
               clear H
               have hnb60:=NB529_514.out
               have hnc60:=NB514_529.out
               have hnb61:=NB529_515.out
               have hnc61:=NB515_529.out
               have hcz62_0:=bc0 BK529.out
               have hcz62_1:=bc1 BK529.out
               have hcz62_2:=bc2 BK529.out
               have hcz62_3:=bc3 BK529.out
               have hcz62_4:w46.cell? ⟨gb529,4,none⟩=some (.bool false):=(jH BK529.out 4).trans rfl
               have hfz62_0:=jc BK529.out 0
               have hfz62_1:=jc BK529.out 1
               have hfz62_2:=jc BK529.out 2
               have hfz62_3:=jc BK529.out 3
               have hfz62_4:=jc BK529.out 4
               go_wp2_with (first |(go_at_call 29;(with_reducible refine (jBa.calls k2 _ _ t516 ((ja t510 (rd t516 x7_2)).f2) true _ ?side1 ?side2 A53.out).mono ?_);(case side1=>refine (Kd.jw (e:=3) (base:=w.heap.size) (ok:=fun k_=>True) (n:=t516.length) (c:=co44) ?_).2.2;exact (Y92));(case side2=>exact (Kd.jw HO_6.out).2.1);rintro e w' ⟨rfl,⟨nd,rfl⟩⟩))
               go_meet
               case rel=>exact ⟨_,(false),(sq),H',⟨by have:=HJ4.out;have:=HK2.out;first | omega | exact Nat.le_refl _⟩,⟨by (with_reducible repeat (first | apply Kd.jO | apply Kd.jQ | apply Kd.jM));exact Kd.jE (Kd.jX (p:=⟨gb529,4,none⟩) (Kd.jX (p:=⟨gb529,3,none⟩) (Kd.jX (p:=⟨gb529,2,none⟩) (Kd.jX (p:=⟨gb529,1,none⟩) (Kd.jX (p:=⟨gb529,0,none⟩) (Kd.jN HO_6.out BK529.out (by decide)) (fun _ hk=>hk.2) (.int .i64 ((ja t510 (rd t516 x7_2)).f0))) (fun _ hk=>hk.2) (.int .i64 ((ja t510 (rd t516 x7_2)).f1))) (fun _ hk=>hk.2) (.int .i64 ((ja t510 (rd t516 x7_2)).f2))) (fun _ hk=>hk.2) (.int .i64 ((ja t510 (rd t516 x7_2)).f3))) (fun _ hk=>hk.2) (.bool ((ja t510 (rd t516 x7_2)).f4))) (fun _ hk=>trivial)⟩,⟨by (with_reducible repeat (first | apply Kd.jO | apply Kd.jQ | apply Kd.jM));exact Kd.jE (Kd.jX (p:=⟨gb529,4,none⟩) (Kd.jX (p:=⟨gb529,3,none⟩) (Kd.jX (p:=⟨gb529,2,none⟩) (Kd.jX (p:=⟨gb529,1,none⟩) (Kd.jX (p:=⟨gb529,0,none⟩) (Kd.jN HO_515000.out BK529.out (by decide)) (fun _ hk=>hk.2) (.int .i64 ((ja t510 (rd t516 x7_2)).f0))) (fun _ hk=>hk.2) (.int .i64 ((ja t510 (rd t516 x7_2)).f1))) (fun _ hk=>hk.2) (.int .i64 ((ja t510 (rd t516 x7_2)).f2))) (fun _ hk=>hk.2) (.int .i64 ((ja t510 (rd t516 x7_2)).f3))) (fun _ hk=>hk.2) (.bool ((ja t510 (rd t516 x7_2)).f4))) (fun _ hk=>trivial)⟩,⟨by (with_reducible repeat (first | apply Kd.jO | apply Kd.jQ | apply Kd.jM));exact Kd.jE (Kd.jX (p:=⟨gb529,4,none⟩) (Kd.jX (p:=⟨gb529,3,none⟩) (Kd.jX (p:=⟨gb529,2,none⟩) (Kd.jX (p:=⟨gb529,1,none⟩) (Kd.jX (p:=⟨gb529,0,none⟩) (Kd.jE HO_516000.out (fun k_ hk=>(⟨hk,hk.2⟩:_∧k_≠gb529))) (fun _ hk=>hk.2) (.int .i64 ((ja t510 (rd t516 x7_2)).f0))) (fun _ hk=>hk.2) (.int .i64 ((ja t510 (rd t516 x7_2)).f1))) (fun _ hk=>hk.2) (.int .i64 ((ja t510 (rd t516 x7_2)).f2))) (fun _ hk=>hk.2) (.int .i64 ((ja t510 (rd t516 x7_2)).f3))) (fun _ hk=>hk.2) (.bool ((ja t510 (rd t516 x7_2)).f4))) (fun _ hk=>hk.1.2)⟩,⟨by (with_reducible repeat (first | refine je ?_ _ | refine jg ?_ | refine jf ?_ _));refine jJ ?_ NB514_529.out _;(with_reducible repeat (first | refine je ?_ _ | refine jg ?_ | refine jf ?_ _));refine jJ ?_ NB514_529.out _;(with_reducible repeat (first | refine je ?_ _ | refine jg ?_ | refine jf ?_ _));refine jJ ?_ NB514_529.out _;(with_reducible repeat (first | refine je ?_ _ | refine jg ?_ | refine jf ?_ _));refine jJ ?_ NB514_529.out _;(with_reducible repeat (first | refine je ?_ _ | refine jg ?_ | refine jf ?_ _));refine jJ ?_ NB514_529.out _;(with_reducible repeat (first | refine je ?_ _ | refine jg ?_ | refine jf ?_ _));exact BK514.out⟩,⟨by (with_reducible repeat (first | refine je ?_ _ | refine jg ?_ | refine jf ?_ _));refine jJ ?_ NB515_529.out _;(with_reducible repeat (first | refine je ?_ _ | refine jg ?_ | refine jf ?_ _));refine jJ ?_ NB515_529.out _;(with_reducible repeat (first | refine je ?_ _ | refine jg ?_ | refine jf ?_ _));refine jJ ?_ NB515_529.out _;(with_reducible repeat (first | refine je ?_ _ | refine jg ?_ | refine jf ?_ _));refine jJ ?_ NB515_529.out _;(with_reducible repeat (first | refine je ?_ _ | refine jg ?_ | refine jf ?_ _));refine jJ ?_ NB515_529.out _;(with_reducible repeat (first | refine je ?_ _ | refine jg ?_ | refine jf ?_ _));exact BK515.out⟩,⟨by (with_reducible repeat (first | refine je ?_ _ | refine jg ?_ | refine jf ?_ _));refine jla (cs:=#[.int .i64 ((ja t510 (rd t516 x7_2)).f0), .int .i64 ((ja t510 (rd t516 x7_2)).f1), .int .i64 ((ja t510 (rd t516 x7_2)).f2), .int .i64 ((ja t510 (rd t516 x7_2)).f3), .bool false]) ?_ 4 _ rfl;(with_reducible repeat (first | refine je ?_ _ | refine jg ?_ | refine jf ?_ _));refine jla (cs:=#[.int .i64 ((ja t510 (rd t516 x7_2)).f0), .int .i64 ((ja t510 (rd t516 x7_2)).f1), .int .i64 ((ja t510 (rd t516 x7_2)).f2), .int .i64 0, .bool false]) ?_ 3 _ rfl;(with_reducible repeat (first | refine je ?_ _ | refine jg ?_ | refine jf ?_ _));refine jla (cs:=#[.int .i64 ((ja t510 (rd t516 x7_2)).f0), .int .i64 ((ja t510 (rd t516 x7_2)).f1), .int .i64 0, .int .i64 0, .bool false]) ?_ 2 _ rfl;(with_reducible repeat (first | refine je ?_ _ | refine jg ?_ | refine jf ?_ _));refine jla (cs:=#[.int .i64 ((ja t510 (rd t516 x7_2)).f0), .int .i64 0, .int .i64 0, .int .i64 0, .bool false]) ?_ 1 _ rfl;(with_reducible repeat (first | refine je ?_ _ | refine jg ?_ | refine jf ?_ _));refine jla (cs:=#[.int .i64 0, .int .i64 0, .int .i64 0, .int .i64 0, .bool false]) ?_ 0 _ rfl;(with_reducible repeat (first | refine je ?_ _ | refine jg ?_ | refine jf ?_ _));exact BK529.out⟩,⟨Y43⟩⟩
             ·replace c54:=Bool.eq_false_iff.mpr c54
              subst c54
              have H1:(jo.j2 k2 t513 t516 x7_2 true t507 t510)=some r:=by rw [if_neg (show ¬ (false=true) by decide)] at H;exact H
              clear H
              have H:=H1
              clear H1
              have H':=am H
              clear H
              have hnb63:=NB529_514.out
              have hnc63:=NB514_529.out
              have hnb64:=NB529_515.out
              have hnc64:=NB515_529.out
              have hcz65_0:=bc0 BK529.out
              have hcz65_1:=bc1 BK529.out
              have hcz65_2:=bc2 BK529.out
              have hcz65_3:=bc3 BK529.out
              have hcz65_4:w46.cell? ⟨gb529,4,none⟩=some (.bool false):=(jH BK529.out 4).trans rfl
              have hfz65_0:=jc BK529.out 0
              have hfz65_1:=jc BK529.out 1
              have hfz65_2:=jc BK529.out 2
              have hfz65_3:=jc BK529.out 3
              have hfz65_4:=jc BK529.out 4
              go_wp2_with (first |(go_at_call 29;(with_reducible refine (jBa.calls k2 _ _ t516 ((ja t510 (rd t516 x7_2)).f2) false _ ?side1 ?side2 A53.out).mono ?_);(case side1=>refine (Kd.jw (e:=3) (base:=w.heap.size) (ok:=fun k_=>True) (n:=t516.length) (c:=co44) ?_).2.2;exact (Y92));(case side2=>exact (Kd.jw HO_6.out).2.1);rintro e w' ⟨rfl,⟨nd,rfl⟩⟩))
              go_meet
              case rel=>exact ⟨_,(true),(sq),H',⟨by have:=HJ4.out;have:=HK2.out;first | omega | exact Nat.le_refl _⟩,⟨by (with_reducible repeat (first | apply Kd.jO | apply Kd.jQ | apply Kd.jM));exact Kd.jE (Kd.jX (p:=⟨gb529,4,none⟩) (Kd.jX (p:=⟨gb529,3,none⟩) (Kd.jX (p:=⟨gb529,2,none⟩) (Kd.jX (p:=⟨gb529,1,none⟩) (Kd.jX (p:=⟨gb529,0,none⟩) (Kd.jN HO_6.out BK529.out (by decide)) (fun _ hk=>hk.2) (.int .i64 ((ja t510 (rd t516 x7_2)).f0))) (fun _ hk=>hk.2) (.int .i64 ((ja t510 (rd t516 x7_2)).f1))) (fun _ hk=>hk.2) (.int .i64 ((ja t510 (rd t516 x7_2)).f2))) (fun _ hk=>hk.2) (.int .i64 ((ja t510 (rd t516 x7_2)).f3))) (fun _ hk=>hk.2) (.bool ((ja t510 (rd t516 x7_2)).f4))) (fun _ hk=>trivial)⟩,⟨by (with_reducible repeat (first | apply Kd.jO | apply Kd.jQ | apply Kd.jM));exact Kd.jE (Kd.jX (p:=⟨gb529,4,none⟩) (Kd.jX (p:=⟨gb529,3,none⟩) (Kd.jX (p:=⟨gb529,2,none⟩) (Kd.jX (p:=⟨gb529,1,none⟩) (Kd.jX (p:=⟨gb529,0,none⟩) (Kd.jN HO_515000.out BK529.out (by decide)) (fun _ hk=>hk.2) (.int .i64 ((ja t510 (rd t516 x7_2)).f0))) (fun _ hk=>hk.2) (.int .i64 ((ja t510 (rd t516 x7_2)).f1))) (fun _ hk=>hk.2) (.int .i64 ((ja t510 (rd t516 x7_2)).f2))) (fun _ hk=>hk.2) (.int .i64 ((ja t510 (rd t516 x7_2)).f3))) (fun _ hk=>hk.2) (.bool ((ja t510 (rd t516 x7_2)).f4))) (fun _ hk=>trivial)⟩,⟨by (with_reducible repeat (first | apply Kd.jO | apply Kd.jQ | apply Kd.jM));exact Kd.jE (Kd.jX (p:=⟨gb529,4,none⟩) (Kd.jX (p:=⟨gb529,3,none⟩) (Kd.jX (p:=⟨gb529,2,none⟩) (Kd.jX (p:=⟨gb529,1,none⟩) (Kd.jX (p:=⟨gb529,0,none⟩) (Kd.jE HO_516000.out (fun k_ hk=>(⟨hk,hk.2⟩:_∧k_≠gb529))) (fun _ hk=>hk.2) (.int .i64 ((ja t510 (rd t516 x7_2)).f0))) (fun _ hk=>hk.2) (.int .i64 ((ja t510 (rd t516 x7_2)).f1))) (fun _ hk=>hk.2) (.int .i64 ((ja t510 (rd t516 x7_2)).f2))) (fun _ hk=>hk.2) (.int .i64 ((ja t510 (rd t516 x7_2)).f3))) (fun _ hk=>hk.2) (.bool ((ja t510 (rd t516 x7_2)).f4))) (fun _ hk=>hk.1.2)⟩,⟨by (with_reducible repeat (first | refine je ?_ _ | refine jg ?_ | refine jf ?_ _));refine jJ ?_ NB514_529.out _;(with_reducible repeat (first | refine je ?_ _ | refine jg ?_ | refine jf ?_ _));refine jJ ?_ NB514_529.out _;(with_reducible repeat (first | refine je ?_ _ | refine jg ?_ | refine jf ?_ _));refine jJ ?_ NB514_529.out _;(with_reducible repeat (first | refine je ?_ _ | refine jg ?_ | refine jf ?_ _));refine jJ ?_ NB514_529.out _;(with_reducible repeat (first | refine je ?_ _ | refine jg ?_ | refine jf ?_ _));refine jJ ?_ NB514_529.out _;(with_reducible repeat (first | refine je ?_ _ | refine jg ?_ | refine jf ?_ _));exact BK514.out⟩,⟨by (with_reducible repeat (first | refine je ?_ _ | refine jg ?_ | refine jf ?_ _));refine jJ ?_ NB515_529.out _;(with_reducible repeat (first | refine je ?_ _ | refine jg ?_ | refine jf ?_ _));refine jJ ?_ NB515_529.out _;(with_reducible repeat (first | refine je ?_ _ | refine jg ?_ | refine jf ?_ _));refine jJ ?_ NB515_529.out _;(with_reducible repeat (first | refine je ?_ _ | refine jg ?_ | refine jf ?_ _));refine jJ ?_ NB515_529.out _;(with_reducible repeat (first | refine je ?_ _ | refine jg ?_ | refine jf ?_ _));refine jJ ?_ NB515_529.out _;(with_reducible repeat (first | refine je ?_ _ | refine jg ?_ | refine jf ?_ _));exact BK515.out⟩,⟨by (with_reducible repeat (first | refine je ?_ _ | refine jg ?_ | refine jf ?_ _));refine jla (cs:=#[.int .i64 ((ja t510 (rd t516 x7_2)).f0), .int .i64 ((ja t510 (rd t516 x7_2)).f1), .int .i64 ((ja t510 (rd t516 x7_2)).f2), .int .i64 ((ja t510 (rd t516 x7_2)).f3), .bool false]) ?_ 4 _ rfl;(with_reducible repeat (first | refine je ?_ _ | refine jg ?_ | refine jf ?_ _));refine jla (cs:=#[.int .i64 ((ja t510 (rd t516 x7_2)).f0), .int .i64 ((ja t510 (rd t516 x7_2)).f1), .int .i64 ((ja t510 (rd t516 x7_2)).f2), .int .i64 0, .bool false]) ?_ 3 _ rfl;(with_reducible repeat (first | refine je ?_ _ | refine jg ?_ | refine jf ?_ _));refine jla (cs:=#[.int .i64 ((ja t510 (rd t516 x7_2)).f0), .int .i64 ((ja t510 (rd t516 x7_2)).f1), .int .i64 0, .int .i64 0, .bool false]) ?_ 2 _ rfl;(with_reducible repeat (first | refine je ?_ _ | refine jg ?_ | refine jf ?_ _));refine jla (cs:=#[.int .i64 ((ja t510 (rd t516 x7_2)).f0), .int .i64 0, .int .i64 0, .int .i64 0, .bool false]) ?_ 1 _ rfl;(with_reducible repeat (first | refine je ?_ _ | refine jg ?_ | refine jf ?_ _));refine jla (cs:=#[.int .i64 0, .int .i64 0, .int .i64 0, .int .i64 0, .bool false]) ?_ 0 _ rfl;(with_reducible repeat (first | refine je ?_ _ | refine jg ?_ | refine jf ?_ _));exact BK529.out⟩,⟨Y43⟩⟩
            ·rw [if_neg c52] at H
             have c52b0:decide (0≤((ja t510 (rd t516 x7_2)).f2))=false:=dzF c52
             clear c52
             (first | rw [c52b0] |(simp only [jqb,jub];rw [c52b0]) | skip)
             by_cases c66:((ja t510 (rd t516 x7_2)).f3)≥0
             ·rw [if_pos c66] at H
              have c66b0:decide (0≤((ja t510 (rd t516 x7_2)).f3))=true:=dzT c66
              clear c66
              replace H:=bzS H
              obtain ⟨t532,A670,H⟩:=H
              replace H:(jo.j2 k2 t513 t516 x7_2 (!t532) t507 t510)=some r:=H
              have A67:=am A670
              clear A670
              have H':=am H
              clear H
              have hnb68:=NB529_514.out
              have hnc68:=NB514_529.out
              have hnb69:=NB529_515.out
              have hnc69:=NB515_529.out
              have hcz70_0:=bc0 BK529.out
              have hcz70_1:=bc1 BK529.out
              have hcz70_2:=bc2 BK529.out
              have hcz70_3:=bc3 BK529.out
              have hcz70_4:w46.cell? ⟨gb529,4,none⟩=some (.bool false):=(jH BK529.out 4).trans rfl
              have hfz70_0:=jc BK529.out 0
              have hfz70_1:=jc BK529.out 1
              have hfz70_2:=jc BK529.out 2
              have hfz70_3:=jc BK529.out 3
              have hfz70_4:=jc BK529.out 4
              go_wp2_with (first |(go_at_call 29;(with_reducible refine (jBa.calls k2 _ _ t516 ((ja t510 (rd t516 x7_2)).f3) t532 _ ?side1 ?side2 A67.out).mono ?_);(case side1=>refine (Kd.jw (e:=3) (base:=w.heap.size) (ok:=fun k_=>True) (n:=t516.length) (c:=co44) ?_).2.2;exact (Y92));(case side2=>exact (Kd.jw HO_6.out).2.1);rintro e w' ⟨rfl,⟨nd,rfl⟩⟩))
              go_meet
              case rel=>exact ⟨_,(!t532),(sq),H',⟨by have:=HJ4.out;have:=HK2.out;first | omega | exact Nat.le_refl _⟩,⟨by (with_reducible repeat (first | apply Kd.jO | apply Kd.jQ | apply Kd.jM));exact Kd.jE (Kd.jX (p:=⟨gb529,4,none⟩) (Kd.jX (p:=⟨gb529,3,none⟩) (Kd.jX (p:=⟨gb529,2,none⟩) (Kd.jX (p:=⟨gb529,1,none⟩) (Kd.jX (p:=⟨gb529,0,none⟩) (Kd.jN HO_6.out BK529.out (by decide)) (fun _ hk=>hk.2) (.int .i64 ((ja t510 (rd t516 x7_2)).f0))) (fun _ hk=>hk.2) (.int .i64 ((ja t510 (rd t516 x7_2)).f1))) (fun _ hk=>hk.2) (.int .i64 ((ja t510 (rd t516 x7_2)).f2))) (fun _ hk=>hk.2) (.int .i64 ((ja t510 (rd t516 x7_2)).f3))) (fun _ hk=>hk.2) (.bool ((ja t510 (rd t516 x7_2)).f4))) (fun _ hk=>trivial)⟩,⟨by (with_reducible repeat (first | apply Kd.jO | apply Kd.jQ | apply Kd.jM));exact Kd.jE (Kd.jX (p:=⟨gb529,4,none⟩) (Kd.jX (p:=⟨gb529,3,none⟩) (Kd.jX (p:=⟨gb529,2,none⟩) (Kd.jX (p:=⟨gb529,1,none⟩) (Kd.jX (p:=⟨gb529,0,none⟩) (Kd.jN HO_515000.out BK529.out (by decide)) (fun _ hk=>hk.2) (.int .i64 ((ja t510 (rd t516 x7_2)).f0))) (fun _ hk=>hk.2) (.int .i64 ((ja t510 (rd t516 x7_2)).f1))) (fun _ hk=>hk.2) (.int .i64 ((ja t510 (rd t516 x7_2)).f2))) (fun _ hk=>hk.2) (.int .i64 ((ja t510 (rd t516 x7_2)).f3))) (fun _ hk=>hk.2) (.bool ((ja t510 (rd t516 x7_2)).f4))) (fun _ hk=>trivial)⟩,⟨by (with_reducible repeat (first | apply Kd.jO | apply Kd.jQ | apply Kd.jM));exact Kd.jE (Kd.jX (p:=⟨gb529,4,none⟩) (Kd.jX (p:=⟨gb529,3,none⟩) (Kd.jX (p:=⟨gb529,2,none⟩) (Kd.jX (p:=⟨gb529,1,none⟩) (Kd.jX (p:=⟨gb529,0,none⟩) (Kd.jE HO_516000.out (fun k_ hk=>(⟨hk,hk.2⟩:_∧k_≠gb529))) (fun _ hk=>hk.2) (.int .i64 ((ja t510 (rd t516 x7_2)).f0))) (fun _ hk=>hk.2) (.int .i64 ((ja t510 (rd t516 x7_2)).f1))) (fun _ hk=>hk.2) (.int .i64 ((ja t510 (rd t516 x7_2)).f2))) (fun _ hk=>hk.2) (.int .i64 ((ja t510 (rd t516 x7_2)).f3))) (fun _ hk=>hk.2) (.bool ((ja t510 (rd t516 x7_2)).f4))) (fun _ hk=>hk.1.2)⟩,⟨by (with_reducible repeat (first | refine je ?_ _ | refine jg ?_ | refine jf ?_ _));refine jJ ?_ NB514_529.out _;(with_reducible repeat (first | refine je ?_ _ | refine jg ?_ | refine jf ?_ _));refine jJ ?_ NB514_529.out _;(with_reducible repeat (first | refine je ?_ _ | refine jg ?_ | refine jf ?_ _));refine jJ ?_ NB514_529.out _;(with_reducible repeat (first | refine je ?_ _ | refine jg ?_ | refine jf ?_ _));refine jJ ?_ NB514_529.out _;(with_reducible repeat (first | refine je ?_ _ | refine jg ?_ | refine jf ?_ _));refine jJ ?_ NB514_529.out _;(with_reducible repeat (first | refine je ?_ _ | refine jg ?_ | refine jf ?_ _));exact BK514.out⟩,⟨by (with_reducible repeat (first | refine je ?_ _ | refine jg ?_ | refine jf ?_ _));refine jJ ?_ NB515_529.out _;(with_reducible repeat (first | refine je ?_ _ | refine jg ?_ | refine jf ?_ _));refine jJ ?_ NB515_529.out _;(with_reducible repeat (first | refine je ?_ _ | refine jg ?_ | refine jf ?_ _));refine jJ ?_ NB515_529.out _;(with_reducible repeat (first | refine je ?_ _ | refine jg ?_ | refine jf ?_ _));refine jJ ?_ NB515_529.out _;(with_reducible repeat (first | refine je ?_ _ | refine jg ?_ | refine jf ?_ _));refine jJ ?_ NB515_529.out _;(with_reducible repeat (first | refine je ?_ _ | refine jg ?_ | refine jf ?_ _));exact BK515.out⟩,⟨by (with_reducible repeat (first | refine je ?_ _ | refine jg ?_ | refine jf ?_ _));refine jla (cs:=#[.int .i64 ((ja t510 (rd t516 x7_2)).f0), .int .i64 ((ja t510 (rd t516 x7_2)).f1), .int .i64 ((ja t510 (rd t516 x7_2)).f2), .int .i64 ((ja t510 (rd t516 x7_2)).f3), .bool false]) ?_ 4 _ rfl;(with_reducible repeat (first | refine je ?_ _ | refine jg ?_ | refine jf ?_ _));refine jla (cs:=#[.int .i64 ((ja t510 (rd t516 x7_2)).f0), .int .i64 ((ja t510 (rd t516 x7_2)).f1), .int .i64 ((ja t510 (rd t516 x7_2)).f2), .int .i64 0, .bool false]) ?_ 3 _ rfl;(with_reducible repeat (first | refine je ?_ _ | refine jg ?_ | refine jf ?_ _));refine jla (cs:=#[.int .i64 ((ja t510 (rd t516 x7_2)).f0), .int .i64 ((ja t510 (rd t516 x7_2)).f1), .int .i64 0, .int .i64 0, .bool false]) ?_ 2 _ rfl;(with_reducible repeat (first | refine je ?_ _ | refine jg ?_ | refine jf ?_ _));refine jla (cs:=#[.int .i64 ((ja t510 (rd t516 x7_2)).f0), .int .i64 0, .int .i64 0, .int .i64 0, .bool false]) ?_ 1 _ rfl;(with_reducible repeat (first | refine je ?_ _ | refine jg ?_ | refine jf ?_ _));refine jla (cs:=#[.int .i64 0, .int .i64 0, .int .i64 0, .int .i64 0, .bool false]) ?_ 0 _ rfl;(with_reducible repeat (first | refine je ?_ _ | refine jg ?_ | refine jf ?_ _));exact BK529.out⟩,⟨Y43⟩⟩
             ·rw [if_neg c66] at H
              have c66b0:decide (0≤((ja t510 (rd t516 x7_2)).f3))=false:=dzF c66
              clear c66
              have H':=am H
              clear H
              have hnb71:=NB529_514.out
              have hnc71:=NB514_529.out
              have hnb72:=NB529_515.out
              have hnc72:=NB515_529.out
              have hcz73_0:=bc0 BK529.out
              have hcz73_1:=bc1 BK529.out
              have hcz73_2:=bc2 BK529.out
              have hcz73_3:=bc3 BK529.out
              have hcz73_4:w46.cell? ⟨gb529,4,none⟩=some (.bool false):=(jH BK529.out 4).trans rfl
              have hfz73_0:=jc BK529.out 0
              have hfz73_1:=jc BK529.out 1
              have hfz73_2:=jc BK529.out 2
              have hfz73_3:=jc BK529.out 3
              have hfz73_4:=jc BK529.out 4
              go_wp2
              go_meet
              case rel=>exact ⟨_,(false),(sq),H',⟨by have:=HJ4.out;have:=HK2.out;first | omega | exact Nat.le_refl _⟩,⟨by (with_reducible repeat (first | apply Kd.jO | apply Kd.jQ | apply Kd.jM));exact Kd.jE (Kd.jX (p:=⟨gb529,4,none⟩) (Kd.jX (p:=⟨gb529,3,none⟩) (Kd.jX (p:=⟨gb529,2,none⟩) (Kd.jX (p:=⟨gb529,1,none⟩) (Kd.jX (p:=⟨gb529,0,none⟩) (Kd.jN HO_6.out BK529.out (by decide)) (fun _ hk=>hk.2) (.int .i64 ((ja t510 (rd t516 x7_2)).f0))) (fun _ hk=>hk.2) (.int .i64 ((ja t510 (rd t516 x7_2)).f1))) (fun _ hk=>hk.2) (.int .i64 ((ja t510 (rd t516 x7_2)).f2))) (fun _ hk=>hk.2) (.int .i64 ((ja t510 (rd t516 x7_2)).f3))) (fun _ hk=>hk.2) (.bool ((ja t510 (rd t516 x7_2)).f4))) (fun _ hk=>trivial)⟩,⟨by (with_reducible repeat (first | apply Kd.jO | apply Kd.jQ | apply Kd.jM));exact Kd.jE (Kd.jX (p:=⟨gb529,4,none⟩) (Kd.jX (p:=⟨gb529,3,none⟩) (Kd.jX (p:=⟨gb529,2,none⟩) (Kd.jX (p:=⟨gb529,1,none⟩) (Kd.jX (p:=⟨gb529,0,none⟩) (Kd.jN HO_515000.out BK529.out (by decide)) (fun _ hk=>hk.2) (.int .i64 ((ja t510 (rd t516 x7_2)).f0))) (fun _ hk=>hk.2) (.int .i64 ((ja t510 (rd t516 x7_2)).f1))) (fun _ hk=>hk.2) (.int .i64 ((ja t510 (rd t516 x7_2)).f2))) (fun _ hk=>hk.2) (.int .i64 ((ja t510 (rd t516 x7_2)).f3))) (fun _ hk=>hk.2) (.bool ((ja t510 (rd t516 x7_2)).f4))) (fun _ hk=>trivial)⟩,⟨by (with_reducible repeat (first | apply Kd.jO | apply Kd.jQ | apply Kd.jM));exact Kd.jE (Kd.jX (p:=⟨gb529,4,none⟩) (Kd.jX (p:=⟨gb529,3,none⟩) (Kd.jX (p:=⟨gb529,2,none⟩) (Kd.jX (p:=⟨gb529,1,none⟩) (Kd.jX (p:=⟨gb529,0,none⟩) (Kd.jE HO_516000.out (fun k_ hk=>(⟨hk,hk.2⟩:_∧k_≠gb529))) (fun _ hk=>hk.2) (.int .i64 ((ja t510 (rd t516 x7_2)).f0))) (fun _ hk=>hk.2) (.int .i64 ((ja t510 (rd t516 x7_2)).f1))) (fun _ hk=>hk.2) (.int .i64 ((ja t510 (rd t516 x7_2)).f2))) (fun _ hk=>hk.2) (.int .i64 ((ja t510 (rd t516 x7_2)).f3))) (fun _ hk=>hk.2) (.bool ((ja t510 (rd t516 x7_2)).f4))) (fun _ hk=>hk.1.2)⟩,⟨by (with_reducible repeat (first | refine je ?_ _ | refine jg ?_ | refine jf ?_ _));refine jJ ?_ NB514_529.out _;(with_reducible repeat (first | refine je ?_ _ | refine jg ?_ | refine jf ?_ _));refine jJ ?_ NB514_529.out _;(with_reducible repeat (first | refine je ?_ _ | refine jg ?_ | refine jf ?_ _));refine jJ ?_ NB514_529.out _;(with_reducible repeat (first | refine je ?_ _ | refine jg ?_ | refine jf ?_ _));refine jJ ?_ NB514_529.out _;(with_reducible repeat (first | refine je ?_ _ | refine jg ?_ | refine jf ?_ _));refine jJ ?_ NB514_529.out _;(with_reducible repeat (first | refine je ?_ _ | refine jg ?_ | refine jf ?_ _));exact BK514.out⟩,⟨by (with_reducible repeat (first | refine je ?_ _ | refine jg ?_ | refine jf ?_ _));refine jJ ?_ NB515_529.out _;(with_reducible repeat (first | refine je ?_ _ | refine jg ?_ | refine jf ?_ _));refine jJ ?_ NB515_529.out _;(with_reducible repeat (first | refine je ?_ _ | refine jg ?_ | refine jf ?_ _));refine jJ ?_ NB515_529.out _;(with_reducible repeat (first | refine je ?_ _ | refine jg ?_ | refine jf ?_ _));refine jJ ?_ NB515_529.out _;(with_reducible repeat (first | refine je ?_ _ | refine jg ?_ | refine jf ?_ _));refine jJ ?_ NB515_529.out _;(with_reducible repeat (first | refine je ?_ _ | refine jg ?_ | refine jf ?_ _));exact BK515.out⟩,⟨by (with_reducible repeat (first | refine je ?_ _ | refine jg ?_ | refine jf ?_ _));refine jla (cs:=#[.int .i64 ((ja t510 (rd t516 x7_2)).f0), .int .i64 ((ja t510 (rd t516 x7_2)).f1), .int .i64 ((ja t510 (rd t516 x7_2)).f2), .int .i64 ((ja t510 (rd t516 x7_2)).f3), .bool false]) ?_ 4 _ rfl;(with_reducible repeat (first | refine je ?_ _ | refine jg ?_ | refine jf ?_ _));refine jla (cs:=#[.int .i64 ((ja t510 (rd t516 x7_2)).f0), .int .i64 ((ja t510 (rd t516 x7_2)).f1), .int .i64 ((ja t510 (rd t516 x7_2)).f2), .int .i64 0, .bool false]) ?_ 3 _ rfl;(with_reducible repeat (first | refine je ?_ _ | refine jg ?_ | refine jf ?_ _));refine jla (cs:=#[.int .i64 ((ja t510 (rd t516 x7_2)).f0), .int .i64 ((ja t510 (rd t516 x7_2)).f1), .int .i64 0, .int .i64 0, .bool false]) ?_ 2 _ rfl;(with_reducible repeat (first | refine je ?_ _ | refine jg ?_ | refine jf ?_ _));refine jla (cs:=#[.int .i64 ((ja t510 (rd t516 x7_2)).f0), .int .i64 0, .int .i64 0, .int .i64 0, .bool false]) ?_ 1 _ rfl;(with_reducible repeat (first | refine je ?_ _ | refine jg ?_ | refine jf ?_ _));refine jla (cs:=#[.int .i64 0, .int .i64 0, .int .i64 0, .int .i64 0, .bool false]) ?_ 0 _ rfl;(with_reducible repeat (first | refine je ?_ _ | refine jg ?_ | refine jf ?_ _));exact BK529.out⟩,⟨Y43⟩⟩
           case rest =>
            clear HC43
            try clear c1
            try clear c2
            try clear c2b0
            try clear c2b1
            try clear p2
            try clear c3
            try clear c4
            try clear c5
            try clear p5
            try clear q5
            try clear hx5
            try clear c6
            try clear c7
            try clear c10
            try clear c17
            try clear c18
            try clear c20
            try clear c21
            try clear c24
            try clear c27
            try clear c30
            try clear c33
            try clear c39
            try clear c39b0
            try clear c40
            try clear c40b0
            try clear c41
            try clear c41b0
            try clear c42
            try clear c42b0
            try clear c52
            try clear c52b0
            try clear p52
            try clear q52
            try clear hx52
            try clear c54
            try clear c55
            try clear c55b0
            try clear c57
            try clear c58
            try clear c60
            try clear c61
            try clear c63
            try clear c64
            try clear c66
            try clear c66b0
            try clear c68
            try clear c69
            try clear c71
            try clear c72
            try clear hcz11_0
            try clear hcz13_0
            try clear hcz19_0
            try clear hcz20_0
            try clear hcz25_0
            try clear hcz26_0
            try clear hcz34_0
            try clear hcz35_0
            try clear hcz59_0
            try clear hcz59_1
            try clear hcz59_2
            try clear hcz59_3
            try clear hcz59_4
            try clear hcz62_0
            try clear hcz62_1
            try clear hcz62_2
            try clear hcz62_3
            try clear hcz62_4
            try clear hcz65_0
            try clear hcz65_1
            try clear hcz65_2
            try clear hcz65_3
            try clear hcz65_4
            try clear hcz70_0
            try clear hcz70_1
            try clear hcz70_2
            try clear hcz70_3
            try clear hcz70_4
            try clear hcz73_0
            try clear hcz73_1
            try clear hcz73_2
            try clear hcz73_3
            try clear hcz73_4
            try clear hfz11_0
            try clear hfz13_0
            try clear hfz19_0
            try clear hfz20_0
            try clear hfz25_0
            try clear hfz26_0
            try clear hfz34_0
            try clear hfz35_0
            try clear hfz59_0
            try clear hfz59_1
            try clear hfz59_2
            try clear hfz59_3
            try clear hfz59_4
            try clear hfz62_0
            try clear hfz62_1
            try clear hfz62_2
            try clear hfz62_3
            try clear hfz62_4
            try clear hfz65_0
            try clear hfz65_1
            try clear hfz65_2
            try clear hfz65_3
            try clear hfz65_4
            try clear hfz70_0
            try clear hfz70_1
            try clear hfz70_2
            try clear hfz70_3
            try clear hfz70_4
            try clear hfz73_0
            try clear hfz73_1
            try clear hfz73_2
            try clear hfz73_3
            try clear hfz73_4
            try clear hx527_0
            try clear hx528_0
            try clear hx528_1
            try clear hx528_2
            try clear hx528_3
            try clear hx528_4
            try clear p2
            try clear p527
            try clear p528
            try clear q527
            try clear q528
            obtain ⟨kq,x77_42,rfl,HA,HJ42,HO_6,HO_515000,HO_516000,BK514,BK515,BK529,HB⟩:=hcut
            cases kq with
            | zero=>exact absurd HA.out (by simp [jo.j2])
            | succ kj42 =>
             have H:=HA.out
             clear HA
             simp only [jo.j2] at H
             by_cases c74:x77_42=true
             ·subst c74
              have H1:(some false)=some r:=by rw [if_pos rfl] at H;exact H
              clear H
              have H:=H1
              clear H1
              exact absurd ((Option.some.inj H).trans hT) Bool.false_ne_true
             ·replace c74:=Bool.eq_false_iff.mpr c74
              subst c74
              have H1:(if 0≤x7_2 then (if x7_2<(t516.length:Int) then ((jYa.f kj42 t507 t510 (rd t516 x7_2)).bind fun t534=>(jo.l1 kj42 t513 t516 x7_2 t534 0 t507 t510)) else (none)) else (none))=some r:=by rw [if_neg (show ¬ (false=true) by decide)] at H;exact H
              clear H
              have H:=H1
              clear H1
              by_cases c75:0≤x7_2
              ·rw [if_pos c75] at H
               have c75b0:decide (0≤x7_2)=true:=dzT c75
               clear c75
               by_cases c76:x7_2<(t516.length:Int)
               ·rw [if_pos c76] at H
                have c76b0:decide (x7_2<(t516.length:Int))=true:=dzT c76
                clear c76
                replace H:=bzS H
                obtain ⟨t534,A770,H⟩:=H
                replace H:(jo.l1 kj42 t513 t516 x7_2 t534 0 t507 t510)=some r:=H
                have A77:=am A770
                clear A770
                have H':=am H
                clear H
                try go_wp2
                replace HO_6:=am (Kd.jM HO_6.out)
                replace HO_515000:=am (Kd.jM HO_515000.out)
                replace HO_516000:=am (Kd.jM HO_516000.out)
                replace BK514:=am (jg BK514.out)
                replace BK515:=am (jg BK515.out)
                replace BK529:=am (jg BK529.out)
                replace HB:=am (jv HB.out)
                have p533:0≤(x7_2:Int):=ozD (uq)
                have q533:x7_2<(t516.length:Int):=ozD (uq)
                obtain ⟨ad533,e533,hx533_0⟩:=Kd.jcb (Kd.jw HO_6.out).2.2 x7_2 p533 q533
                obtain rfl:ad527=ad533:=(by injection e533)
                replace p533:=ezT p533
                replace q533:=ezT q533
                refine jHb (n:=8) (S:=fun w'=>w'.cell? ⟨gb514,0,none⟩=some (.slice Ao9 t507.length co9)∧w'.cell? ⟨gb515,0,none⟩=some (.slice (some ad528) t510.length co12)∧w'.cell? (ad527.add (x7_2).toNat)=some (.int .i64 (rd t516 x7_2))) (ds:=[]) #[false,false,false,false,false,false,false,false] (by kernel_rfl) rfl rfl ⟨(jH BK514.out 0).trans rfl,(jH BK515.out 0).trans rfl,hx533_0⟩ (fun hHeld=>?_);refine jnb jo.tab13 jo.bits13 (fun HT_ HW_=>?_)
                generalize wc.drew=w78 at HO_6 HO_515000 HO_516000 BK514 BK515 BK529 HB hx533_0 hHeld ⊢
                refine pq (i:=2) (N:=some 80) #[false,false,true,false,false,false,false,false] ?_
                refine pq (i:=3) (N:=some 81) #[false,false,true,true,false,false,false,false] ?_
                refine pq (i:=4) (N:=some 82) #[false,false,true,true,true,false,false,false] ?_
                refine job (i:=0) (N:=some 78) (v:=?_) (a':=?_) #[true,false,true,true,true,false,false,false] rfl rfl (jLa HT_.out HW_.out (by kernel_rfl)) (fun _ _ _ h=>h) (Or.inl ⟨by rfl,?_⟩) hHeld ?_ ?_
                rotate_left
                ·rintro w' ⟨s0,s1,s2⟩
                 go_simp
                 with_reducible rfl
                rotate_left
                ·exact sa
                refine job (i:=1) (N:=some 79) (v:=?_) (a':=?_) #[true,true,true,true,true,false,false,false] rfl rfl (jLa HT_.out HW_.out (by kernel_rfl)) (fun _ _ _ h=>h) (Or.inl ⟨by rfl,?_⟩) hHeld ?_ ?_
                rotate_left
                ·rintro w' ⟨s0,s1,s2⟩
                 go_simp
                 with_reducible rfl
                rotate_left
                ·exact sa
                refine job (i:=5) (N:=some 83) (v:=?_) (a':=?_) #[true,true,true,true,true,true,false,false] rfl rfl (jLa HT_.out HW_.out (by kernel_rfl)) (fun _ _ _ h=>h) (Or.inl ⟨by rfl,?_⟩) hHeld ?_ ?_
                rotate_left
                ·rintro w' ⟨s0,s1,s2⟩
                 go_simp
                 with_reducible rfl
                rotate_left
                ·exact sa
                refine one_ (i:=6) (N:=some 84) #[true,true,true,true,true,true,true,false] rfl rfl (jZa HT_.out (by kernel_rfl)) (by decide) (fun K hK=>?_)
                refine goes_ Try.func21 (by kernel_rfl) rfl #[.agg #[.slice Ao9 t507.length co9], .agg #[.slice (some ad528) t510.length co12], .int .i64 (rd t516 x7_2)] (by rfl) rfl rfl (aq) ?_
                with_reducible refine (jYa.calls kj42 _ _ t507 _ _ t510 (rd t516 x7_2) t534 _ ?side1 ?side2 ?side3 ?side4 A77.out).mono ?_
                (case side1=>exact cq (Kd.jw HO_515000.out).2.2)
                (case side2=>exact (Kd.jw HO_515000.out).2.1)
                (case side3=>exact cq (Kd.jw HO_516000.out).2.2)
                (case side4=>exact (Kd.jw HO_516000.out).2.1)
                rintro e w79 ⟨v535,rfl,ho0,hb⟩
                have HS2_:=(hb.cell (World.block_lt_of_cell? _ _ (hHeld.2.2))).trans (hHeld.2.2)
                refine ⟨_,rfl,?_⟩
                have HO536:=am (Kd.jea (Kd.R_new' ho0 (Kd.R_lt (rq HO_6.out))) (jU (Y43)))
                replace HO_6:=am (Kd.jdc (rq HO_6.out) (Kd.R_base ho0) hb)
                replace HO_515000:=am (Kd.jaa (rq HO_515000.out) hb)
                replace HO_516000:=am (Kd.jaa (rq HO_516000.out) hb)
                replace BK514:=am (jh (g:=gb514) (o:=.cells #[.slice Ao9 t507.length co9] 37 (0,0)) (kq BK514.out) hb)
                replace BK515:=am (jh (g:=gb515) (o:=.cells #[.slice (some ad528) t510.length co12] 32 (0,0)) (kq BK515.out) hb)
                replace BK529:=am (jh (g:=gb529) (o:=.cells #[.int .i64 ((ja t510 (rd t516 x7_2)).f0), .int .i64 ((ja t510 (rd t516 x7_2)).f1), .int .i64 ((ja t510 (rd t516 x7_2)).f2), .int .i64 ((ja t510 (rd t516 x7_2)).f3), .bool ((ja t510 (rd t516 x7_2)).f4)] 54 (0,0)) (kq BK529.out) hb)
                replace HB:=am (jk (Y43) hb)
                (try clear hb)
                (try clear hb2)
                (try clear hk)
                (try clear hi)
                (try clear ho0)
                refine hK.out _ _ ⟨(jH BK514.out 0).trans rfl,(jH BK515.out 0).trans rfl,HS2_⟩ (fun hHeld=>?_)
                clear hK K
                refine jMb (a':=?_) ?_ ?_
                rotate_left
                ·show Act.put _ (some 84) _=_
                 simp only [Act.put,List.setIfInBounds_toArray,List.set_cons_zero,List.set_cons_succ,jqb,jub]
                 rfl
                refine pq (i:=7) (N:=some 9) #[true,true,true,true,true,true,true,true] ?_
                refine jgc (jNb HT_.out (by kernel_rfl)) ?_
                try go_wp2
                go_loopg [10] kj42 (fun kq v10 w'=>∃ (x10_4:Int),v10=.int .i64 x10_4∧jC (jo.l1 kq t513 t516 x7_2 t534 x10_4 t507 t510=some r)∧jC (kq≤kj42)∧jC (Kd.R (Kd.int .i64) 3 w' w.heap.size (fun k_=>some k_≠(v535:Value).ownBlock) (.slice (some ad527) t516.length co44) t516)∧jC (Kd.R (Kd.int .i64) 3 w' w.heap.size (fun k_=>some k_≠((.slice (some ad527) t516.length co44):Value).ownBlock) v535 t534)∧jC (Kd.R k94 94 w' w.heap.size (fun _=>True) (.slice Ao9 t507.length co9) t507)∧jC (Kd.R k54 54 w' w.heap.size (fun k_=>k_≠gb529) (.slice (some ad528) t510.length co12) t510)∧jC (w'.heap[gb514]?=some (.cells #[(.slice Ao9 t507.length co9)] 37 (0,0)))∧jC (w'.heap[gb515]?=some (.cells #[(.slice (some ad528) t510.length co12)] 32 (0,0)))∧jC (w'.heap[gb529]?=some (.cells #[.int .i64 ((ja t510 (rd t516 x7_2)).f0), .int .i64 ((ja t510 (rd t516 x7_2)).f1), .int .i64 ((ja t510 (rd t516 x7_2)).f2), .int .i64 ((ja t510 (rd t516 x7_2)).f3), .bool ((ja t510 (rd t516 x7_2)).f4)] 54 (0,0)))∧jC (Below w.heap.size w w'))
                case atStart=>exact ⟨(0),(sq),H',⟨Nat.le_refl _⟩,⟨by (with_reducible repeat (first | apply Kd.jO | apply Kd.jQ | apply Kd.jM));exact Kd.jE HO_6.out (fun _ hk=>hk.2)⟩,⟨by (with_reducible repeat (first | apply Kd.jO | apply Kd.jQ | apply Kd.jM));exact Kd.jE HO536.out (fun _ hk=>hk.2)⟩,⟨rq HO_515000.out⟩,⟨rq HO_516000.out⟩,⟨kq BK514.out⟩,⟨kq BK515.out⟩,⟨kq BK529.out⟩,⟨Y43⟩⟩
                case round =>
                 clear H'
                 try clear c1
                 try clear c2
                 try clear c2b0
                 try clear c2b1
                 try clear p2
                 try clear c3
                 try clear c4
                 try clear c5
                 try clear p5
                 try clear q5
                 try clear hx5
                 try clear c6
                 try clear c7
                 try clear c10
                 try clear c17
                 try clear c18
                 try clear c20
                 try clear c21
                 try clear c24
                 try clear c27
                 try clear c30
                 try clear c33
                 try clear c39
                 try clear c39b0
                 try clear c40
                 try clear c40b0
                 try clear c41
                 try clear c41b0
                 try clear c42
                 try clear c42b0
                 try clear c52
                 try clear c52b0
                 try clear p52
                 try clear q52
                 try clear hx52
                 try clear p53
                 try clear q53
                 try clear hx53
                 try clear c54
                 try clear c55
                 try clear c55b0
                 try clear c57
                 try clear c58
                 try clear c60
                 try clear c61
                 try clear c63
                 try clear c64
                 try clear c66
                 try clear c66b0
                 try clear c68
                 try clear c69
                 try clear c71
                 try clear c72
                 try clear c74
                 try clear c75
                 try clear c75b0
                 try clear c76
                 try clear c76b0
                 try clear hcz11_0
                 try clear hcz13_0
                 try clear hcz19_0
                 try clear hcz20_0
                 try clear hcz25_0
                 try clear hcz26_0
                 try clear hcz34_0
                 try clear hcz35_0
                 try clear hcz59_0
                 try clear hcz59_1
                 try clear hcz59_2
                 try clear hcz59_3
                 try clear hcz59_4
                 try clear hcz62_0
                 try clear hcz62_1
                 try clear hcz62_2
                 try clear hcz62_3
                 try clear hcz62_4
                 try clear hcz65_0
                 try clear hcz65_1
                 try clear hcz65_2
                 try clear hcz65_3
                 try clear hcz65_4
                 try clear hcz70_0
                 try clear hcz70_1
                 try clear hcz70_2
                 try clear hcz70_3
                 try clear hcz70_4
                 try clear hcz73_0
                 try clear hcz73_1
                 try clear hcz73_2
                 try clear hcz73_3
                 try clear hcz73_4
                 try clear hfz11_0
                 try clear hfz13_0
                 try clear hfz19_0
                 try clear hfz20_0
                 try clear hfz25_0
                 try clear hfz26_0
                 try clear hfz34_0
                 try clear hfz35_0
                 try clear hfz59_0
                 try clear hfz59_1
                 try clear hfz59_2
                 try clear hfz59_3
                 try clear hfz59_4
                 try clear hfz62_0
                 try clear hfz62_1
                 try clear hfz62_2
                 try clear hfz62_3
                 try clear hfz62_4
                 try clear hfz65_0
                 try clear hfz65_1
                 try clear hfz65_2
                 try clear hfz65_3
                 try clear hfz65_4
                 try clear hfz70_0
                 try clear hfz70_1
                 try clear hfz70_2
                 try clear hfz70_3
                 try clear hfz70_4
                 try clear hfz73_0
                 try clear hfz73_1
                 try clear hfz73_2
                 try clear hfz73_3
                 try clear hfz73_4
                 try clear hx527_0
                 try clear hx528_0
                 try clear hx528_1
                 try clear hx528_2
                 try clear hx528_3
                 try clear hx528_4
                 try clear hx533_0
                 try clear p2
                 try clear p5
                 try clear p52
                 try clear p527
                 try clear p528
                 try clear p533
                 try clear q5
                 try clear q52
                 try clear q527
                 try clear q528
                 try clear q533
                 obtain ⟨x10_4,rfl,HA,HK4,HO_6,HO_9,HO_515000,HO_516000,BK514,BK515,BK529,HB⟩:=hrel
                 cases gk with
                 | zero=>exact absurd HA.out (by simp [jo.l1])
                 | succ k4 =>
                  have H:=HA.out
                  clear HA
                  simp only [jo.l1] at H
                  by_cases c80:x10_4<(t534.length:Int)
                  ·rw [if_pos c80] at H
                   have c80b0:decide (x10_4<(t534.length:Int))=true:=dzT c80
                   clear c80
                   by_cases c81:0≤x10_4
                   ·rw [if_pos c81] at H
                    have c81b0:decide (0≤x10_4)=true:=dzT c81
                    clear c81
                    replace H:=bzS H
                    obtain ⟨t538,A820,H⟩:=H
                    replace H:(if t538=true then (jo.l1 k4 t513 t516 x7_2 t534 (wrap64 (x10_4+1)) t507 t510) else (some false))=some r:=H
                    have A82:=am A820
                    clear A820
                    by_cases c83:t538=true
                    ·subst c83
                     have H1:(jo.l1 k4 t513 t516 x7_2 t534 (wrap64 (x10_4+1)) t507 t510)=some r:=by rw [if_pos rfl] at H;exact H
                     clear H
                     have H:=H1
                     clear H1
                     have H':=am H
                     clear H
                     obtain ⟨Ao84,co84,eo84⟩:=Kd.jW HO_9.out
                     subst eo84
                     have p537:0≤(x10_4:Int):=ozD (uq)
                     have q537:x10_4<(t534.length:Int):=ozD (uq)
                     obtain ⟨ad537,e537,hx537_0⟩:=Kd.jcb (Kd.jw HO_9.out).2.2 x10_4 p537 q537
                     cases e537
                     replace p537:=ezT p537
                     replace q537:=ezT q537
                     go_wp2_with (first |((with_reducible refine jB (f:=29) rfl ?_);refine gL (some 96) Try.func29 #[.slice (some ad527) t516.length co44, .int .i64 (rd t534 x10_4)] ?_;(with_reducible refine (jBa.calls k4 _ _ t516 (rd t534 x10_4) true _ ?side1 ?side2 A82.out).mono ?_);(case side1=>exact cq (Kd.jw HO_6.out).2.2);(case side2=>exact (Kd.jw HO_6.out).2.1);rintro e w' ⟨rfl,⟨nd,rfl⟩⟩;refine ⟨_,rfl,?_⟩))
                     go_roundg k4
                     case measure=>have:=HJ4.out;have:=HK2.out;have:=HJ42.out;have:=HK4.out;omega
                     case rel=>exact ⟨(wrap64 (x10_4+1)),(sq),H',⟨by have:=HJ4.out;have:=HK2.out;have:=HJ42.out;have:=HK4.out;omega⟩,⟨rq HO_6.out⟩,⟨rq HO_9.out⟩,⟨rq HO_515000.out⟩,⟨rq HO_516000.out⟩,⟨kq BK514.out⟩,⟨kq BK515.out⟩,⟨kq BK529.out⟩,⟨Y43⟩⟩
                    ·replace c83:=Bool.eq_false_iff.mpr c83
                     subst c83
                     have H1:(some false)=some r:=by rw [if_neg (show ¬ (false=true) by decide)] at H;exact H
                     clear H
                     have H:=H1
                     clear H1
                     exact absurd ((Option.some.inj H).trans hT) Bool.false_ne_true
                   ·rw [if_neg c81] at H
                    exact absurd H (by simp)
                  ·rw [if_neg c80] at H
                   have c80b0:decide (x10_4<(t534.length:Int))=false:=dzF c80
                   clear c80
                   have H':=am H
                   clear H
                   obtain ⟨Ao85,co85,eo85⟩:=Kd.jW HO_9.out
                   subst eo85
                   go_wp2
                   go_roundg k4
                   case measure=>have:=HJ4.out;have:=HK2.out;have:=HJ42.out;have:=HK4.out;omega
                   case rel=>exact ⟨(wrap64 (x7_2+1)),(sq),H',⟨by have:=HJ4.out;have:=HK2.out;have:=HJ42.out;have:=HK4.out;omega⟩,⟨by (with_reducible repeat (first | apply Kd.jO | apply Kd.jQ | apply Kd.jM));exact Kd.jE HO_6.out (fun _ hk=>trivial)⟩,⟨rq HO_515000.out⟩,⟨by (with_reducible repeat (first | apply Kd.jO | apply Kd.jQ | apply Kd.jM));exact Kd.jE HO_516000.out (fun _ hk=>trivial)⟩,⟨kq BK514.out⟩,⟨kq BK515.out⟩,⟨Y43⟩⟩
               ·rw [if_neg c76] at H
                exact absurd H (by simp)
              ·rw [if_neg c75] at H
               exact absurd H (by simp)
          ·rw [if_neg c42] at H
           exact absurd H (by simp)
         ·rw [if_neg c41] at H
          exact absurd H (by simp)
        ·rw [if_neg c40] at H
         exact absurd H (by simp)
       ·rw [if_neg c39] at H
        have c39b0:decide (x7_2<(t516.length:Int))=false:=dzF c39
        clear c39
        replace H:=bzS H
        obtain ⟨t539,A860,H⟩:=H
        replace H:(if t539=true then ((jBa.f k2 t516 t513).bind fun t540=>(some t540)) else (some false))=some r:=H
        have A86:=am A860
        clear A860
        by_cases c87:t539=true
        ·subst c87
         have H1:((jBa.f k2 t516 t513).bind fun t540=>(some t540))=some r:=by rw [if_pos rfl] at H;exact H
         clear H
         have H:=H1
         clear H1
         replace H:=bzS H
         obtain ⟨t540,A880,H⟩:=H
         replace H:(some t540)=some r:=H
         have A88:=am A880
         clear A880
         obtain rfl:=Option.some.inj H
         obtain ⟨Ao89,co89,eo89⟩:=Kd.jW HO_6.out
         subst eo89
         go_wp2_with (first |((with_reducible refine jB (f:=34) rfl ?_);refine gL (some 99) Try.func34 #[.slice Ao89 t516.length co89] ?_;(with_reducible refine (jKa.calls k2 _ _ t516 true _ ?side1 ?side2 A86.out).mono ?_);(case side1=>exact cq (Kd.jw HO_6.out).2.2);(case side2=>exact (Kd.jw HO_6.out).2.1);rintro e w' ⟨rfl,⟨nd,rfl⟩⟩;refine ⟨_,rfl,?_⟩) |(go_at_call 29;(with_reducible refine (jBa.calls k2 _ _ t516 t513 t540 _ ?side1 ?side2 A88.out).mono ?_);(case side1=>exact cq (Kd.jw HO_6.out).2.2);(case side2=>exact (Kd.jw HO_6.out).2.1);rintro e w' ⟨rfl,⟨nd,rfl⟩⟩))
         go_ret
         exact ⟨Y1,Y29⟩
        ·replace c87:=Bool.eq_false_iff.mpr c87
         subst c87
         have H1:(some false)=some r:=by rw [if_neg (show ¬ (false=true) by decide)] at H;exact H
         clear H
         have H:=H1
         clear H1
         exact absurd ((Option.some.inj H).trans hT) Bool.false_ne_true
def jo.Pure : Prop := ∀ (l0 : List Int), l0.length ≤ maxLen → l0.length * 1 ≤ 140737488351232 → (∀ x ∈ l0, (Lit.int .u8 x).wf = true) → ∃ k, jo.f k l0 = some true
theorem jo.walk (P : jo.Pure) (a0 : Option Addr) (len0 cap0 : Nat) (z0 : List Int) (w : World) (w0 : (a0 = none ∧ len0 = 0 ∧ cap0 = 0 ∧ z0 = []) ∨ ∃ x, a0 = some x ∧ len0 ≤ cap0 ∧ cap0 ≤ maxLen ∧ z0.length = cap0 ∧ (∀ i, i < z0.length → w.cell? (x.add i) = some (.int .u8 (z0.getD i 0))) ∧ ∀ n ∈ z0, (Lit.int .u8 n).wf = true) (y0 : len0 * 1 ≤ 140737488351232) :
  Calls Try.prog 7 #[.slice a0 len0 cap0] w fun e w'=>e=.returned (.bool true)∧Below w.heap.size w w':=by
 obtain ⟨l0,rfl,hr0,hm0,hw0,hc0⟩:=jNa.ofRowC w0
 obtain ⟨k,h⟩:=P l0 hm0 y0 hw0
 refine (jo.calls k _ _ l0 true w (Kd.jQb (d:=(0:Int)) (h1:=fun _=>rfl) hr0) hc0 rfl h).mono ?_
 rintro e w' ⟨rfl,hd⟩
 exact ⟨rfl,hd⟩
end Go.Proofs.Ytecdfgejmbpclaa.P
end
