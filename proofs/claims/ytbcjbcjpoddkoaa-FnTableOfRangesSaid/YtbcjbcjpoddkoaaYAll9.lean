/- One part of the proofs on this program: functions of the program as plain functions, that the code comes to them, and facts on them. -/
import Derived.Test.YtbcjbcjpoddkoaaYAll1
import Derived.Test.YtbcjbcjpoddkoaaYAll2
import Derived.Test.YtbcjbcjpoddkoaaYAll3
import Derived.Test.YtbcjbcjpoddkoaaYAll4
import Derived.Test.YtbcjbcjpoddkoaaYAll8
import Derived.Test.YtbcjbcjpoddkoaaYWAuto
section
namespace Go.Proofs.Ytbcjbcjpoddkoaa.P
open Go.RowKit Go.Proofs.YtbcjbcjpoddkoaaW.PrintWords Go.Proofs.YtbcjbcjpoddkoaaW.PrintLast Go.Proofs.YtbcjbcjpoddkoaaW.PrintMore
attribute [local go_sem] jra jpa jCa jBa jga jfa jqa joa jo
set_option linter.unusedVariables false
set_option linter.unusedSimpArgs false
mutual
def je.j0 : Nat → List (S59) → List (S48) → Bool → List (S98) → Option (Bool)
 | 0,_,_,_,_=>none
 | k+1,x4,x5,x31,x665000=>if x31=true then ((jEa.f k x665000 x4).bind fun t673=>((jP.f k x5 t673).bind fun t676=>(some t676))) else (je.l0 k x4 x5 0)
def je.l0 : Nat → List (S59) → List (S48) → Int → Option (Bool)
 | 0,_,_,_=>none
 | k+1,x4,x5,x6=>if x6<(x5.length:Int) then (if 0≤x6 then (if ((jna x5 x6).f0)≥((jna x5 x6).f1) then (je.j2 k x4 x5 x6 true) else (je.j2 k x4 x5 x6 (decide (((jna x5 x6).f1) > (x4.length:Int))))) else (none)) else (some true)
def je.j2 : Nat → List (S59) → List (S48) → Int → Bool → Option (Bool)
 | 0,_,_,_,_=>none
 | k+1,x4,x5,x6,x63=>if x63=true then (some false) else (je.l1 k x4 x5 x6 0)
def je.l1 : Nat → List (S59) → List (S48) → Int → Int → Option (Bool)
 | 0,_,_,_,_=>none
 | k+1,x4,x5,x6,x7=>if x7<x6 then (if 0≤x7 then (if x7<(x5.length:Int) then (if 0≤x6 then (if x6<(x5.length:Int) then (if ((jna x5 x7).f0)≥((jna x5 x6).f1) then (if ((jna x5 x7).f0)<((jna x5 x6).f0) then (some false) else (je.l1 k x4 x5 x6 (wrap64 (x7+1)))) else (if ((jna x5 x7).f0)<((jna x5 x6).f0) then (je.j4 k x4 x5 x6 x7 true) else (if (((jna x5 x6).f0)≥((jna x5 x7).f1)) then (je.j4 k x4 x5 x6 x7 false) else (je.j4 k x4 x5 x6 x7 (decide (((jna x5 x7).f1) > ((jna x5 x6).f1))))))) else (none)) else (none)) else (none)) else (none)) else (je.l0 k x4 x5 (wrap64 (x6+1)))
def je.j4 : Nat → List (S59) → List (S48) → Int → Int → Bool → Option (Bool)
 | 0,_,_,_,_,_=>none
 | k+1,x4,x5,x6,x7,x120=>if x120=true then (some false) else (je.l1 k x4 x5 x6 (wrap64 (x7+1)))
end
def je.f (k : Nat) (l0 : List Int) : Option (Bool) := if (l0.length : Int) > 1048576 then (some true) else ((jZa.f k l0).bind fun bt658 => ((jH.f k bt658.1 bt658.2).bind fun t665 => ((jEa.f k bt658.1 bt658.2).bind fun t668 => ((jP.f k t665 t668).bind fun t671 => (if t671 = true then ((jA.f k bt658.1 bt658.2).bind fun t672 => (je.j0 k bt658.2 t665 (!t672) bt658.1)) else (je.j0 k bt658.2 t665 true bt658.1))))))
set_option maxHeartbeats 8000000 in
set_option maxRecDepth 100000 in
theorem je.calls (k : Nat) (A0 : Option Addr) (c0 : Nat) (l0 : List Int) (r : Bool) (w : World) (hr0 : Kd.C (Kd.int .u8) w A0 l0.length l0) (hc0 : l0.length ≤ c0) (hT : r = true) (h : je.f k l0 = some r) :
  Calls Try.prog 4 #[.slice A0 l0.length c0] w fun e w'=>e=.returned (.bool r)∧Below w.heap.size w w':=by
 have hu32:=Try.underlying32
 have HR0:=am hr0
 have HC0:=am hc0
 clear hr0 hc0
 have HB:=am (Below.refl w.heap.size w)
 have H:(if (l0.length:Int) > 1048576 then (some true) else ((jZa.f k l0).bind fun bt658=>((jH.f k bt658.1 bt658.2).bind fun t665=>((jEa.f k bt658.1 bt658.2).bind fun t668=>((jP.f k t665 t668).bind fun t671=>(if t671=true then ((jA.f k bt658.1 bt658.2).bind fun t672=>(je.j0 k bt658.2 t665 (!t672) bt658.1)) else (je.j0 k bt658.2 t665 true bt658.1)))))))=some r:=h
 clear h
 by_cases c2:(l0.length:Int) > 1048576
 ·rw [if_pos c2] at H
  have c2b0:decide (1048576<(l0.length:Int))=true:=dzT c2
  have c2b1:decide (1048576<l0.length)=true:=dzT (by omega)
  clear c2
  obtain rfl:=Option.some.inj H
  go_enter Try.func4,Try.ntmps4
  go_wp2
  repeat (go_quiet (fail);try go_wp2)
  go_ret
  exact ⟨Y0,bq⟩
 ·rw [if_neg c2] at H
  have c2b0:decide (1048576<(l0.length:Int))=false:=dzF c2
  have c2b1:decide (1048576<l0.length)=false:=dzF (by omega)
  clear c2
  replace H:=bzS H
  obtain ⟨⟨t658,t661⟩,A30,H⟩:=H
  replace H:((jH.f k t658 t661).bind fun t665=>((jEa.f k t658 t661).bind fun t668=>((jP.f k t665 t668).bind fun t671=>(if t671=true then ((jA.f k t658 t661).bind fun t672=>(je.j0 k t661 t665 (!t672) t658)) else (je.j0 k t661 t665 true t658)))))=some r:=H
  have A3:=am A30
  clear A30
  replace H:=bzS H
  obtain ⟨t665,A40,H⟩:=H
  replace H:((jEa.f k t658 t661).bind fun t668=>((jP.f k t665 t668).bind fun t671=>(if t671=true then ((jA.f k t658 t661).bind fun t672=>(je.j0 k t661 t665 (!t672) t658)) else (je.j0 k t661 t665 true t658))))=some r:=H
  have A4:=am A40
  clear A40
  have HC5:=am H
  clear H
  go_enter Try.func4,Try.ntmps4
  go_upto_region 5 with (first |(go_at_call 20;(with_reducible refine (jZa.calls k _ _ l0 t658 t661 _ ?side1 ?side2 A3.out).mono ?_);(case side1=>exact Y31);(case side2=>exact HC0.out);rintro e w6 ⟨v659,v662,rfl,ho0,ho1,hb⟩;have HO660:=am (Kd.jX ho0 (jda (bq)));have HO663:=am (Kd.Q_lower ho1 (jda (bq)));replace HB:=am (ji (bq) hb);(try clear hb);(try clear hb2);(try clear hk);(try clear hi);(try clear ho0);(try clear ho1)) |((with_reducible refine jQ (N:=3) rfl ?_);(try (refine gate_guard (by rfl) ?_;dsimp only));refine box_event ?hg (N:=3) ?hd (cs:=#[.slice none 0 0]) (t:=32) ?hr ?_;(case hd=>rfl);(case hg=>rfl);(case hr=>exact Y8);intro gb664 hg w7 hbox hb;have BK664:=am (hbox);have GW664:=am ((Y13:w.heap.size≤gb664));have GE664:=am ((Y13:w.heap.size≤gb664));replace HO660:=am (Kd.jja (rq HO660.out) hb);replace HO663:=am (Kd.jsb (Y39) hb);replace HB:=am (ji (bq) hb);clear hb hbox hg;obtain ⟨Ao8,co8,eo8⟩:=Kd.jaa HO660.out;subst eo8;have hcz9_0:=bc0 BK664.out;have hfz9_0:=ja BK664.out 0;obtain ⟨Ao10,co10,eo10,_⟩:=Kd.Q_slice HO663.out;subst eo10) |(go_at_call 12;(with_reducible refine (jH.calls k _ _ t658 _ _ t661 t665 _ ?side1 ?side2 ?side3 ?side4 A4.out).mono ?_);(case side1=>refine (Kd.jm (e:=98) (base:=w.heap.size) (ok:=fun k_=>True) (n:=t658.length) (c:=co8) ?_).2.2;exact (Y63));(case side2=>exact (Kd.jm HO660.out).2.1);(case side3=>refine (Kd.jLa (e:=59) (base:=w.heap.size) (ok:=fun k_=>True) (n:=t661.length) (c:=co10) ?_).2.2;exact (Y64));(case side4=>exact (Kd.jLa HO663.out).2.1);rintro e w11 ⟨v666,rfl,ho0,hb⟩;have HO667:=am (Kd.jX ho0 (jda (Y9)));replace HO660:=am (Kd.jja (Y63) hb);replace HO663:=am (Kd.jsb (Y64) hb);replace BK664:=am (jq (g:=gb664) (o:=.cells #[.slice Ao8 t658.length co8] 32 (0,0)) (Y85) hb);replace HB:=am (ji (Y9) hb);(try clear hb);(try clear hb2);(try clear hk);(try clear hi);(try clear ho0)))
  repeat (go_quiet (first |(go_at_call 20;(with_reducible refine (jZa.calls k _ _ l0 t658 t661 _ ?side1 ?side2 A3.out).mono ?_);(case side1=>exact Y31);(case side2=>exact HC0.out);rintro e w6 ⟨v659,v662,rfl,ho0,ho1,hb⟩;have HO660:=am (Kd.jX ho0 (jda (bq)));have HO663:=am (Kd.Q_lower ho1 (jda (bq)));replace HB:=am (ji (bq) hb);(try clear hb);(try clear hb2);(try clear hk);(try clear hi);(try clear ho0);(try clear ho1)) |((with_reducible refine jQ (N:=3) rfl ?_);(try (refine gate_guard (by rfl) ?_;dsimp only));refine box_event ?hg (N:=3) ?hd (cs:=#[.slice none 0 0]) (t:=32) ?hr ?_;(case hd=>rfl);(case hg=>rfl);(case hr=>exact Y8);intro gb664 hg w7 hbox hb;have BK664:=am (hbox);have GW664:=am ((Y13:w.heap.size≤gb664));have GE664:=am ((Y13:w.heap.size≤gb664));replace HO660:=am (Kd.jja (rq HO660.out) hb);replace HO663:=am (Kd.jsb (Y39) hb);replace HB:=am (ji (bq) hb);clear hb hbox hg;obtain ⟨Ao8,co8,eo8⟩:=Kd.jaa HO660.out;subst eo8;have hcz9_0:=bc0 BK664.out;have hfz9_0:=ja BK664.out 0;obtain ⟨Ao10,co10,eo10,_⟩:=Kd.Q_slice HO663.out;subst eo10) |(go_at_call 12;(with_reducible refine (jH.calls k _ _ t658 _ _ t661 t665 _ ?side1 ?side2 ?side3 ?side4 A4.out).mono ?_);(case side1=>refine (Kd.jm (e:=98) (base:=w.heap.size) (ok:=fun k_=>True) (n:=t658.length) (c:=co8) ?_).2.2;exact (Y63));(case side2=>exact (Kd.jm HO660.out).2.1);(case side3=>refine (Kd.jLa (e:=59) (base:=w.heap.size) (ok:=fun k_=>True) (n:=t661.length) (c:=co10) ?_).2.2;exact (Y64));(case side4=>exact (Kd.jLa HO663.out).2.1);rintro e w11 ⟨v666,rfl,ho0,hb⟩;have HO667:=am (Kd.jX ho0 (jda (Y9)));replace HO660:=am (Kd.jja (Y63) hb);replace HO663:=am (Kd.jsb (Y64) hb);replace BK664:=am (jq (g:=gb664) (o:=.cells #[.slice Ao8 t658.length co8] 32 (0,0)) (Y85) hb);replace HB:=am (ji (Y9) hb);(try clear hb);(try clear hb2);(try clear hk);(try clear hi);(try clear ho0)));go_upto_region 5 with (first |(go_at_call 20;(with_reducible refine (jZa.calls k _ _ l0 t658 t661 _ ?side1 ?side2 A3.out).mono ?_);(case side1=>exact Y31);(case side2=>exact HC0.out);rintro e w6 ⟨v659,v662,rfl,ho0,ho1,hb⟩;have HO660:=am (Kd.jX ho0 (jda (bq)));have HO663:=am (Kd.Q_lower ho1 (jda (bq)));replace HB:=am (ji (bq) hb);(try clear hb);(try clear hb2);(try clear hk);(try clear hi);(try clear ho0);(try clear ho1)) |((with_reducible refine jQ (N:=3) rfl ?_);(try (refine gate_guard (by rfl) ?_;dsimp only));refine box_event ?hg (N:=3) ?hd (cs:=#[.slice none 0 0]) (t:=32) ?hr ?_;(case hd=>rfl);(case hg=>rfl);(case hr=>exact Y8);intro gb664 hg w7 hbox hb;have BK664:=am (hbox);have GW664:=am ((Y13:w.heap.size≤gb664));have GE664:=am ((Y13:w.heap.size≤gb664));replace HO660:=am (Kd.jja (rq HO660.out) hb);replace HO663:=am (Kd.jsb (Y39) hb);replace HB:=am (ji (bq) hb);clear hb hbox hg;obtain ⟨Ao8,co8,eo8⟩:=Kd.jaa HO660.out;subst eo8;have hcz9_0:=bc0 BK664.out;have hfz9_0:=ja BK664.out 0;obtain ⟨Ao10,co10,eo10,_⟩:=Kd.Q_slice HO663.out;subst eo10) |(go_at_call 12;(with_reducible refine (jH.calls k _ _ t658 _ _ t661 t665 _ ?side1 ?side2 ?side3 ?side4 A4.out).mono ?_);(case side1=>refine (Kd.jm (e:=98) (base:=w.heap.size) (ok:=fun k_=>True) (n:=t658.length) (c:=co8) ?_).2.2;exact (Y63));(case side2=>exact (Kd.jm HO660.out).2.1);(case side3=>refine (Kd.jLa (e:=59) (base:=w.heap.size) (ok:=fun k_=>True) (n:=t661.length) (c:=co10) ?_).2.2;exact (Y64));(case side4=>exact (Kd.jLa HO663.out).2.1);rintro e w11 ⟨v666,rfl,ho0,hb⟩;have HO667:=am (Kd.jX ho0 (jda (Y9)));replace HO660:=am (Kd.jja (Y63) hb);replace HO663:=am (Kd.jsb (Y64) hb);replace BK664:=am (jq (g:=gb664) (o:=.cells #[.slice Ao8 t658.length co8] 32 (0,0)) (Y85) hb);replace HB:=am (ji (Y9) hb);(try clear hb);(try clear hb2);(try clear hk);(try clear hi);(try clear ho0))))
  (try simp only [Act.put,List.setIfInBounds_toArray,List.set_cons_zero,List.set_cons_succ])
  go_cut [31] (fun v31 wc=>∃ (kq:Nat) (x31_4:Bool),v31=.bool x31_4∧jl (je.j0 kq t661 t665 x31_4 t658=some r)∧jl (kq≤k)∧jl (Kd.Q k59 59 wc w.heap.size (fun _=>True) (.slice Ao10 t661.length co10) t661)∧jl (Kd.R k48 48 wc w.heap.size (fun _=>True) v666 t665)∧jl (Kd.R k98 98 wc w.heap.size (fun _=>True) (.slice Ao8 t658.length co8) t658)∧jl (wc.heap[gb664]?=some (.cells #[(.slice Ao8 t658.length co8)] 32 (0,0)))∧jl (Below w.heap.size w wc))
  case first =>
   have H:=HC5.out
   clear HC5
   replace H:=bzS H
   obtain ⟨t668,A120,H⟩:=H
   replace H:((jP.f k t665 t668).bind fun t671=>(if t671=true then ((jA.f k t658 t661).bind fun t672=>(je.j0 k t661 t665 (!t672) t658)) else (je.j0 k t661 t665 true t658)))=some r:=H
   have A12:=am A120
   clear A120
   replace H:=bzS H
   obtain ⟨t671,A130,H⟩:=H
   replace H:(if t671=true then ((jA.f k t658 t661).bind fun t672=>(je.j0 k t661 t665 (!t672) t658)) else (je.j0 k t661 t665 true t658))=some r:=H
   have A13:=am A130
   clear A130
   by_cases c14:t671=true
   ·subst c14
    have H1:((jA.f k t658 t661).bind fun t672=>(je.j0 k t661 t665 (!t672) t658))=some r:=by rw [if_pos rfl] at H;exact H
    clear H
    have H:=H1
    clear H1
    replace H:=bzS H
    obtain ⟨t672,A150,H⟩:=H
    replace H:(je.j0 k t661 t665 (!t672) t658)=some r:=H
    have A15:=am A150
    clear A150
    have H':=am H
    clear H
    have hcz16_0:=bc0 BK664.out
    have hfz16_0:=ja BK664.out 0
    go_wp2_with (first |(go_at_call 9;(with_reducible refine (jEa.calls k _ _ t658 _ _ t661 t668 _ ?side1 ?side2 ?side3 ?side4 A12.out).mono ?_);(case side1=>exact cq (Kd.jm HO660.out).2.2);(case side2=>exact (Kd.jm HO660.out).2.1);(case side3=>exact cq (Kd.jLa HO663.out).2.2);(case side4=>exact (Kd.jLa HO663.out).2.1);rintro e w17 ⟨v669,rfl,ho0,hb⟩;have HO670:=am (Kd.jX (Kd.jEb ho0 (Kd.R_lt (rq HO667.out))) (jda (Y9)));replace HO660:=am (Kd.jja (rq HO660.out) hb);replace HO663:=am (Kd.jsb (Y39) hb);replace HO667:=am (Kd.jKb (rq HO667.out) (Kd.jGb ho0) hb);replace BK664:=am (jq (g:=gb664) (o:=.cells #[.slice Ao8 t658.length co8] 32 (0,0)) (kq BK664.out) hb);replace HB:=am (ji (Y9) hb);(try clear hb);(try clear hb2);(try clear hk);(try clear hi);(try clear ho0);obtain ⟨Ao18,co18,eo18⟩:=Kd.jaa HO667.out;subst eo18;obtain ⟨Ao19,co19,eo19⟩:=Kd.jaa HO670.out;subst eo19) |(go_at_call 21;(with_reducible refine (jP.calls k _ _ t665 _ _ t668 true _ ?side1 ?side2 ?side3 ?side4 A13.out).mono ?_);(case side1=>exact cq (Kd.jm HO667.out).2.2);(case side2=>exact (Kd.jm HO667.out).2.1);(case side3=>exact cq (Kd.jm HO670.out).2.2);(case side4=>exact (Kd.jm HO670.out).2.1);rintro e w' ⟨rfl,⟨nd,rfl⟩⟩;(try first | exact ⟨rfl,_,World.drewN_drewN _ _ _⟩ | exact ⟨rfl,_,Eq.trans (World.drewN_drewN _ _ _) (congrArg (World.drewN _) (Nat.add_assoc _ _ _))⟩);have hcz20_0:=bc0 BK664.out;have hfz20_0:=ja BK664.out 0) |(go_at_call 22;(with_reducible refine (jA.calls k _ _ t658 _ _ t661 t672 _ ?side1 ?side2 ?side3 ?side4 A15.out).mono ?_);(case side1=>exact cq (Kd.jm HO660.out).2.2);(case side2=>exact (Kd.jm HO660.out).2.1);(case side3=>exact cq (Kd.jLa HO663.out).2.2);(case side4=>exact (Kd.jLa HO663.out).2.1);rintro e w21 ⟨rfl,hb⟩;replace HO660:=am (Kd.jja (rq HO660.out) hb);replace HO663:=am (Kd.jsb (Y39) hb);replace HO667:=am (Kd.jja (rq HO667.out) hb);replace HO670:=am (Kd.jja (rq HO670.out) hb);replace BK664:=am (jq (g:=gb664) (o:=.cells #[.slice Ao8 t658.length co8] 32 (0,0)) (kq BK664.out) hb);replace HB:=am (ji (Y9) hb);(try clear hb);(try clear hb2);(try clear hk);(try clear hi)))
    repeat (go_quiet (first |(go_at_call 9;(with_reducible refine (jEa.calls k _ _ t658 _ _ t661 t668 _ ?side1 ?side2 ?side3 ?side4 A12.out).mono ?_);(case side1=>exact cq (Kd.jm HO660.out).2.2);(case side2=>exact (Kd.jm HO660.out).2.1);(case side3=>exact cq (Kd.jLa HO663.out).2.2);(case side4=>exact (Kd.jLa HO663.out).2.1);rintro e w17 ⟨v669,rfl,ho0,hb⟩;have HO670:=am (Kd.jX (Kd.jEb ho0 (Kd.R_lt (rq HO667.out))) (jda (Y9)));replace HO660:=am (Kd.jja (rq HO660.out) hb);replace HO663:=am (Kd.jsb (Y39) hb);replace HO667:=am (Kd.jKb (rq HO667.out) (Kd.jGb ho0) hb);replace BK664:=am (jq (g:=gb664) (o:=.cells #[.slice Ao8 t658.length co8] 32 (0,0)) (kq BK664.out) hb);replace HB:=am (ji (Y9) hb);(try clear hb);(try clear hb2);(try clear hk);(try clear hi);(try clear ho0);obtain ⟨Ao18,co18,eo18⟩:=Kd.jaa HO667.out;subst eo18;obtain ⟨Ao19,co19,eo19⟩:=Kd.jaa HO670.out;subst eo19) |(go_at_call 21;(with_reducible refine (jP.calls k _ _ t665 _ _ t668 true _ ?side1 ?side2 ?side3 ?side4 A13.out).mono ?_);(case side1=>exact cq (Kd.jm HO667.out).2.2);(case side2=>exact (Kd.jm HO667.out).2.1);(case side3=>exact cq (Kd.jm HO670.out).2.2);(case side4=>exact (Kd.jm HO670.out).2.1);rintro e w' ⟨rfl,⟨nd,rfl⟩⟩;(try first | exact ⟨rfl,_,World.drewN_drewN _ _ _⟩ | exact ⟨rfl,_,Eq.trans (World.drewN_drewN _ _ _) (congrArg (World.drewN _) (Nat.add_assoc _ _ _))⟩);have hcz20_0:=bc0 BK664.out;have hfz20_0:=ja BK664.out 0) |(go_at_call 22;(with_reducible refine (jA.calls k _ _ t658 _ _ t661 t672 _ ?side1 ?side2 ?side3 ?side4 A15.out).mono ?_);(case side1=>exact cq (Kd.jm HO660.out).2.2);(case side2=>exact (Kd.jm HO660.out).2.1);(case side3=>exact cq (Kd.jLa HO663.out).2.2);(case side4=>exact (Kd.jLa HO663.out).2.1);rintro e w21 ⟨rfl,hb⟩;replace HO660:=am (Kd.jja (rq HO660.out) hb);replace HO663:=am (Kd.jsb (Y39) hb);replace HO667:=am (Kd.jja (rq HO667.out) hb);replace HO670:=am (Kd.jja (rq HO670.out) hb);replace BK664:=am (jq (g:=gb664) (o:=.cells #[.slice Ao8 t658.length co8] 32 (0,0)) (kq BK664.out) hb);replace HB:=am (ji (Y9) hb);(try clear hb);(try clear hb2);(try clear hk);(try clear hi)));try go_wp2_with (first |(go_at_call 9;(with_reducible refine (jEa.calls k _ _ t658 _ _ t661 t668 _ ?side1 ?side2 ?side3 ?side4 A12.out).mono ?_);(case side1=>exact cq (Kd.jm HO660.out).2.2);(case side2=>exact (Kd.jm HO660.out).2.1);(case side3=>exact cq (Kd.jLa HO663.out).2.2);(case side4=>exact (Kd.jLa HO663.out).2.1);rintro e w17 ⟨v669,rfl,ho0,hb⟩;have HO670:=am (Kd.jX (Kd.jEb ho0 (Kd.R_lt (rq HO667.out))) (jda (Y9)));replace HO660:=am (Kd.jja (rq HO660.out) hb);replace HO663:=am (Kd.jsb (Y39) hb);replace HO667:=am (Kd.jKb (rq HO667.out) (Kd.jGb ho0) hb);replace BK664:=am (jq (g:=gb664) (o:=.cells #[.slice Ao8 t658.length co8] 32 (0,0)) (kq BK664.out) hb);replace HB:=am (ji (Y9) hb);(try clear hb);(try clear hb2);(try clear hk);(try clear hi);(try clear ho0);obtain ⟨Ao18,co18,eo18⟩:=Kd.jaa HO667.out;subst eo18;obtain ⟨Ao19,co19,eo19⟩:=Kd.jaa HO670.out;subst eo19) |(go_at_call 21;(with_reducible refine (jP.calls k _ _ t665 _ _ t668 true _ ?side1 ?side2 ?side3 ?side4 A13.out).mono ?_);(case side1=>exact cq (Kd.jm HO667.out).2.2);(case side2=>exact (Kd.jm HO667.out).2.1);(case side3=>exact cq (Kd.jm HO670.out).2.2);(case side4=>exact (Kd.jm HO670.out).2.1);rintro e w' ⟨rfl,⟨nd,rfl⟩⟩;(try first | exact ⟨rfl,_,World.drewN_drewN _ _ _⟩ | exact ⟨rfl,_,Eq.trans (World.drewN_drewN _ _ _) (congrArg (World.drewN _) (Nat.add_assoc _ _ _))⟩);have hcz20_0:=bc0 BK664.out;have hfz20_0:=ja BK664.out 0) |(go_at_call 22;(with_reducible refine (jA.calls k _ _ t658 _ _ t661 t672 _ ?side1 ?side2 ?side3 ?side4 A15.out).mono ?_);(case side1=>exact cq (Kd.jm HO660.out).2.2);(case side2=>exact (Kd.jm HO660.out).2.1);(case side3=>exact cq (Kd.jLa HO663.out).2.2);(case side4=>exact (Kd.jLa HO663.out).2.1);rintro e w21 ⟨rfl,hb⟩;replace HO660:=am (Kd.jja (rq HO660.out) hb);replace HO663:=am (Kd.jsb (Y39) hb);replace HO667:=am (Kd.jja (rq HO667.out) hb);replace HO670:=am (Kd.jja (rq HO670.out) hb);replace BK664:=am (jq (g:=gb664) (o:=.cells #[.slice Ao8 t658.length co8] 32 (0,0)) (kq BK664.out) hb);replace HB:=am (ji (Y9) hb);(try clear hb);(try clear hb2);(try clear hk);(try clear hi))))
    go_meet
    case rel=>exact ⟨_,(!t672),(sq),H',⟨Y41⟩,⟨by (with_reducible repeat (first | apply Kd.jIb | apply Kd.jHb | apply Kd.jYb));exact HO663.out⟩,⟨by (with_reducible repeat (first | apply Kd.jba | apply Kd.jea | apply Kd.jma));exact Kd.jI HO667.out (fun _ hk=>trivial)⟩,⟨rq HO660.out⟩,⟨kq BK664.out⟩,⟨Y9⟩⟩
   ·replace c14:=Bool.eq_false_iff.mpr c14
    subst c14
    have H1:(je.j0 k t661 t665 true t658)=some r:=by rw [if_neg (show ¬ (false=true) by decide)] at H;exact H
    clear H
    have H:=H1
    clear H1
    have H':=am H
    clear H
    have hcz22_0:=bc0 BK664.out
    have hfz22_0:=ja BK664.out 0
    go_wp2_with (first |(go_at_call 9;(with_reducible refine (jEa.calls k _ _ t658 _ _ t661 t668 _ ?side1 ?side2 ?side3 ?side4 A12.out).mono ?_);(case side1=>exact cq (Kd.jm HO660.out).2.2);(case side2=>exact (Kd.jm HO660.out).2.1);(case side3=>exact cq (Kd.jLa HO663.out).2.2);(case side4=>exact (Kd.jLa HO663.out).2.1);rintro e w23 ⟨v669,rfl,ho0,hb⟩;have HO670:=am (Kd.jX (Kd.jEb ho0 (Kd.R_lt (rq HO667.out))) (jda (Y9)));replace HO660:=am (Kd.jja (rq HO660.out) hb);replace HO663:=am (Kd.jsb (Y39) hb);replace HO667:=am (Kd.jKb (rq HO667.out) (Kd.jGb ho0) hb);replace BK664:=am (jq (g:=gb664) (o:=.cells #[.slice Ao8 t658.length co8] 32 (0,0)) (kq BK664.out) hb);replace HB:=am (ji (Y9) hb);(try clear hb);(try clear hb2);(try clear hk);(try clear hi);(try clear ho0);obtain ⟨Ao24,co24,eo24⟩:=Kd.jaa HO667.out;subst eo24;obtain ⟨Ao25,co25,eo25⟩:=Kd.jaa HO670.out;subst eo25) |(go_at_call 21;(with_reducible refine (jP.calls k _ _ t665 _ _ t668 false _ ?side1 ?side2 ?side3 ?side4 A13.out).mono ?_);(case side1=>exact cq (Kd.jm HO667.out).2.2);(case side2=>exact (Kd.jm HO667.out).2.1);(case side3=>exact cq (Kd.jm HO670.out).2.2);(case side4=>exact (Kd.jm HO670.out).2.1);rintro e w' ⟨rfl,⟨nd,rfl⟩⟩;(try first | exact ⟨rfl,_,World.drewN_drewN _ _ _⟩ | exact ⟨rfl,_,Eq.trans (World.drewN_drewN _ _ _) (congrArg (World.drewN _) (Nat.add_assoc _ _ _))⟩)))
    repeat (go_quiet (first |(go_at_call 9;(with_reducible refine (jEa.calls k _ _ t658 _ _ t661 t668 _ ?side1 ?side2 ?side3 ?side4 A12.out).mono ?_);(case side1=>exact cq (Kd.jm HO660.out).2.2);(case side2=>exact (Kd.jm HO660.out).2.1);(case side3=>exact cq (Kd.jLa HO663.out).2.2);(case side4=>exact (Kd.jLa HO663.out).2.1);rintro e w23 ⟨v669,rfl,ho0,hb⟩;have HO670:=am (Kd.jX (Kd.jEb ho0 (Kd.R_lt (rq HO667.out))) (jda (Y9)));replace HO660:=am (Kd.jja (rq HO660.out) hb);replace HO663:=am (Kd.jsb (Y39) hb);replace HO667:=am (Kd.jKb (rq HO667.out) (Kd.jGb ho0) hb);replace BK664:=am (jq (g:=gb664) (o:=.cells #[.slice Ao8 t658.length co8] 32 (0,0)) (kq BK664.out) hb);replace HB:=am (ji (Y9) hb);(try clear hb);(try clear hb2);(try clear hk);(try clear hi);(try clear ho0);obtain ⟨Ao24,co24,eo24⟩:=Kd.jaa HO667.out;subst eo24;obtain ⟨Ao25,co25,eo25⟩:=Kd.jaa HO670.out;subst eo25) |(go_at_call 21;(with_reducible refine (jP.calls k _ _ t665 _ _ t668 false _ ?side1 ?side2 ?side3 ?side4 A13.out).mono ?_);(case side1=>exact cq (Kd.jm HO667.out).2.2);(case side2=>exact (Kd.jm HO667.out).2.1);(case side3=>exact cq (Kd.jm HO670.out).2.2);(case side4=>exact (Kd.jm HO670.out).2.1);rintro e w' ⟨rfl,⟨nd,rfl⟩⟩;(try first | exact ⟨rfl,_,World.drewN_drewN _ _ _⟩ | exact ⟨rfl,_,Eq.trans (World.drewN_drewN _ _ _) (congrArg (World.drewN _) (Nat.add_assoc _ _ _))⟩)));try go_wp2_with (first |(go_at_call 9;(with_reducible refine (jEa.calls k _ _ t658 _ _ t661 t668 _ ?side1 ?side2 ?side3 ?side4 A12.out).mono ?_);(case side1=>exact cq (Kd.jm HO660.out).2.2);(case side2=>exact (Kd.jm HO660.out).2.1);(case side3=>exact cq (Kd.jLa HO663.out).2.2);(case side4=>exact (Kd.jLa HO663.out).2.1);rintro e w23 ⟨v669,rfl,ho0,hb⟩;have HO670:=am (Kd.jX (Kd.jEb ho0 (Kd.R_lt (rq HO667.out))) (jda (Y9)));replace HO660:=am (Kd.jja (rq HO660.out) hb);replace HO663:=am (Kd.jsb (Y39) hb);replace HO667:=am (Kd.jKb (rq HO667.out) (Kd.jGb ho0) hb);replace BK664:=am (jq (g:=gb664) (o:=.cells #[.slice Ao8 t658.length co8] 32 (0,0)) (kq BK664.out) hb);replace HB:=am (ji (Y9) hb);(try clear hb);(try clear hb2);(try clear hk);(try clear hi);(try clear ho0);obtain ⟨Ao24,co24,eo24⟩:=Kd.jaa HO667.out;subst eo24;obtain ⟨Ao25,co25,eo25⟩:=Kd.jaa HO670.out;subst eo25) |(go_at_call 21;(with_reducible refine (jP.calls k _ _ t665 _ _ t668 false _ ?side1 ?side2 ?side3 ?side4 A13.out).mono ?_);(case side1=>exact cq (Kd.jm HO667.out).2.2);(case side2=>exact (Kd.jm HO667.out).2.1);(case side3=>exact cq (Kd.jm HO670.out).2.2);(case side4=>exact (Kd.jm HO670.out).2.1);rintro e w' ⟨rfl,⟨nd,rfl⟩⟩;(try first | exact ⟨rfl,_,World.drewN_drewN _ _ _⟩ | exact ⟨rfl,_,Eq.trans (World.drewN_drewN _ _ _) (congrArg (World.drewN _) (Nat.add_assoc _ _ _))⟩))))
    go_meet
    case rel=>exact ⟨_,(true),(sq),H',⟨Y41⟩,⟨by (with_reducible repeat (first | apply Kd.jIb | apply Kd.jHb | apply Kd.jYb));exact HO663.out⟩,⟨by (with_reducible repeat (first | apply Kd.jba | apply Kd.jea | apply Kd.jma));exact Kd.jI HO667.out (fun _ hk=>trivial)⟩,⟨rq HO660.out⟩,⟨kq BK664.out⟩,⟨Y9⟩⟩
  case rest =>
   clear HC5
   try clear c1
   try clear c2
   try clear c2b0
   try clear c2b1
   try clear p2
   try clear c4
   try clear c14
   try clear hcz16_0
   try clear hcz20_0
   try clear hcz22_0
   try clear hcz9_0
   try clear hfz16_0
   try clear hfz20_0
   try clear hfz22_0
   try clear hfz9_0
   obtain ⟨kq,x31_4,rfl,HA,HJ4,HO_4,HO_5,HO_665000,BK664,HB⟩:=hcut
   cases kq with
   | zero=>exact absurd HA.out (by simp [je.j0])
   | succ kj4 =>
    have H:=HA.out
    clear HA
    simp only [je.j0] at H
    by_cases c26:x31_4=true
    ·subst c26
     have H1:((jEa.f kj4 t658 t661).bind fun t673=>((jP.f kj4 t665 t673).bind fun t676=>(some t676)))=some r:=by rw [if_pos rfl] at H;exact H
     clear H
     have H:=H1
     clear H1
     replace H:=bzS H
     obtain ⟨t673,A270,H⟩:=H
     replace H:((jP.f kj4 t665 t673).bind fun t676=>(some t676))=some r:=H
     have A27:=am A270
     clear A270
     replace H:=bzS H
     obtain ⟨t676,A280,H⟩:=H
     replace H:(some t676)=some r:=H
     have A28:=am A280
     clear A280
     obtain rfl:=Option.some.inj H
     have hcz29_0:=bc0 BK664.out
     have hfz29_0:=ja BK664.out 0
     go_wp2_with (first |(go_at_call 9;(with_reducible refine (jEa.calls kj4 _ _ t658 _ _ t661 t673 _ ?side1 ?side2 ?side3 ?side4 A27.out).mono ?_);(case side1=>exact cq (Kd.jm HO_665000.out).2.2);(case side2=>exact (Kd.jm HO_665000.out).2.1);(case side3=>exact cq (Kd.jLa HO_4.out).2.2);(case side4=>exact (Kd.jLa HO_4.out).2.1);rintro e w30 ⟨v674,rfl,ho0,hb⟩;have HO675:=am (Kd.jX (Kd.jEb ho0 (Kd.R_lt (rq HO_5.out))) (jda (Y9)));replace HO_4:=am (Kd.jsb (Y86) hb);replace HO_5:=am (Kd.jKb (rq HO_5.out) (Kd.jGb ho0) hb);replace HO_665000:=am (Kd.jja (rq HO_665000.out) hb);replace BK664:=am (jq (g:=gb664) (o:=.cells #[.slice Ao8 t658.length co8] 32 (0,0)) (kq BK664.out) hb);replace HB:=am (ji (Y9) hb);(try clear hb);(try clear hb2);(try clear hk);(try clear hi);(try clear ho0);obtain ⟨Ao31,co31,eo31⟩:=Kd.jaa HO_5.out;subst eo31;obtain ⟨Ao32,co32,eo32⟩:=Kd.jaa HO675.out;subst eo32) |(go_at_call 21;(with_reducible refine (jP.calls kj4 _ _ t665 _ _ t673 t676 _ ?side1 ?side2 ?side3 ?side4 A28.out).mono ?_);(case side1=>exact cq (Kd.jm HO_5.out).2.2);(case side2=>exact (Kd.jm HO_5.out).2.1);(case side3=>exact cq (Kd.jm HO675.out).2.2);(case side4=>exact (Kd.jm HO675.out).2.1);rintro e w' ⟨rfl,⟨nd,rfl⟩⟩;(try first | exact ⟨rfl,_,World.drewN_drewN _ _ _⟩ | exact ⟨rfl,_,Eq.trans (World.drewN_drewN _ _ _) (congrArg (World.drewN _) (Nat.add_assoc _ _ _))⟩)))
     repeat (go_quiet (first |(go_at_call 9;(with_reducible refine (jEa.calls kj4 _ _ t658 _ _ t661 t673 _ ?side1 ?side2 ?side3 ?side4 A27.out).mono ?_);(case side1=>exact cq (Kd.jm HO_665000.out).2.2);(case side2=>exact (Kd.jm HO_665000.out).2.1);(case side3=>exact cq (Kd.jLa HO_4.out).2.2);(case side4=>exact (Kd.jLa HO_4.out).2.1);rintro e w30 ⟨v674,rfl,ho0,hb⟩;have HO675:=am (Kd.jX (Kd.jEb ho0 (Kd.R_lt (rq HO_5.out))) (jda (Y9)));replace HO_4:=am (Kd.jsb (Y86) hb);replace HO_5:=am (Kd.jKb (rq HO_5.out) (Kd.jGb ho0) hb);replace HO_665000:=am (Kd.jja (rq HO_665000.out) hb);replace BK664:=am (jq (g:=gb664) (o:=.cells #[.slice Ao8 t658.length co8] 32 (0,0)) (kq BK664.out) hb);replace HB:=am (ji (Y9) hb);(try clear hb);(try clear hb2);(try clear hk);(try clear hi);(try clear ho0);obtain ⟨Ao31,co31,eo31⟩:=Kd.jaa HO_5.out;subst eo31;obtain ⟨Ao32,co32,eo32⟩:=Kd.jaa HO675.out;subst eo32) |(go_at_call 21;(with_reducible refine (jP.calls kj4 _ _ t665 _ _ t673 t676 _ ?side1 ?side2 ?side3 ?side4 A28.out).mono ?_);(case side1=>exact cq (Kd.jm HO_5.out).2.2);(case side2=>exact (Kd.jm HO_5.out).2.1);(case side3=>exact cq (Kd.jm HO675.out).2.2);(case side4=>exact (Kd.jm HO675.out).2.1);rintro e w' ⟨rfl,⟨nd,rfl⟩⟩;(try first | exact ⟨rfl,_,World.drewN_drewN _ _ _⟩ | exact ⟨rfl,_,Eq.trans (World.drewN_drewN _ _ _) (congrArg (World.drewN _) (Nat.add_assoc _ _ _))⟩)));try go_wp2_with (first |(go_at_call 9;(with_reducible refine (jEa.calls kj4 _ _ t658 _ _ t661 t673 _ ?side1 ?side2 ?side3 ?side4 A27.out).mono ?_);(case side1=>exact cq (Kd.jm HO_665000.out).2.2);(case side2=>exact (Kd.jm HO_665000.out).2.1);(case side3=>exact cq (Kd.jLa HO_4.out).2.2);(case side4=>exact (Kd.jLa HO_4.out).2.1);rintro e w30 ⟨v674,rfl,ho0,hb⟩;have HO675:=am (Kd.jX (Kd.jEb ho0 (Kd.R_lt (rq HO_5.out))) (jda (Y9)));replace HO_4:=am (Kd.jsb (Y86) hb);replace HO_5:=am (Kd.jKb (rq HO_5.out) (Kd.jGb ho0) hb);replace HO_665000:=am (Kd.jja (rq HO_665000.out) hb);replace BK664:=am (jq (g:=gb664) (o:=.cells #[.slice Ao8 t658.length co8] 32 (0,0)) (kq BK664.out) hb);replace HB:=am (ji (Y9) hb);(try clear hb);(try clear hb2);(try clear hk);(try clear hi);(try clear ho0);obtain ⟨Ao31,co31,eo31⟩:=Kd.jaa HO_5.out;subst eo31;obtain ⟨Ao32,co32,eo32⟩:=Kd.jaa HO675.out;subst eo32) |(go_at_call 21;(with_reducible refine (jP.calls kj4 _ _ t665 _ _ t673 t676 _ ?side1 ?side2 ?side3 ?side4 A28.out).mono ?_);(case side1=>exact cq (Kd.jm HO_5.out).2.2);(case side2=>exact (Kd.jm HO_5.out).2.1);(case side3=>exact cq (Kd.jm HO675.out).2.2);(case side4=>exact (Kd.jm HO675.out).2.1);rintro e w' ⟨rfl,⟨nd,rfl⟩⟩;(try first | exact ⟨rfl,_,World.drewN_drewN _ _ _⟩ | exact ⟨rfl,_,Eq.trans (World.drewN_drewN _ _ _) (congrArg (World.drewN _) (Nat.add_assoc _ _ _))⟩))))
     go_ret
     exact ⟨Y0,Y9⟩
    ·replace c26:=Bool.eq_false_iff.mpr c26
     subst c26
     have H1:(je.l0 kj4 t661 t665 0)=some r:=by rw [if_neg (show ¬ (false=true) by decide)] at H;exact H
     clear H
     have H:=H1
     clear H1
     have H':=am H
     clear H
     go_wp2
     repeat (go_quiet (fail);try go_wp2)
     go_loopg [6] kj4 (fun kq v6 w'=>∃ (x6_2:Int),v6=.int .i64 x6_2∧jl (je.l0 kq t661 t665 x6_2=some r)∧jl (kq≤kj4)∧jl (Kd.Q k59 59 w' w.heap.size (fun _=>True) (.slice Ao10 t661.length co10) t661)∧jl (Kd.R k48 48 w' w.heap.size (fun _=>True) v666 t665)∧jl (Kd.R k98 98 w' w.heap.size (fun _=>True) (.slice Ao8 t658.length co8) t658)∧jl (w'.heap[gb664]?=some (.cells #[(.slice Ao8 t658.length co8)] 32 (0,0)))∧jl (Below w.heap.size w w'))
     case atStart=>exact ⟨(0),(sq),H',⟨Nat.le_refl _⟩,⟨by (with_reducible repeat (first | apply Kd.jIb | apply Kd.jHb | apply Kd.jYb));exact HO_4.out⟩,⟨rq HO_5.out⟩,⟨rq HO_665000.out⟩,⟨kq BK664.out⟩,⟨Y9⟩⟩
     case round =>
      clear H'
      try clear c1
      try clear c2
      try clear c2b0
      try clear c2b1
      try clear p2
      try clear c4
      try clear c14
      try clear c26
      try clear hcz16_0
      try clear hcz20_0
      try clear hcz22_0
      try clear hcz29_0
      try clear hcz9_0
      try clear hfz16_0
      try clear hfz20_0
      try clear hfz22_0
      try clear hfz29_0
      try clear hfz9_0
      try clear p2
      obtain ⟨x6_2,rfl,HA,HK2,HO_4,HO_5,HO_665000,BK664,HB⟩:=hrel
      cases gk with
      | zero=>exact absurd HA.out (by simp [je.l0])
      | succ k2 =>
       have H:=HA.out
       clear HA
       simp only [je.l0] at H
       by_cases c33:x6_2<(t665.length:Int)
       ·rw [if_pos c33] at H
        have c33b0:decide (x6_2<(t665.length:Int))=true:=dzT c33
        clear c33
        have HC34:=am H
        clear H
        obtain ⟨Ao35,co35,eo35⟩:=Kd.jaa HO_5.out
        subst eo35
        go_upto_region 10 with (fail)
        repeat (go_quiet (fail);go_upto_region 10 with (fail))
        go_cut [63] (fun v63 wc=>∃ (kq:Nat) (x63_33:Bool),v63=.bool x63_33∧jl (je.j2 kq t661 t665 x6_2 x63_33=some r)∧jl (kq≤k2)∧jl (Kd.Q k59 59 wc w.heap.size (fun _=>True) (.slice Ao10 t661.length co10) t661)∧jl (Kd.R k48 48 wc w.heap.size (fun _=>True) (.slice Ao35 t665.length co35) t665)∧jl (Kd.R k98 98 wc w.heap.size (fun _=>True) (.slice Ao8 t658.length co8) t658)∧jl (wc.heap[gb664]?=some (.cells #[(.slice Ao8 t658.length co8)] 32 (0,0)))∧jl (Below w.heap.size w wc))
        case first =>
         have H:=HC34.out
         clear HC34
         by_cases c36:0≤x6_2
         ·rw [if_pos c36] at H
          have c36b0:decide (0≤x6_2)=true:=dzT c36
          clear c36
          (first | rw [c36b0] |(simp only [jeb,jhb];rw [c36b0]) | skip)
          by_cases c37:((jna t665 x6_2).f0)≥((jna t665 x6_2).f1)
          ·rw [if_pos c37] at H
           have c37b0:decide (((jna t665 x6_2).f1)≤((jna t665 x6_2).f0))=true:=dzT c37
           clear c37
           have H':=am H
           clear H
           have p677:0≤(x6_2:Int):=ozD (uq)
           have q677:x6_2<(t665.length:Int):=ozD (uq)
           obtain ⟨ad677,e677,hx677_0,hx677_1,hx677_2,hx677_3⟩:=jzb (Kd.jm HO_5.out).2.2 x6_2 p677 q677
           cases e677
           replace p677:=ezT p677
           replace q677:=ezT q677
           have p678:0≤(x6_2:Int):=ozD (uq)
           have q678:x6_2<(t665.length:Int):=ozD (uq)
           obtain ⟨ad678,e678,hx678_0,hx678_1,hx678_2,hx678_3⟩:=jzb (Kd.jm HO_5.out).2.2 x6_2 p678 q678
           obtain rfl:ad677=ad678:=(by injection e678)
           replace p678:=ezT p678
           replace q678:=ezT q678
           go_wp2
           repeat (go_quiet (fail);try go_wp2)
           go_meet
           case rel=>exact ⟨_,(true),(sq),H',⟨by have:=HJ4.out;have:=HK2.out;first | omega | exact Nat.le_refl _⟩,⟨by (with_reducible repeat (first | apply Kd.jIb | apply Kd.jHb | apply Kd.jYb));exact HO_4.out⟩,⟨rq HO_5.out⟩,⟨rq HO_665000.out⟩,⟨kq BK664.out⟩,⟨Y9⟩⟩
          ·rw [if_neg c37] at H
           have c37b0:decide (((jna t665 x6_2).f1)≤((jna t665 x6_2).f0))=false:=dzF c37
           clear c37
           have H':=am H
           clear H
           have p677:0≤(x6_2:Int):=ozD (uq)
           have q677:x6_2<(t665.length:Int):=ozD (uq)
           obtain ⟨ad677,e677,hx677_0,hx677_1,hx677_2,hx677_3⟩:=jzb (Kd.jm HO_5.out).2.2 x6_2 p677 q677
           cases e677
           replace p677:=ezT p677
           replace q677:=ezT q677
           have p678:0≤(x6_2:Int):=ozD (uq)
           have q678:x6_2<(t665.length:Int):=ozD (uq)
           obtain ⟨ad678,e678,hx678_0,hx678_1,hx678_2,hx678_3⟩:=jzb (Kd.jm HO_5.out).2.2 x6_2 p678 q678
           obtain rfl:ad677=ad678:=(by injection e678)
           replace p678:=ezT p678
           replace q678:=ezT q678
           have p679:0≤(x6_2:Int):=ozD (uq)
           have q679:x6_2<(t665.length:Int):=ozD (uq)
           obtain ⟨ad679,e679,hx679_0,hx679_1,hx679_2,hx679_3⟩:=jzb (Kd.jm HO_5.out).2.2 x6_2 p679 q679
           obtain rfl:ad677=ad679:=(by injection e679)
           replace p679:=ezT p679
           replace q679:=ezT q679
           go_wp2
           repeat (go_quiet (fail);try go_wp2)
           go_meet
           case rel=>exact ⟨_,(decide (((jna t665 x6_2).f1) > (t661.length:Int))),(sq),H',⟨by have:=HJ4.out;have:=HK2.out;first | omega | exact Nat.le_refl _⟩,⟨by (with_reducible repeat (first | apply Kd.jIb | apply Kd.jHb | apply Kd.jYb));exact HO_4.out⟩,⟨rq HO_5.out⟩,⟨rq HO_665000.out⟩,⟨kq BK664.out⟩,⟨Y9⟩⟩
         ·rw [if_neg c36] at H
          exact absurd H (by simp)
        case rest =>
         clear HC34
         try clear c1
         try clear c2
         try clear c2b0
         try clear c2b1
         try clear p2
         try clear c3
         try clear c4
         try clear p6
         try clear q6
         try clear hx6
         try clear c14
         try clear c26
         try clear c33
         try clear c33b0
         try clear c36
         try clear c36b0
         try clear c37
         try clear c37b0
         try clear hcz16_0
         try clear hcz20_0
         try clear hcz22_0
         try clear hcz29_0
         try clear hcz9_0
         try clear hfz16_0
         try clear hfz20_0
         try clear hfz22_0
         try clear hfz29_0
         try clear hfz9_0
         try clear hx677_0
         try clear hx677_1
         try clear hx677_2
         try clear hx677_3
         try clear hx678_0
         try clear hx678_1
         try clear hx678_2
         try clear hx678_3
         try clear hx679_0
         try clear hx679_1
         try clear hx679_2
         try clear hx679_3
         try clear p2
         try clear p677
         try clear p678
         try clear p679
         try clear q677
         try clear q678
         try clear q679
         obtain ⟨kq,x63_33,rfl,HA,HJ33,HO_4,HO_5,HO_665000,BK664,HB⟩:=hcut
         cases kq with
         | zero=>exact absurd HA.out (by simp [je.j2])
         | succ kj33 =>
          have H:=HA.out
          clear HA
          simp only [je.j2] at H
          by_cases c38:x63_33=true
          ·subst c38
           have H1:(some false)=some r:=by rw [if_pos rfl] at H;exact H
           clear H
           have H:=H1
           clear H1
           exact absurd ((Option.some.inj H).trans hT) Bool.false_ne_true
          ·replace c38:=Bool.eq_false_iff.mpr c38
           subst c38
           have H1:(je.l1 kj33 t661 t665 x6_2 0)=some r:=by rw [if_neg (show ¬ (false=true) by decide)] at H;exact H
           clear H
           have H:=H1
           clear H1
           have H':=am H
           clear H
           go_wp2
           repeat (go_quiet (fail);try go_wp2)
           go_loopg [7] kj33 (fun kq v7 w'=>∃ (x7_4:Int),v7=.int .i64 x7_4∧jl (je.l1 kq t661 t665 x6_2 x7_4=some r)∧jl (kq≤kj33)∧jl (Kd.Q k59 59 w' w.heap.size (fun _=>True) (.slice Ao10 t661.length co10) t661)∧jl (Kd.R k48 48 w' w.heap.size (fun _=>True) (.slice Ao35 t665.length co35) t665)∧jl (Kd.R k98 98 w' w.heap.size (fun _=>True) (.slice Ao8 t658.length co8) t658)∧jl (w'.heap[gb664]?=some (.cells #[(.slice Ao8 t658.length co8)] 32 (0,0)))∧jl (Below w.heap.size w w'))
           case atStart=>exact ⟨(0),(sq),H',⟨Nat.le_refl _⟩,⟨by (with_reducible repeat (first | apply Kd.jIb | apply Kd.jHb | apply Kd.jYb));exact HO_4.out⟩,⟨rq HO_5.out⟩,⟨rq HO_665000.out⟩,⟨kq BK664.out⟩,⟨Y9⟩⟩
           case round =>
            clear H'
            try clear c1
            try clear c2
            try clear c2b0
            try clear c2b1
            try clear p2
            try clear c3
            try clear c4
            try clear p6
            try clear q6
            try clear hx6
            try clear c14
            try clear c26
            try clear c33
            try clear c33b0
            try clear c36
            try clear c36b0
            try clear c37
            try clear c37b0
            try clear c38
            try clear hcz16_0
            try clear hcz20_0
            try clear hcz22_0
            try clear hcz29_0
            try clear hcz9_0
            try clear hfz16_0
            try clear hfz20_0
            try clear hfz22_0
            try clear hfz29_0
            try clear hfz9_0
            try clear hx677_0
            try clear hx677_1
            try clear hx677_2
            try clear hx677_3
            try clear hx678_0
            try clear hx678_1
            try clear hx678_2
            try clear hx678_3
            try clear hx679_0
            try clear hx679_1
            try clear hx679_2
            try clear hx679_3
            try clear p2
            try clear p6
            try clear p677
            try clear p678
            try clear p679
            try clear q6
            try clear q677
            try clear q678
            try clear q679
            obtain ⟨x7_4,rfl,HA,HK4,HO_4,HO_5,HO_665000,BK664,HB⟩:=hrel
            cases gk with
            | zero=>exact absurd HA.out (by simp [je.l1])
            | succ k4 =>
             have H:=HA.out
             clear HA
             simp only [je.l1] at H
             by_cases c39:x7_4<x6_2
             ·rw [if_pos c39] at H
              have c39b0:decide (x7_4<x6_2)=true:=dzT c39
              clear c39
              by_cases c40:0≤x7_4
              ·rw [if_pos c40] at H
               have c40b0:decide (0≤x7_4)=true:=dzT c40
               clear c40
               by_cases c41:x7_4<(t665.length:Int)
               ·rw [if_pos c41] at H
                have c41b0:decide (x7_4<(t665.length:Int))=true:=dzT c41
                clear c41
                by_cases c42:0≤x6_2
                ·rw [if_pos c42] at H
                 have c42b0:decide (0≤x6_2)=true:=dzT c42
                 clear c42
                 by_cases c43:x6_2<(t665.length:Int)
                 ·rw [if_pos c43] at H
                  have c43b0:decide (x6_2<(t665.length:Int))=true:=dzT c43
                  clear c43
                  by_cases c44:((jna t665 x7_4).f0)≥((jna t665 x6_2).f1)
                  ·rw [if_pos c44] at H
                   have c44b0:decide (((jna t665 x6_2).f1)≤((jna t665 x7_4).f0))=true:=dzT c44
                   clear c44
                   by_cases c45:((jna t665 x7_4).f0)<((jna t665 x6_2).f0)
                   ·rw [if_pos c45] at H
                    have c45b0:decide (((jna t665 x7_4).f0)<((jna t665 x6_2).f0))=true:=dzT c45
                    clear c45
                    exact absurd ((Option.some.inj H).trans hT) Bool.false_ne_true
                   ·rw [if_neg c45] at H
                    have c45b0:decide (((jna t665 x7_4).f0)<((jna t665 x6_2).f0))=false:=dzF c45
                    clear c45
                    have H':=am H
                    clear H
                    have p680:0≤(x7_4:Int):=ozD (uq)
                    have q680:x7_4<(t665.length:Int):=ozD (uq)
                    obtain ⟨ad680,e680,hx680_0,hx680_1,hx680_2,hx680_3⟩:=jzb (Kd.jm HO_5.out).2.2 x7_4 p680 q680
                    cases e680
                    replace p680:=ezT p680
                    replace q680:=ezT q680
                    have p681:0≤(x6_2:Int):=ozD (uq)
                    have q681:x6_2<(t665.length:Int):=ozD (uq)
                    obtain ⟨ad681,e681,hx681_0,hx681_1,hx681_2,hx681_3⟩:=jzb (Kd.jm HO_5.out).2.2 x6_2 p681 q681
                    obtain rfl:ad680=ad681:=(by injection e681)
                    replace p681:=ezT p681
                    replace q681:=ezT q681
                    have p684:0≤(x7_4:Int):=ozD (uq)
                    have q684:x7_4<(t665.length:Int):=ozD (uq)
                    obtain ⟨ad684,e684,hx684_0,hx684_1,hx684_2,hx684_3⟩:=jzb (Kd.jm HO_5.out).2.2 x7_4 p684 q684
                    obtain rfl:ad680=ad684:=(by injection e684)
                    replace p684:=ezT p684
                    replace q684:=ezT q684
                    have p685:0≤(x6_2:Int):=ozD (uq)
                    have q685:x6_2<(t665.length:Int):=ozD (uq)
                    obtain ⟨ad685,e685,hx685_0,hx685_1,hx685_2,hx685_3⟩:=jzb (Kd.jm HO_5.out).2.2 x6_2 p685 q685
                    obtain rfl:ad680=ad685:=(by injection e685)
                    replace p685:=ezT p685
                    replace q685:=ezT q685
                    go_wp2
                    repeat (go_quiet (fail);try go_wp2)
                    go_roundg k4
                    case measure=>have:=HJ4.out;have:=HK2.out;have:=HJ33.out;have:=HK4.out;omega
                    case rel=>exact ⟨(wrap64 (x7_4+1)),(sq),H',⟨by have:=HJ4.out;have:=HK2.out;have:=HJ33.out;have:=HK4.out;omega⟩,⟨by (with_reducible repeat (first | apply Kd.jIb | apply Kd.jHb | apply Kd.jYb));exact HO_4.out⟩,⟨rq HO_5.out⟩,⟨rq HO_665000.out⟩,⟨kq BK664.out⟩,⟨Y9⟩⟩
                  ·rw [if_neg c44] at H
                   have c44b0:decide (((jna t665 x6_2).f1)≤((jna t665 x7_4).f0))=false:=dzF c44
                   clear c44
                   have HC46:=am H
                   clear H
                   have p680:0≤(x7_4:Int):=ozD (uq)
                   have q680:x7_4<(t665.length:Int):=ozD (uq)
                   obtain ⟨ad680,e680,hx680_0,hx680_1,hx680_2,hx680_3⟩:=jzb (Kd.jm HO_5.out).2.2 x7_4 p680 q680
                   cases e680
                   replace p680:=ezT p680
                   replace q680:=ezT q680
                   have p681:0≤(x6_2:Int):=ozD (uq)
                   have q681:x6_2<(t665.length:Int):=ozD (uq)
                   obtain ⟨ad681,e681,hx681_0,hx681_1,hx681_2,hx681_3⟩:=jzb (Kd.jm HO_5.out).2.2 x6_2 p681 q681
                   obtain rfl:ad680=ad681:=(by injection e681)
                   replace p681:=ezT p681
                   replace q681:=ezT q681
                   have p682:0≤(x6_2:Int):=ozD (uq)
                   have q682:x6_2<(t665.length:Int):=ozD (uq)
                   obtain ⟨ad682,e682,hx682_0,hx682_1,hx682_2,hx682_3⟩:=jzb (Kd.jm HO_5.out).2.2 x6_2 p682 q682
                   obtain rfl:ad680=ad682:=(by injection e682)
                   replace p682:=ezT p682
                   replace q682:=ezT q682
                   have p683:0≤(x7_4:Int):=ozD (uq)
                   have q683:x7_4<(t665.length:Int):=ozD (uq)
                   obtain ⟨ad683,e683,hx683_0,hx683_1,hx683_2,hx683_3⟩:=jzb (Kd.jm HO_5.out).2.2 x7_4 p683 q683
                   obtain rfl:ad680=ad683:=(by injection e683)
                   replace p683:=ezT p683
                   replace q683:=ezT q683
                   go_upto_region 16 with (fail)
                   repeat (go_quiet (fail);go_upto_region 16 with (fail))
                   generalize hD8:decide (((jna t665 x7_4).f1)≤((jna t665 x6_2).f0))=D8
                   go_cut [120] (fun v120 wc=>∃ (kq:Nat) (x120_45:Bool),v120=.bool x120_45∧jl (je.j4 kq t661 t665 x6_2 x7_4 x120_45=some r)∧jl (kq≤k4)∧jl (Kd.Q k59 59 wc w.heap.size (fun _=>True) (.slice Ao10 t661.length co10) t661)∧jl (Kd.R k48 48 wc w.heap.size (fun _=>True) (.slice (some ad680) t665.length co35) t665)∧jl (Kd.R k98 98 wc w.heap.size (fun _=>True) (.slice Ao8 t658.length co8) t658)∧jl (wc.heap[gb664]?=some (.cells #[(.slice Ao8 t658.length co8)] 32 (0,0)))∧jl (Below w.heap.size w wc))
                   case first =>
                    have H:=HC46.out
                    clear HC46
                    by_cases c47:((jna t665 x7_4).f0)<((jna t665 x6_2).f0)
                    ·rw [if_pos c47] at H
                     have c47b0:decide (((jna t665 x7_4).f0)<((jna t665 x6_2).f0))=true:=dzT c47
                     clear c47
                     (first | rw [c47b0] |(simp only [jeb,jhb];rw [c47b0]) | skip)
                     have H':=am H
                     clear H
                     have p686:0≤(x7_4:Int):=ozD (uq)
                     have q686:x7_4<(t665.length:Int):=ozD (uq)
                     obtain ⟨ad686,e686,hx686_0,hx686_1,hx686_2,hx686_3⟩:=jzb (Kd.jm HO_5.out).2.2 x7_4 p686 q686
                     obtain rfl:ad680=ad686:=(by injection e686)
                     replace p686:=ezT p686
                     replace q686:=ezT q686
                     have p687:0≤(x6_2:Int):=ozD (uq)
                     have q687:x6_2<(t665.length:Int):=ozD (uq)
                     obtain ⟨ad687,e687,hx687_0,hx687_1,hx687_2,hx687_3⟩:=jzb (Kd.jm HO_5.out).2.2 x6_2 p687 q687
                     obtain rfl:ad680=ad687:=(by injection e687)
                     replace p687:=ezT p687
                     replace q687:=ezT q687
                     go_wp2
                     repeat (go_quiet (fail);try go_wp2)
                     go_meet
                     case rel=>exact ⟨_,(true),(sq),H',⟨by have:=HJ4.out;have:=HK2.out;have:=HJ33.out;have:=HK4.out;first | omega | exact Nat.le_refl _⟩,⟨by (with_reducible repeat (first | apply Kd.jIb | apply Kd.jHb | apply Kd.jYb));exact HO_4.out⟩,⟨rq HO_5.out⟩,⟨rq HO_665000.out⟩,⟨kq BK664.out⟩,⟨Y9⟩⟩
                    ·rw [if_neg c47] at H
                     have c47b0:decide (((jna t665 x7_4).f0)<((jna t665 x6_2).f0))=false:=dzF c47
                     clear c47
                     (first | rw [c47b0] |(simp only [jeb,jhb];rw [c47b0]) | skip)
                     by_cases c48:(((jna t665 x6_2).f0)≥((jna t665 x7_4).f1))
                     ·rw [if_pos c48] at H
                      have c48b0:decide (((jna t665 x7_4).f1)≤((jna t665 x6_2).f0))=true:=dzT c48
                      clear c48
                      obtain rfl:true=D8:=c48b0.symm.trans hD8
                      have H':=am H
                      clear H
                      have p686:0≤(x7_4:Int):=ozD (uq)
                      have q686:x7_4<(t665.length:Int):=ozD (uq)
                      obtain ⟨ad686,e686,hx686_0,hx686_1,hx686_2,hx686_3⟩:=jzb (Kd.jm HO_5.out).2.2 x7_4 p686 q686
                      obtain rfl:ad680=ad686:=(by injection e686)
                      replace p686:=ezT p686
                      replace q686:=ezT q686
                      have p687:0≤(x6_2:Int):=ozD (uq)
                      have q687:x6_2<(t665.length:Int):=ozD (uq)
                      obtain ⟨ad687,e687,hx687_0,hx687_1,hx687_2,hx687_3⟩:=jzb (Kd.jm HO_5.out).2.2 x6_2 p687 q687
                      obtain rfl:ad680=ad687:=(by injection e687)
                      replace p687:=ezT p687
                      replace q687:=ezT q687
                      go_wp2
                      repeat (go_quiet (fail);try go_wp2)
                      go_meet
                      case rel=>exact ⟨_,(false),(sq),H',⟨by have:=HJ4.out;have:=HK2.out;have:=HJ33.out;have:=HK4.out;first | omega | exact Nat.le_refl _⟩,⟨by (with_reducible repeat (first | apply Kd.jIb | apply Kd.jHb | apply Kd.jYb));exact HO_4.out⟩,⟨rq HO_5.out⟩,⟨rq HO_665000.out⟩,⟨kq BK664.out⟩,⟨Y9⟩⟩
                     ·rw [if_neg c48] at H
                      have c48b0:decide (((jna t665 x7_4).f1)≤((jna t665 x6_2).f0))=false:=dzF c48
                      clear c48
                      obtain rfl:false=D8:=c48b0.symm.trans hD8
                      have H':=am H
                      clear H
                      have p686:0≤(x7_4:Int):=ozD (uq)
                      have q686:x7_4<(t665.length:Int):=ozD (uq)
                      obtain ⟨ad686,e686,hx686_0,hx686_1,hx686_2,hx686_3⟩:=jzb (Kd.jm HO_5.out).2.2 x7_4 p686 q686
                      obtain rfl:ad680=ad686:=(by injection e686)
                      replace p686:=ezT p686
                      replace q686:=ezT q686
                      have p687:0≤(x6_2:Int):=ozD (uq)
                      have q687:x6_2<(t665.length:Int):=ozD (uq)
                      obtain ⟨ad687,e687,hx687_0,hx687_1,hx687_2,hx687_3⟩:=jzb (Kd.jm HO_5.out).2.2 x6_2 p687 q687
                      obtain rfl:ad680=ad687:=(by injection e687)
                      replace p687:=ezT p687
                      replace q687:=ezT q687
                      have p688:0≤(x7_4:Int):=ozD (uq)
                      have q688:x7_4<(t665.length:Int):=ozD (uq)
                      obtain ⟨ad688,e688,hx688_0,hx688_1,hx688_2,hx688_3⟩:=jzb (Kd.jm HO_5.out).2.2 x7_4 p688 q688
                      obtain rfl:ad680=ad688:=(by injection e688)
                      replace p688:=ezT p688
                      replace q688:=ezT q688
                      have p689:0≤(x6_2:Int):=ozD (uq)
                      have q689:x6_2<(t665.length:Int):=ozD (uq)
                      obtain ⟨ad689,e689,hx689_0,hx689_1,hx689_2,hx689_3⟩:=jzb (Kd.jm HO_5.out).2.2 x6_2 p689 q689
                      obtain rfl:ad680=ad689:=(by injection e689)
                      replace p689:=ezT p689
                      replace q689:=ezT q689
                      go_wp2
                      repeat (go_quiet (fail);try go_wp2)
                      go_meet
                      case rel=>exact ⟨_,(decide (((jna t665 x7_4).f1) > ((jna t665 x6_2).f1))),(sq),H',⟨by have:=HJ4.out;have:=HK2.out;have:=HJ33.out;have:=HK4.out;first | omega | exact Nat.le_refl _⟩,⟨by (with_reducible repeat (first | apply Kd.jIb | apply Kd.jHb | apply Kd.jYb));exact HO_4.out⟩,⟨rq HO_5.out⟩,⟨rq HO_665000.out⟩,⟨kq BK664.out⟩,⟨Y9⟩⟩
                   case rest =>
                    clear HC46
                    try clear c1
                    try clear c2
                    try clear c2b0
                    try clear c2b1
                    try clear p2
                    try clear c3
                    try clear c4
                    try clear p6
                    try clear q6
                    try clear hx6
                    try clear c14
                    try clear c26
                    try clear c33
                    try clear c33b0
                    try clear c36
                    try clear c36b0
                    try clear c37
                    try clear c37b0
                    try clear c38
                    try clear c39
                    try clear c39b0
                    try clear c40
                    try clear c40b0
                    try clear c41
                    try clear c41b0
                    try clear c42
                    try clear c42b0
                    try clear c43
                    try clear c43b0
                    try clear c44
                    try clear c44b0
                    try clear c45
                    try clear c45b0
                    try clear c47
                    try clear c47b0
                    try clear c48
                    try clear c48b0
                    try clear hcz16_0
                    try clear hcz20_0
                    try clear hcz22_0
                    try clear hcz29_0
                    try clear hcz9_0
                    try clear hfz16_0
                    try clear hfz20_0
                    try clear hfz22_0
                    try clear hfz29_0
                    try clear hfz9_0
                    try clear hx677_0
                    try clear hx677_1
                    try clear hx677_2
                    try clear hx677_3
                    try clear hx678_0
                    try clear hx678_1
                    try clear hx678_2
                    try clear hx678_3
                    try clear hx679_0
                    try clear hx679_1
                    try clear hx679_2
                    try clear hx679_3
                    try clear hx680_0
                    try clear hx680_1
                    try clear hx680_2
                    try clear hx680_3
                    try clear hx681_0
                    try clear hx681_1
                    try clear hx681_2
                    try clear hx681_3
                    try clear hx682_0
                    try clear hx682_1
                    try clear hx682_2
                    try clear hx682_3
                    try clear hx683_0
                    try clear hx683_1
                    try clear hx683_2
                    try clear hx683_3
                    try clear hx684_0
                    try clear hx684_1
                    try clear hx684_2
                    try clear hx684_3
                    try clear hx685_0
                    try clear hx685_1
                    try clear hx685_2
                    try clear hx685_3
                    try clear hx686_0
                    try clear hx686_1
                    try clear hx686_2
                    try clear hx686_3
                    try clear hx687_0
                    try clear hx687_1
                    try clear hx687_2
                    try clear hx687_3
                    try clear hx688_0
                    try clear hx688_1
                    try clear hx688_2
                    try clear hx688_3
                    try clear hx689_0
                    try clear hx689_1
                    try clear hx689_2
                    try clear hx689_3
                    try clear p2
                    try clear p6
                    try clear p677
                    try clear p678
                    try clear p679
                    try clear p680
                    try clear p681
                    try clear p682
                    try clear p683
                    try clear p684
                    try clear p685
                    try clear p686
                    try clear p687
                    try clear p688
                    try clear p689
                    try clear q6
                    try clear q677
                    try clear q678
                    try clear q679
                    try clear q680
                    try clear q681
                    try clear q682
                    try clear q683
                    try clear q684
                    try clear q685
                    try clear q686
                    try clear q687
                    try clear q688
                    try clear q689
                    obtain ⟨kq,x120_45,rfl,HA,HJ45,HO_4,HO_5,HO_665000,BK664,HB⟩:=hcut
                    cases kq with
                    | zero=>exact absurd HA.out (by simp [je.j4])
                    | succ kj45 =>
                     have H:=HA.out
                     clear HA
                     simp only [je.j4] at H
                     by_cases c49:x120_45=true
                     ·subst c49
                      have H1:(some false)=some r:=by rw [if_pos rfl] at H;exact H
                      clear H
                      have H:=H1
                      clear H1
                      exact absurd ((Option.some.inj H).trans hT) Bool.false_ne_true
                     ·replace c49:=Bool.eq_false_iff.mpr c49
                      subst c49
                      have H1:(je.l1 kj45 t661 t665 x6_2 (wrap64 (x7_4+1)))=some r:=by rw [if_neg (show ¬ (false=true) by decide)] at H;exact H
                      clear H
                      have H:=H1
                      clear H1
                      have H':=am H
                      clear H
                      go_wp2
                      repeat (go_quiet (fail);try go_wp2)
                      go_roundg kj45
                      case measure=>have:=HJ4.out;have:=HK2.out;have:=HJ33.out;have:=HK4.out;have:=HJ45.out;omega
                      case rel=>exact ⟨(wrap64 (x7_4+1)),(sq),H',⟨by have:=HJ4.out;have:=HK2.out;have:=HJ33.out;have:=HK4.out;have:=HJ45.out;omega⟩,⟨by (with_reducible repeat (first | apply Kd.jIb | apply Kd.jHb | apply Kd.jYb));exact HO_4.out⟩,⟨rq HO_5.out⟩,⟨rq HO_665000.out⟩,⟨kq BK664.out⟩,⟨Y9⟩⟩
                 ·rw [if_neg c43] at H
                  exact absurd H (by simp)
                ·rw [if_neg c42] at H
                 exact absurd H (by simp)
               ·rw [if_neg c41] at H
                exact absurd H (by simp)
              ·rw [if_neg c40] at H
               exact absurd H (by simp)
             ·rw [if_neg c39] at H
              have c39b0:decide (x7_4<x6_2)=false:=dzF c39
              clear c39
              have H':=am H
              clear H
              go_wp2
              repeat (go_quiet (fail);try go_wp2)
              go_roundg k4
              case measure=>have:=HJ4.out;have:=HK2.out;have:=HJ33.out;have:=HK4.out;omega
              case rel=>exact ⟨(wrap64 (x6_2+1)),(sq),H',⟨by have:=HJ4.out;have:=HK2.out;have:=HJ33.out;have:=HK4.out;omega⟩,⟨by (with_reducible repeat (first | apply Kd.jIb | apply Kd.jHb | apply Kd.jYb));exact HO_4.out⟩,⟨rq HO_5.out⟩,⟨rq HO_665000.out⟩,⟨kq BK664.out⟩,⟨Y9⟩⟩
       ·rw [if_neg c33] at H
        have c33b0:decide (x6_2<(t665.length:Int))=false:=dzF c33
        clear c33
        obtain rfl:=Option.some.inj H
        obtain ⟨Ao50,co50,eo50⟩:=Kd.jaa HO_5.out
        subst eo50
        go_wp2
        repeat (go_quiet (fail);try go_wp2)
        go_ret
        exact ⟨Y0,Y9⟩
def je.Pure : Prop := ∀ (l0 : List Int), l0.length ≤ maxLen → l0.length * 1 ≤ 140737488351232 → (∀ x ∈ l0, (Lit.int .u8 x).wf = true) → ∃ k, je.f k l0 = some true
theorem je.walk (P : je.Pure) (a0 : Option Addr) (len0 cap0 : Nat) (z0 : List Int) (w : World) (w0 : (a0 = none ∧ len0 = 0 ∧ cap0 = 0 ∧ z0 = []) ∨ ∃ x, a0 = some x ∧ len0 ≤ cap0 ∧ cap0 ≤ maxLen ∧ z0.length = cap0 ∧ (∀ i, i < z0.length → w.cell? (x.add i) = some (.int .u8 (z0.getD i 0))) ∧ ∀ n ∈ z0, (Lit.int .u8 n).wf = true) (y0 : len0 * 1 ≤ 140737488351232) :
  Calls Try.prog 4 #[.slice a0 len0 cap0] w fun e w'=>e=.returned (.bool true)∧Below w.heap.size w w':=by
 obtain ⟨l0,rfl,hr0,hm0,hw0,hc0⟩:=jfb.ofRowC w0
 obtain ⟨k,h⟩:=P l0 hm0 y0 hw0
 refine (je.calls k _ _ l0 true w (Kd.C_of_reads (d:=(0:Int)) (h1:=fun _=>rfl) hr0) hc0 rfl h).mono ?_
 rintro e w' ⟨rfl,hd⟩
 exact ⟨rfl,hd⟩
end Go.Proofs.Ytbcjbcjpoddkoaa.P
end
