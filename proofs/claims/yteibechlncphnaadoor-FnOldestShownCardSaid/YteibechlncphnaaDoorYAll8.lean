/- One part of the proofs on this program: functions of the program as plain functions, that the code comes to them, and facts on them. -/
import Derived.Test.YteibechlncphnaaDoorYAll1
import Derived.Test.YteibechlncphnaaDoorYAll5
import Derived.Test.YteibechlncphnaaDoorYAll6
import Derived.Test.YteibechlncphnaaDoorYAll7
import Derived.Test.YteibechlncphnaaDoorYWAuto
section
namespace Go.Proofs.YteibechlncphnaaDoor.P
open Go.RowKit Go.Proofs.YteibechlncphnaaDoorW.PrintWords Go.Proofs.YteibechlncphnaaDoorW.PrintLast Go.Proofs.YteibechlncphnaaDoorW.PrintMore
attribute [local go_sem] jua jsa jDa jCa jia jha jta jra jB
set_option linter.unusedVariables false
set_option linter.unusedSimpArgs false
def jJa.f (l0_0 : List (S66)) : Option ((List (S66))) := (jVa.f l0_0).bind fun t422 => ((jJb.f t422).bind fun t425 => (some t425))
set_option maxHeartbeats 8000000 in
set_option maxRecDepth 100000 in
theorem jJa.calls (A0_0 : Option Addr) (c0_0 : Nat) (l0_0 : List (S66)) (r : List (S66)) (w : World) (hr0_0 : Kd.C k66 w A0_0 l0_0.length l0_0) (hc0_0 : l0_0.length ≤ c0_0) (h : jJa.f l0_0 = some r) :
  Calls Tryd.prog 34 #[.agg #[.slice A0_0 l0_0.length c0_0]] w fun e w'=>∃ v0_:Value,e=.returned (.agg #[v0_])∧Kd.R k66 66 w' w.heap.size (fun _=>True) v0_ r∧Below w.heap.size w w':=by
 have hu28:=Tryd.underlying28
 have HR0_0:=am hr0_0
 have HC0_0:=am hc0_0
 clear hr0_0 hc0_0
 have HB:=am (Below.refl w.heap.size w)
 have H:((jVa.f l0_0).bind fun t422=>((jJb.f t422).bind fun t425=>(some t425)))=some r:=h
 clear h
 replace H:=bzS H
 obtain ⟨t422,A20,H⟩:=H
 replace H:((jJb.f t422).bind fun t425=>(some t425))=some r:=H
 have A2:=am A20
 clear A20
 replace H:=bzS H
 obtain ⟨t425,A30,H⟩:=H
 replace H:(some t425)=some r:=H
 have A3:=am A30
 clear A30
 obtain rfl:=Option.some.inj H
 go_enter Tryd.func34,Tryd.ntmps34
 go_wp2_with (first |((with_reducible refine jC (N:=1) rfl ?_);refine bE (N:=1) (cs:=#[.slice A0_0 l0_0.length c0_0]) (t:=28) ?_;intro gb420 hg w4 hbox hb;have BK420:=am (hbox);have GW420:=am ((Y0:w.heap.size≤gb420));have GE420:=am ((Y0:w.heap.size≤gb420));replace HB:=am (je (bq) hb);clear hb hbox hg) |((with_reducible refine jC (N:=2) rfl ?_);refine bE (N:=2) (cs:=#[.slice none 0 0]) (t:=28) ?_;intro gb421 hg w5 hbox hb;have BK421:=am (hbox);have GW421:=am ((Y180:w.heap.size≤gb421));have GE421:=am ((Y180:w.heap.size≤gb421));have NB420_421:=am ((by rw [hg];exact Nat.ne_of_lt (jaa (g:=gb420) (o:=.cells #[.slice A0_0 l0_0.length c0_0] 28 (0,0)) (kq BK420.out)):gb420≠gb421));have NB421_420:=am ((by rw [hg];exact Nat.ne_of_gt (jaa (g:=gb420) (o:=.cells #[.slice A0_0 l0_0.length c0_0] 28 (0,0)) (kq BK420.out)):gb421≠gb420));replace BK420:=am (jc (g:=gb420) (o:=.cells #[.slice A0_0 l0_0.length c0_0] 28 (0,0)) (kq BK420.out) hb);replace HB:=am (je (by repeat (first |(with_reducible first | exact HB.out | apply jr | apply jo | apply jq | refine jl ?_ GE420.out) | exact HB.out)) hb);clear hb hbox hg;have hnb6:=NB420_421.out;have hnc6:=NB421_420.out;have hcz7_0:=bc0 BK420.out;have hfz7_0:=jb BK420.out 0) |((with_reducible refine jw (f:=46) rfl ?_);refine gL (some 5) Tryd.func46 #[.slice A0_0 l0_0.length c0_0] ?_;(with_reducible refine (jVa.calls _ _ l0_0 t422 _ ?side1 ?side2 A2.out).mono ?_);(case side1=>exact cq (Kd.jT HR0_0.out HB.out));(case side2=>exact HC0_0.out);rintro e w8 ⟨v423,rfl,ho0,hb⟩;refine ⟨_,rfl,?_⟩;have HO424:=am (Kd.jfa ho0 (jI (Y114)));replace BK420:=am (jc (g:=gb420) (o:=.cells #[.slice A0_0 l0_0.length c0_0] 28 (0,0)) (kq BK420.out) hb);replace BK421:=am (jc (g:=gb421) (o:=.cells #[.slice none 0 0] 28 (0,0)) (kq BK421.out) hb);replace HB:=am (je (Y114) hb);(try clear hb);(try clear hb2);(try clear hk);(try clear hi);(try clear ho0);obtain ⟨Ao9,co9,eo9⟩:=Kd.jX HO424.out;subst eo9) |((with_reducible refine jw (f:=47) rfl ?_);refine gL (some 6) Tryd.func47 #[.slice Ao9 t422.length co9] ?_;(with_reducible refine (jJb.calls (fun k_=>some k_=(.slice Ao9 t422.length co9:Value).ownBlock) (.slice Ao9 t422.length co9) t422 t425 w _ ?side1 ?side2 A3.out).mono ?_);(case side1=>exact Y114);(case side2=>exact Kd.R_tight rfl HO424.out);rintro e w10 ⟨v426,rfl,ho0,hb,hkp⟩;refine ⟨_,rfl,?_⟩;have n0_:=am (blk_kept (kq BK420.out) hkp (fun hs_=>(fun e_=>(Kd.R_ne HO424.out BK420.out (by decide)) e_) hs_));have n1_:=am (blk_kept (kq BK421.out) hkp (fun hs_=>(fun e_=>(Kd.R_ne HO424.out BK421.out (by decide)) e_) hs_));have n2_:=am (Kd.jH (ok':=fun k_=>True) ho0 (fun k_ hk_=>trivial));have n3_:=am (hb);clear BK420 BK421 HB HO424;have BK420:=n0_;have BK421:=n1_;have HO427:=n2_;have HB:=n3_;clear n0_ n1_ n2_ n3_;(try clear hb);(try clear hkp);(try clear ho0);obtain ⟨Ao11,co11,eo11⟩:=Kd.jX HO427.out;subst eo11;have hcz12_0:=bc0 BK421.out;have hfz12_0:=jb BK421.out 0))
 refine bodyPost_ret (results_cell_row rfl _ _ gb421 28 #[.slice Ao11 t425.length co11] (0,0) _ rfl (by (with_reducible repeat (first | refine jg ?_ _ | refine jf ?_ | refine jh ?_ _));refine jAa (cs:=#[.slice none 0 0]) ?_ 0 _ rfl;(with_reducible repeat (first | refine jg ?_ _ | refine jf ?_ | refine jh ?_ _));exact BK421.out) Tryd.underlying28 rfl (by kernel_rfl)) rfl ?_
 exact ⟨_,Y1,by (with_reducible repeat (first | apply Kd.jU | apply Kd.jY | apply Kd.jW));exact Kd.jH (Kd.jva (p:=⟨gb421,0,none⟩) (Kd.jL HO427.out BK421.out (by decide)) (fun _ hk=>hk.2) (.slice Ao11 t425.length co11)) (fun _ hk=>trivial),Y114⟩
def jYa.f (k : Nat) (l0_0 : List (S99)) (l1_0 : List (S66)) (a2 : Int) (a3 : Bool) : Option ((List (S66)) × Bool) := (jwa.f k l0_0 l1_0 (([a2] : List Int))).bind fun t434 => (if t434 = true then ((jJa.f l1_0).bind fun t435 => (if 0 ≤ a2 then (if a2 < (t435.length : Int) then (some ((t435.set (a2 : Int).toNat (⟨(ja t435 a2).f0, (ja t435 a2).f1, (ja t435 a2).f2, (ja t435 a2).f3, a3⟩ : S66)), true)) else (none)) else (none))) else (some (([] : List (S66)), false)))
set_option maxHeartbeats 8000000 in
set_option maxRecDepth 100000 in
theorem jYa.calls (k : Nat) (A0_0 : Option Addr) (c0_0 : Nat) (l0_0 : List (S99)) (A1_0 : Option Addr) (c1_0 : Nat) (l1_0 : List (S66)) (a2 : Int) (a3 : Bool) (r1 : List (S66)) (r2 : Bool) (w : World) (hr0_0 : Kd.C k99 w A0_0 l0_0.length l0_0) (hc0_0 : l0_0.length ≤ c0_0) (hr1_0 : Kd.C k66 w A1_0 l1_0.length l1_0) (hc1_0 : l1_0.length ≤ c1_0) (h : jYa.f k l0_0 l1_0 a2 a3 = some (r1, r2)) :
  Calls Tryd.prog 12 #[.agg #[.slice A0_0 l0_0.length c0_0], .agg #[.slice A1_0 l1_0.length c1_0], .int .i64 a2, .bool a3] w fun e w'=>∃ v0_:Value,e=.returned (.tuple #[.agg #[v0_], .bool r2])∧Kd.R k66 66 w' w.heap.size (fun _=>True) v0_ r1∧Below w.heap.size w w':=by
 have hu25:=Tryd.underlying25
 have hu28:=Tryd.underlying28
 have HR0_0:=am hr0_0
 have HC0_0:=am hc0_0
 clear hr0_0 hc0_0
 have HR1_0:=am hr1_0
 have HC1_0:=am hc1_0
 clear hr1_0 hc1_0
 have HB:=am (Below.refl w.heap.size w)
 have H:((jwa.f k l0_0 l1_0 (([a2]:List Int))).bind fun t434=>(if t434=true then ((jJa.f l1_0).bind fun t435=>(if 0≤a2 then (if a2<(t435.length:Int) then (some ((t435.set (a2:Int).toNat (⟨(ja t435 a2).f0,(ja t435 a2).f1,(ja t435 a2).f2,(ja t435 a2).f3,a3⟩:S66)),true)) else (none)) else (none))) else (some (([]:List (S66)),false))))=some (r1,r2):=h
 clear h
 obtain ⟨y431,hy431⟩:∃ y_:List Int,y_=(([a2]:List Int)):=⟨_,rfl⟩
 replace H:((jwa.f k l0_0 l1_0 y431).bind fun t434=>(if t434=true then ((jJa.f l1_0).bind fun t435=>(if 0≤a2 then (if a2<(t435.length:Int) then (some ((t435.set (a2:Int).toNat (⟨(ja t435 a2).f0,(ja t435 a2).f1,(ja t435 a2).f2,(ja t435 a2).f3,a3⟩:S66)),true)) else (none)) else (none))) else (some (([]:List (S66)),false))))=some (r1,r2):=by first |(rw [hy431];with_reducible exact H) |(have H2_:=(Option.bind_some _ _).symm.trans H;rw [hy431];with_reducible exact H2_) |(have H2_:=(Option.bind_some _ _).symm.trans H;with_reducible exact H2_) | with_reducible exact H |(rw [hy431];exact H) | exact H
 have Ny431:=am hy431
 clear hy431
 replace H:=bzS H
 obtain ⟨t434,A50,H⟩:=H
 replace H:(if t434=true then ((jJa.f l1_0).bind fun t435=>(if 0≤a2 then (if a2<(t435.length:Int) then (some ((t435.set (a2:Int).toNat (⟨(ja t435 a2).f0,(ja t435 a2).f1,(ja t435 a2).f2,(ja t435 a2).f3,a3⟩:S66)),true)) else (none)) else (none))) else (some (([]:List (S66)),false)))=some (r1,r2):=H
 have A5:=am A50
 clear A50
 by_cases c6:t434=true
 ·subst c6
  have H1:((jJa.f l1_0).bind fun t435=>(if 0≤a2 then (if a2<(t435.length:Int) then (some ((t435.set (a2:Int).toNat (⟨(ja t435 a2).f0,(ja t435 a2).f1,(ja t435 a2).f2,(ja t435 a2).f3,a3⟩:S66)),true)) else (none)) else (none)))=some (r1,r2):=by rw [if_pos rfl] at H;exact H
  clear H
  have H:=H1
  clear H1
  replace H:=bzS H
  obtain ⟨t435,A70,H⟩:=H
  replace H:(if 0≤a2 then (if a2<(t435.length:Int) then (some ((t435.set (a2:Int).toNat (⟨(ja t435 a2).f0,(ja t435 a2).f1,(ja t435 a2).f2,(ja t435 a2).f3,a3⟩:S66)),true)) else (none)) else (none))=some (r1,r2):=H
  have A7:=am A70
  clear A70
  by_cases c8:0≤a2
  ·rw [if_pos c8] at H
   have c8b0:decide (0≤a2)=true:=dzT c8
   clear c8
   by_cases c9:a2<(t435.length:Int)
   ·rw [if_pos c9] at H
    have c9b0:decide (a2<(t435.length:Int))=true:=dzT c9
    clear c9
    obtain ⟨y439,hy439⟩:∃ y_:List (S66),y_=(t435.set (a2:Int).toNat (⟨(ja t435 a2).f0,(ja t435 a2).f1,(ja t435 a2).f2,(ja t435 a2).f3,a3⟩:S66)):=⟨_,rfl⟩
    replace H:(some (y439,true))=some (r1,r2):=by first |(rw [hy439];with_reducible exact H) |(have H2_:=(Option.bind_some _ _).symm.trans H;rw [hy439];with_reducible exact H2_) |(have H2_:=(Option.bind_some _ _).symm.trans H;with_reducible exact H2_) | with_reducible exact H |(rw [hy439];exact H) | exact H
    have Ny439:=am hy439
    clear hy439
    simp only [Option.some.injEq,Prod.mk.injEq] at H
    obtain ⟨rfl,rfl⟩:=H
    go_enter Tryd.func12,Tryd.ntmps12
    go_wp2_with (first |((with_reducible refine jC (N:=4) rfl ?_);refine bE (N:=4) (cs:=#[.slice A0_0 l0_0.length c0_0]) (t:=25) ?_;intro gb428 hg w11 hbox hb;have BK428:=am (hbox);have GW428:=am ((Y0:w.heap.size≤gb428));have GE428:=am ((Y0:w.heap.size≤gb428));replace HB:=am (je (bq) hb);clear hb hbox hg) |((with_reducible refine jC (N:=5) rfl ?_);refine bE (N:=5) (cs:=#[.slice A1_0 l1_0.length c1_0]) (t:=28) ?_;intro gb429 hg w12 hbox hb;have BK429:=am (hbox);have GW429:=am ((Y115:w.heap.size≤gb429));have GE429:=am ((Y115:w.heap.size≤gb429));have NB428_429:=am ((Y95:gb428≠gb429));have NB429_428:=am ((Y96:gb429≠gb428));replace BK428:=am (jc (g:=gb428) (o:=.cells #[.slice A0_0 l0_0.length c0_0] 25 (0,0)) (kq BK428.out) hb);replace HB:=am (je (Y181) hb);clear hb hbox hg) |((with_reducible refine jC (N:=8) rfl ?_);refine bE (N:=8) (cs:=#[.slice none 0 0]) (t:=28) ?_;intro gb430 hg w13 hbox hb;have BK430:=am (hbox);have GW430:=am ((Y116:w.heap.size≤gb430));have GE430:=am ((Y116:w.heap.size≤gb430));have NB428_430:=am ((Y95:gb428≠gb430));have NB430_428:=am ((Y96:gb430≠gb428));have NB429_430:=am ((Y143:gb429≠gb430));have NB430_429:=am ((Y144:gb430≠gb429));replace BK428:=am (jc (g:=gb428) (o:=.cells #[.slice A0_0 l0_0.length c0_0] 25 (0,0)) (kq BK428.out) hb);replace BK429:=am (jc (g:=gb429) (o:=.cells #[.slice A1_0 l1_0.length c1_0] 28 (0,0)) (kq BK429.out) hb);replace HB:=am (je (Y182) hb);clear hb hbox hg;have hnb14:=NB428_429.out;have hnc14:=NB429_428.out;have hnb15:=NB428_430.out;have hnc15:=NB430_428.out;have hcz16_0:=bc0 BK428.out;have hfz16_0:=jb BK428.out 0;have hnb17:=NB429_430.out;have hnc17:=NB430_429.out;have hcz18_0:=bc0 BK429.out;have hfz18_0:=jb BK429.out 0) |((with_reducible refine jC (N:=14) rfl ?_);refine Kd.jrc (Kd.int .i64) _ 3 ?hg (N:=14) ?hd (xs:=([a2]:List Int)) (inner:=[.int .i64 a2]) (ok:=fun _=>True) (okp:=fun _=>True) ?hr ?hp (fun _ hk=>hk) trivial (Below.refl _ _) (Nat.le_refl _) (by simp) ?_;(case hd=>rfl);(case hg=>rfl);(case hr=>exact Y3);(case hp=>exact (Reps.one (show Kd.M (Kd.int .i64) _ _ _ a2 [.int .i64 a2] from rfl) (Reps.none _ _)));intro v432 w19 ho20 hb hg_ hnew_;clear hg_ hnew_;(first | rw [← Ny431.out] at ho20 |(simp only [Int.reduceToNat] at ho20;rw [← Ny431.out] at ho20));have HO433:=am (Kd.jfa ho20 (jI (Y40)));replace BK428:=am (jc (g:=gb428) (o:=.cells #[.slice A0_0 l0_0.length c0_0] 25 (0,0)) (kq BK428.out) hb);replace BK429:=am (jc (g:=gb429) (o:=.cells #[.slice A1_0 l1_0.length c1_0] 28 (0,0)) (kq BK429.out) hb);replace BK430:=am (jc (g:=gb430) (o:=.cells #[.slice none 0 0] 28 (0,0)) (kq BK430.out) hb);replace HB:=am (je (Y40) hb);clear hb ho20;obtain ⟨Ao21,co21,eo21⟩:=Kd.jX HO433.out;subst eo21) |((with_reducible refine jw (f:=28) rfl ?_);refine gL (some 15) Tryd.func28 #[.agg #[.slice A0_0 l0_0.length c0_0], .agg #[.slice A1_0 l1_0.length c1_0], .slice Ao21 y431.length co21] ?_;(with_reducible refine (jwa.calls k _ _ l0_0 _ _ l1_0 _ _ y431 true _ ?side1 ?side2 ?side3 ?side4 ?side5 ?side6 A5.out).mono ?_);(case side1=>exact cq (Kd.jT HR0_0.out HB.out));(case side2=>exact HC0_0.out);(case side3=>exact cq (Kd.jT HR1_0.out HB.out));(case side4=>exact HC1_0.out);(case side5=>exact cq (Kd.jA HO433.out).2.2);(case side6=>exact (Kd.jA HO433.out).2.1);rintro e w22 ⟨rfl,hb⟩;refine ⟨_,rfl,?_⟩;replace HO433:=am (Kd.jM (rq HO433.out) hb);replace BK428:=am (jc (g:=gb428) (o:=.cells #[.slice A0_0 l0_0.length c0_0] 25 (0,0)) (kq BK428.out) hb);replace BK429:=am (jc (g:=gb429) (o:=.cells #[.slice A1_0 l1_0.length c1_0] 28 (0,0)) (kq BK429.out) hb);replace BK430:=am (jc (g:=gb430) (o:=.cells #[.slice none 0 0] 28 (0,0)) (kq BK430.out) hb);replace HB:=am (je (Y40) hb);(try clear hb);(try clear hb2);(try clear hk);(try clear hi);have hcz23_0:=bc0 BK429.out;have hfz23_0:=jb BK429.out 0) |((with_reducible refine jw (f:=34) rfl ?_);refine gL (some 19) Tryd.func34 #[.agg #[.slice A1_0 l1_0.length c1_0]] ?_;(with_reducible refine (jJa.calls _ _ l1_0 t435 _ ?side1 ?side2 A7.out).mono ?_);(case side1=>exact cq (Kd.jT HR1_0.out HB.out));(case side2=>exact HC1_0.out);rintro e w24 ⟨v436,rfl,ho0,hb⟩;refine ⟨_,rfl,?_⟩;have HO437:=am (Kd.jfa ho0 (jI (Y40)));replace HO433:=am (Kd.jM (rq HO433.out) hb);replace BK428:=am (jc (g:=gb428) (o:=.cells #[.slice A0_0 l0_0.length c0_0] 25 (0,0)) (kq BK428.out) hb);replace BK429:=am (jc (g:=gb429) (o:=.cells #[.slice A1_0 l1_0.length c1_0] 28 (0,0)) (kq BK429.out) hb);replace BK430:=am (jc (g:=gb430) (o:=.cells #[.slice none 0 0] 28 (0,0)) (kq BK430.out) hb);replace HB:=am (je (Y40) hb);(try clear hb);(try clear hb2);(try clear hk);(try clear hi);(try clear ho0)) |((with_reducible refine jC (N:=10) rfl ?_);refine bE (N:=10) (cs:=#[.slice none 0 0]) (t:=28) ?_;intro gb438 hg w25 hbox hb;have BK438:=am (hbox);have GW438:=am ((Y183:w.heap.size≤gb438));have GE438:=am ((Y183:w.heap.size≤gb438));have NB428_438:=am ((Y95:gb428≠gb438));have NB438_428:=am ((Y96:gb438≠gb428));have NB429_438:=am ((Y143:gb429≠gb438));have NB438_429:=am ((Y144:gb438≠gb429));have NB430_438:=am ((by rw [hg];exact Nat.ne_of_lt (jaa (g:=gb430) (o:=.cells #[.slice none 0 0] 28 (0,0)) (kq BK430.out)):gb430≠gb438));have NB438_430:=am ((by rw [hg];exact Nat.ne_of_gt (jaa (g:=gb430) (o:=.cells #[.slice none 0 0] 28 (0,0)) (kq BK430.out)):gb438≠gb430));replace HO433:=am (Kd.jM (rq HO433.out) hb);replace HO437:=am (Kd.jM (rq HO437.out) hb);replace BK428:=am (jc (g:=gb428) (o:=.cells #[.slice A0_0 l0_0.length c0_0] 25 (0,0)) (kq BK428.out) hb);replace BK429:=am (jc (g:=gb429) (o:=.cells #[.slice A1_0 l1_0.length c1_0] 28 (0,0)) (kq BK429.out) hb);replace BK430:=am (jc (g:=gb430) (o:=.cells #[.slice none 0 0] 28 (0,0)) (kq BK430.out) hb);replace HB:=am (je (Y40) hb);clear hb hbox hg;obtain ⟨Ao26,co26,eo26⟩:=Kd.jX HO437.out;subst eo26;have hnb27:=NB438_428.out;have hnc27:=NB428_438.out;have hnb28:=NB438_429.out;have hnc28:=NB429_438.out;have hnb29:=NB438_430.out;have hnc29:=NB430_438.out;have hcz30_0:=bc0 BK438.out;have hfz30_0:=jb BK438.out 0) |((with_reducible refine jcc (t:=28) (p:=10) rfl ?_);refine jQb (t:=28) (p:=10) (v:=?vo_w31) (w1:=(w25.setCell ⟨gb438,0,none⟩ (.slice Ao26 t435.length co26))) ?hg ?ho ?hn ?hr ?_;(case ho=>rfl);(case hg=>rfl);(case hn=>rfl);(case hr=>exact Y3);intro w31 hw;have n0_:jD (Kd.R (Kd.int .i64) 3 w31 w.heap.size (fun _=>True) (.slice Ao21 y431.length co21) y431):=⟨(by rw [hw];exact (by (with_reducible repeat (first | apply Kd.jU | apply Kd.jY | apply Kd.jW));exact Kd.jH (Kd.jva (p:=⟨gb438,0,none⟩) (Kd.jL HO433.out BK438.out (by decide)) (fun _ hk=>hk.2) (.slice Ao26 t435.length co26)) (fun _ hk=>trivial)))⟩;have n1_:jD (Kd.R k66 66 w31 w.heap.size (fun _=>True) (.slice Ao26 t435.length co26) t435):=⟨(by rw [hw];exact (by (with_reducible repeat (first | apply Kd.jU | apply Kd.jY | apply Kd.jW));exact Kd.jH (Kd.jva (p:=⟨gb438,0,none⟩) (Kd.jL HO437.out BK438.out (by decide)) (fun _ hk=>hk.2) (.slice Ao26 t435.length co26)) (fun _ hk=>trivial)))⟩;have n2_:jD (w31.heap[gb428]?=some (.cells #[.slice A0_0 l0_0.length c0_0] 25 (0,0))):=⟨(by rw [hw];exact (by (with_reducible repeat (first | refine jg ?_ _ | refine jf ?_ | refine jh ?_ _));refine jV ?_ NB428_438.out _;(with_reducible repeat (first | refine jg ?_ _ | refine jf ?_ | refine jh ?_ _));exact BK428.out))⟩;have n3_:jD (w31.heap[gb429]?=some (.cells #[.slice A1_0 l1_0.length c1_0] 28 (0,0))):=⟨(by rw [hw];exact (by (with_reducible repeat (first | refine jg ?_ _ | refine jf ?_ | refine jh ?_ _));refine jV ?_ NB429_438.out _;(with_reducible repeat (first | refine jg ?_ _ | refine jf ?_ | refine jh ?_ _));exact BK429.out))⟩;have n4_:jD (w31.heap[gb430]?=some (.cells #[.slice none 0 0] 28 (0,0))):=⟨(by rw [hw];exact (by (with_reducible repeat (first | refine jg ?_ _ | refine jf ?_ | refine jh ?_ _));refine jV ?_ NB430_438.out _;(with_reducible repeat (first | refine jg ?_ _ | refine jf ?_ | refine jh ?_ _));exact BK430.out))⟩;have n5_:jD (w31.heap[gb438]?=some (.cells #[.slice Ao26 t435.length co26] 28 (0,0))):=⟨(by rw [hw];exact (by (with_reducible repeat (first | refine jg ?_ _ | refine jf ?_ | refine jh ?_ _));refine jAa (cs:=#[.slice none 0 0]) ?_ 0 _ rfl;(with_reducible repeat (first | refine jg ?_ _ | refine jf ?_ | refine jh ?_ _));exact BK438.out))⟩;have n6_:jD (Below w.heap.size w w31):=⟨(by rw [hw];exact (Y184))⟩;clear hw HO433 HO437 BK428 BK429 BK430 BK438 HB;have HO433:=n0_;have HO437:=n1_;have BK428:=n2_;have BK429:=n3_;have BK430:=n4_;have BK438:=n5_;have HB:=n6_;clear n0_ n1_ n2_ n3_ n4_ n5_ n6_;have hcz32_0:=bc0 BK438.out;have hfz32_0:=jb BK438.out 0;have p10:0≤(a2:Int):=ozD (uq);have q10:(a2:Int)<((t435.length:Int):Int):=ozD (uq);obtain ⟨go10,co10,eo10,gb10,gl10,cl10,HG10⟩:=Kd.jsc HO437.out (by omega);(first | cases eo10 |(injection eo10 with ea_ en_ ec_;(first | subst ea_ |(injection ea_ with ea_;subst ea_));subst ec_;clear en_));have GB10:=am gb10;have GG10:=am HG10;clear gb10 gl10 HG10;obtain ⟨ce10,hcl10,hM10,hcc10,hfr10⟩:=Kd.jxb HO437.out z66 (a2:Int) p10 q10;obtain rfl:=jRa hM10;have hx10_0:w31.cell? ⟨go10,(a2:Int).toNat * 5,none⟩=some (.int .i64 ((ja t435 a2).f0)):=hcc10 0 _ rfl;have hx10_1:w31.cell? ⟨go10,(a2:Int).toNat * 5+1,none⟩=some (.int .i64 ((ja t435 a2).f1)):=hcc10 1 _ rfl;have hx10_2:w31.cell? ⟨go10,(a2:Int).toNat * 5+2,none⟩=some (.int .i64 ((ja t435 a2).f2)):=hcc10 2 _ rfl;have hx10_3:w31.cell? ⟨go10,(a2:Int).toNat * 5+3,none⟩=some (.int .i64 ((ja t435 a2).f3)):=hcc10 3 _ rfl;have hx10_4:w31.cell? ⟨go10,(a2:Int).toNat * 5+4,none⟩=some (.bool ((ja t435 a2).f4)):=hcc10 4 _ rfl;have hf10_0:w31.frozen? ⟨go10,(a2:Int).toNat * 5,none⟩=false:=hfr10 0;have hf10_1:w31.frozen? ⟨go10,(a2:Int).toNat * 5+1,none⟩=false:=hfr10 1;have hf10_2:w31.frozen? ⟨go10,(a2:Int).toNat * 5+2,none⟩=false:=hfr10 2;have hf10_3:w31.frozen? ⟨go10,(a2:Int).toNat * 5+3,none⟩=false:=hfr10 3;have hf10_4:w31.frozen? ⟨go10,(a2:Int).toNat * 5+4,none⟩=false:=hfr10 4;clear hcl10 hcc10 hfr10 hM10;replace p10:=ezT p10;replace q10:=ezT q10;have HX33:=am (show Kd.R k66 66 w31 w.heap.size (fun _=>True) (.slice (some ⟨go10,0,none⟩) t435.length co26) t435 from (rq HO437.out));obtain ⟨ce33,hcl33,hM33,hcc33,hfr33⟩:=Kd.jxb HX33.out z66 (a2:Int) (ozD (uq)) (by have h_:(a2:Int)<((t435.length:Int):Int):=ozD (uq);first | exact h_ |(have e_:=(Kd.jA HO437.out).1;omega) | simpa using h_);obtain rfl:=jRa hM33;have HP33:=Kd.R_seg HX33.out (a2:Int) (ozD (uq)) (by have h_:(a2:Int)<((t435.length:Int):Int):=ozD (uq);first | exact h_ |(have e_:=(Kd.jA HO437.out).1;omega) | simpa using h_) (seg:=[.bool a3]) (j:=4) hcl33 hcc33 (show 5≤5 from by decide) (x':=(⟨(ja t435 a2).f0,(ja t435 a2).f1,(ja t435 a2).f2,(ja t435 a2).f3,a3⟩:S66)) (jZb _ _ _ (⟨(ja t435 a2).f0,(ja t435 a2).f1,(ja t435 a2).f2,(ja t435 a2).f3,a3⟩:S66) ) (fun _ hk=>hk);have hx33_4:=hcc33 4 _ rfl;(try simp only [show (k66).sz=5 from rfl,Nat.mul_one,Nat.add_zero] at hx33_4);have hf33_4:=hfr33 4;(try simp only [show (k66).sz=5 from rfl,Nat.mul_one,Nat.add_zero] at hf33_4);clear hcl33 hcc33 hfr33 hM33) |((with_reducible refine jcc (t:=4) (p:=25) rfl ?_);refine jQb (t:=4) (p:=25) (v:=?vo_w34) (w1:=(w31.setCell ⟨go10,(a2:Int).toNat * 5+4,none⟩ (.bool a3))) ?hg ?ho ?hn ?hr ?_;(case ho=>rfl);(case hg=>rfl);(case hn=>rfl);(case hr=>exact Y3);intro w34 hw;have hg:w31.grownBy w34 (some go10):=(by rw [hw];exact HP33.2);have hp_:Kd.R k66 66 w34 w.heap.size (fun _=>True) (.slice (some ⟨go10,0,none⟩) t435.length co26) y439:=(by rw [hw,Ny439.out];exact HP33.1);clear HP33;replace BK428:=am (jFa (g:=gb428) (o:=.cells #[.slice A0_0 l0_0.length c0_0] 25 (0,0)) (kq BK428.out) hg (Kd.R_ne HO437.out BK428.out (by decide)));replace BK429:=am (jFa (g:=gb429) (o:=.cells #[.slice A1_0 l1_0.length c1_0] 28 (0,0)) (kq BK429.out) hg (Kd.R_ne HO437.out BK429.out (by decide)));replace BK430:=am (jFa (g:=gb430) (o:=.cells #[.slice none 0 0] 28 (0,0)) (kq BK430.out) hg (Kd.R_ne HO437.out BK430.out (by decide)));replace HO433:=am (Kd.R_over' (v:=(.slice (some ⟨go10,0,none⟩) t435.length co26)) (rq HO433.out) (Kd.R_typed HO437.out) (by decide) hg);replace BK438:=am (jFa (g:=gb438) (o:=.cells #[.slice (some ⟨go10,0,none⟩) t435.length co26] 28 (0,0)) (kq BK438.out) hg (Kd.R_ne HO437.out BK438.out (by decide)));replace HO437:=am (hp_);replace HB:=am ((by rw [hw];exact jl (HB.out) GB10.out:Below w.heap.size w w34));clear hg hw hp_;have hcz35_0:=bc0 BK438.out;have hfz35_0:=jb BK438.out 0;have hcz36_0:=bc0 BK430.out;have hfz36_0:=jb BK430.out 0))
    refine bodyPost_ret (jbc rfl _ _ gb430 28 #[.slice (some ⟨go10,0,none⟩) t435.length co26] (0,0) _ rfl (Y185) Tryd.underlying28 rfl (by kernel_rfl)) rfl ?_
    exact ⟨_,Y1,by (with_reducible repeat (first | apply Kd.jU | apply Kd.jY | apply Kd.jW));exact Kd.jH (Kd.jva (p:=⟨gb430,0,none⟩) (Kd.jL HO437.out BK430.out (by decide)) (fun _ hk=>hk.2) (.slice (some ⟨go10,0,none⟩) t435.length co26)) (fun _ hk=>trivial),Y184⟩
   ·rw [if_neg c9] at H
    exact absurd H (by simp)
  ·rw [if_neg c8] at H
   exact absurd H (by simp)
 ·replace c6:=Bool.eq_false_iff.mpr c6
  subst c6
  have H1:(some (([]:List (S66)),false))=some (r1,r2):=by rw [if_neg (show ¬ (false=true) by decide)] at H;exact H
  clear H
  have H:=H1
  clear H1
  simp only [Option.some.injEq,Prod.mk.injEq] at H
  obtain ⟨rfl,rfl⟩:=H
  go_enter Tryd.func12,Tryd.ntmps12
  go_wp2_with (first |((with_reducible refine jC (N:=4) rfl ?_);refine bE (N:=4) (cs:=#[.slice A0_0 l0_0.length c0_0]) (t:=25) ?_;intro gb428 hg w37 hbox hb;have BK428:=am (hbox);have GW428:=am ((Y0:w.heap.size≤gb428));have GE428:=am ((Y0:w.heap.size≤gb428));replace HB:=am (je (bq) hb);clear hb hbox hg) |((with_reducible refine jC (N:=5) rfl ?_);refine bE (N:=5) (cs:=#[.slice A1_0 l1_0.length c1_0]) (t:=28) ?_;intro gb429 hg w38 hbox hb;have BK429:=am (hbox);have GW429:=am ((Y115:w.heap.size≤gb429));have GE429:=am ((Y115:w.heap.size≤gb429));have NB428_429:=am ((Y95:gb428≠gb429));have NB429_428:=am ((Y96:gb429≠gb428));replace BK428:=am (jc (g:=gb428) (o:=.cells #[.slice A0_0 l0_0.length c0_0] 25 (0,0)) (kq BK428.out) hb);replace HB:=am (je (Y181) hb);clear hb hbox hg) |((with_reducible refine jC (N:=8) rfl ?_);refine bE (N:=8) (cs:=#[.slice none 0 0]) (t:=28) ?_;intro gb430 hg w39 hbox hb;have BK430:=am (hbox);have GW430:=am ((Y116:w.heap.size≤gb430));have GE430:=am ((Y116:w.heap.size≤gb430));have NB428_430:=am ((Y95:gb428≠gb430));have NB430_428:=am ((Y96:gb430≠gb428));have NB429_430:=am ((Y143:gb429≠gb430));have NB430_429:=am ((Y144:gb430≠gb429));replace BK428:=am (jc (g:=gb428) (o:=.cells #[.slice A0_0 l0_0.length c0_0] 25 (0,0)) (kq BK428.out) hb);replace BK429:=am (jc (g:=gb429) (o:=.cells #[.slice A1_0 l1_0.length c1_0] 28 (0,0)) (kq BK429.out) hb);replace HB:=am (je (Y182) hb);clear hb hbox hg;have hnb40:=NB428_429.out;have hnc40:=NB429_428.out;have hnb41:=NB428_430.out;have hnc41:=NB430_428.out;have hcz42_0:=bc0 BK428.out;have hfz42_0:=jb BK428.out 0;have hnb43:=NB429_430.out;have hnc43:=NB430_429.out;have hcz44_0:=bc0 BK429.out;have hfz44_0:=jb BK429.out 0) |((with_reducible refine jC (N:=14) rfl ?_);refine Kd.jrc (Kd.int .i64) _ 3 ?hg (N:=14) ?hd (xs:=([a2]:List Int)) (inner:=[.int .i64 a2]) (ok:=fun _=>True) (okp:=fun _=>True) ?hr ?hp (fun _ hk=>hk) trivial (Below.refl _ _) (Nat.le_refl _) (by simp) ?_;(case hd=>rfl);(case hg=>rfl);(case hr=>exact Y3);(case hp=>exact (Reps.one (show Kd.M (Kd.int .i64) _ _ _ a2 [.int .i64 a2] from rfl) (Reps.none _ _)));intro v432 w45 ho46 hb hg_ hnew_;clear hg_ hnew_;(first | rw [← Ny431.out] at ho46 |(simp only [Int.reduceToNat] at ho46;rw [← Ny431.out] at ho46));have HO433:=am (Kd.jfa ho46 (jI (Y40)));replace BK428:=am (jc (g:=gb428) (o:=.cells #[.slice A0_0 l0_0.length c0_0] 25 (0,0)) (kq BK428.out) hb);replace BK429:=am (jc (g:=gb429) (o:=.cells #[.slice A1_0 l1_0.length c1_0] 28 (0,0)) (kq BK429.out) hb);replace BK430:=am (jc (g:=gb430) (o:=.cells #[.slice none 0 0] 28 (0,0)) (kq BK430.out) hb);replace HB:=am (je (Y40) hb);clear hb ho46;obtain ⟨Ao47,co47,eo47⟩:=Kd.jX HO433.out;subst eo47) |((with_reducible refine jw (f:=28) rfl ?_);refine gL (some 15) Tryd.func28 #[.agg #[.slice A0_0 l0_0.length c0_0], .agg #[.slice A1_0 l1_0.length c1_0], .slice Ao47 y431.length co47] ?_;(with_reducible refine (jwa.calls k _ _ l0_0 _ _ l1_0 _ _ y431 false _ ?side1 ?side2 ?side3 ?side4 ?side5 ?side6 A5.out).mono ?_);(case side1=>exact cq (Kd.jT HR0_0.out HB.out));(case side2=>exact HC0_0.out);(case side3=>exact cq (Kd.jT HR1_0.out HB.out));(case side4=>exact HC1_0.out);(case side5=>exact cq (Kd.jA HO433.out).2.2);(case side6=>exact (Kd.jA HO433.out).2.1);rintro e w48 ⟨rfl,hb⟩;refine ⟨_,rfl,?_⟩;replace HO433:=am (Kd.jM (rq HO433.out) hb);replace BK428:=am (jc (g:=gb428) (o:=.cells #[.slice A0_0 l0_0.length c0_0] 25 (0,0)) (kq BK428.out) hb);replace BK429:=am (jc (g:=gb429) (o:=.cells #[.slice A1_0 l1_0.length c1_0] 28 (0,0)) (kq BK429.out) hb);replace BK430:=am (jc (g:=gb430) (o:=.cells #[.slice none 0 0] 28 (0,0)) (kq BK430.out) hb);replace HB:=am (je (Y40) hb);(try clear hb);(try clear hb2);(try clear hk);(try clear hi);have hcz49_0:=bc0 BK430.out;have hfz49_0:=jb BK430.out 0))
  refine bodyPost_ret (jbc rfl _ _ gb430 28 #[.slice none 0 0] (0,0) _ rfl (Y185) Tryd.underlying28 rfl (by kernel_rfl)) rfl ?_
  exact ⟨_,Y1,Y160,Y40⟩
theorem sc0 {w : World} {b : Nat} {v : Value} {l : List Value} {t : TypeId} (h : w.heap[b]? = some (.cells ⟨v :: l⟩ t (0, 0))) : w.cell? ⟨b, 0, none⟩ = some v := (jG h 0).trans rfl
theorem sc_new (w : World) (v : Value) (t : TypeId) : (w.alloc (.cells #[v] t)).cell? ⟨w.heap.size, 0, none⟩ = some v := by simp
theorem sc_C_one {W : World} {b : Nat} {x : Int} (h : W.cell? ⟨b, 0, none⟩ = some (.int .i64 x)) : Kd.C (Kd.int .i64) W (some ⟨b, 0, none⟩) [x].length [x] :=
 Kd.jtc (d:=0) (h1:=fun _=>rfl) ⟨rfl,by simp,fun _=>⟨_,rfl,fun j hj=>by
  obtain rfl:j=0:=by simpa using hj
  exact h⟩⟩
theorem sc_has (l : List S66) (a : Int) : jmb.f l a = some (hpIn a 0 (wrap64 ((l.length : Int) - 1))) := by unfold jmb.f; rw [hp_within]; rfl
theorem sc_st2 {W : World} {base g n cap : Nat} {ok : Nat → Prop} {l : List S66} {a : Int} (h : Kd.R k66 66 W base ok (.slice (some ⟨g, 0, none⟩) n cap) l) (h0 : 0 ≤ a) (h1 : a < (n : Int)) (c : Int) :
  Kd.R k66 66 (W.setCell ⟨g,a.toNat * 5+2,none⟩ (.int .i64 c)) base ok (.slice (some ⟨g,0,none⟩) n cap) (l.set a.toNat ⟨(ja l a).f0,(ja l a).f1,c,(ja l a).f3,(ja l a).f4⟩)∧W.grownBy (W.setCell ⟨g,a.toNat * 5+2,none⟩ (.int .i64 c)) (some g)∧W.cell? ⟨g,a.toNat * 5+2,none⟩=some (.int .i64 (ja l a).f2)∧W.frozen? ⟨g,a.toNat * 5+2,none⟩=false:=by
 obtain ⟨ce,hcl,hM,hcc,hfr⟩:=Kd.jxb h z66 a h0 h1
 obtain rfl:=jRa hM
 have HP:=Kd.R_seg h a h0 h1 (seg:=[.int .i64 c]) (j:=2) hcl hcc (show 2+1≤5 from by decide) (x':=(⟨(ja l a).f0,(ja l a).f1,c,(ja l a).f3,(ja l a).f4⟩:S66)) (jZb _ _ _ (⟨(ja l a).f0,(ja l a).f1,c,(ja l a).f3,(ja l a).f4⟩:S66)) (fun _ hk=>hk)
 exact ⟨HP.1,HP.2,hcc 2 _ rfl,hfr 2⟩
theorem sc_st4 {W : World} {base g n cap : Nat} {ok : Nat → Prop} {l : List S66} {a : Int} (h : Kd.R k66 66 W base ok (.slice (some ⟨g, 0, none⟩) n cap) l) (h0 : 0 ≤ a) (h1 : a < (n : Int)) (c : Bool) :
  Kd.R k66 66 (W.setCell ⟨g,a.toNat * 5+4,none⟩ (.bool c)) base ok (.slice (some ⟨g,0,none⟩) n cap) (l.set a.toNat ⟨(ja l a).f0,(ja l a).f1,(ja l a).f2,(ja l a).f3,c⟩)∧W.grownBy (W.setCell ⟨g,a.toNat * 5+4,none⟩ (.bool c)) (some g)∧W.cell? ⟨g,a.toNat * 5+4,none⟩=some (.bool (ja l a).f4)∧W.frozen? ⟨g,a.toNat * 5+4,none⟩=false:=by
 obtain ⟨ce,hcl,hM,hcc,hfr⟩:=Kd.jxb h z66 a h0 h1
 obtain rfl:=jRa hM
 have HP:=Kd.R_seg h a h0 h1 (seg:=[.bool c]) (j:=4) hcl hcc (show 4+1≤5 from by decide) (x':=(⟨(ja l a).f0,(ja l a).f1,(ja l a).f2,(ja l a).f3,c⟩:S66)) (jZb _ _ _ (⟨(ja l a).f0,(ja l a).f1,(ja l a).f2,(ja l a).f3,c⟩:S66)) (fun _ hk=>hk)
 exact ⟨HP.1,HP.2,hcc 4 _ rfl,hfr 4⟩
theorem sc_rd {l : List S66} {a : Int} (h0 : 0 ≤ a) (h1 : a < (l.length : Int)) (x : S66) : ja (l.set a.toNat x) a = x := by
 have:a.toNat<l.length:=by omega
 simp [ja,List.getD_eq_getElem?_getD,this]
theorem sc_set24 {l : List S66} {a c : Int} {b : Bool} (h0 : 0 ≤ a) (h1 : a < (l.length : Int)) : (l.set a.toNat ⟨(ja l a).f0, (ja l a).f1, c, (ja l a).f3, (ja l a).f4⟩).set a.toNat ⟨(ja (l.set a.toNat ⟨(ja l a).f0, (ja l a).f1, c, (ja l a).f3, (ja l a).f4⟩) a).f0, (ja (l.set a.toNat ⟨(ja l a).f0, (ja l a).f1, c, (ja l a).f3, (ja l a).f4⟩) a).f1, (ja (l.set a.toNat ⟨(ja l a).f0, (ja l a).f1, c, (ja l a).f3, (ja l a).f4⟩) a).f2, (ja (l.set a.toNat ⟨(ja l a).f0, (ja l a).f1, c, (ja l a).f3, (ja l a).f4⟩) a).f3, b⟩ = l.set a.toNat ⟨(ja l a).f0, (ja l a).f1, c, (ja l a).f3, b⟩ := by
 rw [sc_rd h0 h1,List.set_set]
def jgb.f (k : Nat) (l0_0 : List S99) (l1_0 : List S66) (a2 a3 : Int) : Option (List S66 × Bool) :=
 (jwa.f k l0_0 l1_0 [a2]).bind fun v=>if v=true then
  (if a3≠-1∧(hpIn a3 0 (wrap64 ((l1_0.length:Int) - 1))=false∨a3=a2) then some ([],false)
  else if l1_0.length<1099511627776 then (if 0≤a2 then (if a2<(l1_0.length:Int) then some (l1_0.set a2.toNat ⟨(ja l1_0 a2).f0,(ja l1_0 a2).f1,a3,(ja l1_0 a2).f3,true⟩,true) else none) else none) else none) else some ([],false)
set_option maxHeartbeats 8000000 in
set_option maxRecDepth 100000 in
theorem jgb.calls (k : Nat) (A0_0 : Option Addr) (c0_0 : Nat) (l0_0 : List (S99)) (A1_0 : Option Addr) (c1_0 : Nat) (l1_0 : List (S66)) (a2 a3 : Int) (r1 : List (S66)) (r2 : Bool) (w : World) (hr0_0 : Kd.C k99 w A0_0 l0_0.length l0_0) (hc0_0 : l0_0.length ≤ c0_0) (hr1_0 : Kd.C k66 w A1_0 l1_0.length l1_0) (hc1_0 : l1_0.length ≤ c1_0) (h : jgb.f k l0_0 l1_0 a2 a3 = some (r1, r2)) :
  Calls Tryd.prog 13 #[.agg #[.slice A0_0 l0_0.length c0_0], .agg #[.slice A1_0 l1_0.length c1_0], .int .i64 a2, .int .i64 a3] w fun e w'=>∃ v0_:Value,e=.returned (.tuple #[.agg #[v0_], .bool r2])∧Kd.R k66 66 w' w.heap.size (fun _=>True) v0_ r1∧Below w.heap.size w w':=by
 have hu28:=Tryd.underlying28
 have hu25:=Tryd.underlying25
 have hu66:=Tryd.underlying66
 have hmx:Tryd.prog.follows .mixedOrders=true:=by kernel_rfl
 obtain ⟨v,hv,h⟩:=bzS h
 have HR1:=am hr1_0
 have HV:=am (fun W (hb:Below w.heap.size w W) (B:Nat) (hB:W.cell? ⟨B,0,none⟩=some (.int .i64 a2))=>jwa.calls k A0_0 c0_0 l0_0 A1_0 c1_0 l1_0 (some ⟨B,0,none⟩) 1 [a2] v W (Kd.jT hr0_0 hb) hc0_0 (Kd.jT hr1_0 hb) hc1_0 (sc_C_one hB) (by simp) hv)
 have HB:=am (show Below w.heap.size w (((w.alloc (.cells #[.slice A0_0 l0_0.length c0_0] 25)).alloc (.cells #[.slice A1_0 l1_0.length c1_0] 28)).alloc (.cells #[.slice none 0 0] 28)) from (((Below.refl w.heap.size w).alloc (Nat.le_refl _) _).alloc (by simp) _).alloc (by simp;omega) _)
 have BT:=am (show (((w.alloc (.cells #[.slice A0_0 l0_0.length c0_0] 25)).alloc (.cells #[.slice A1_0 l1_0.length c1_0] 28)).alloc (.cells #[.slice none 0 0] 28)).heap[w.heap.size]?=some (.cells #[.slice A0_0 l0_0.length c0_0] 25 (0,0)) from by have h:=heap_alloc_new w (.cells #[.slice A0_0 l0_0.length c0_0] 25);have h:=(show (w.alloc (.cells #[.slice A0_0 l0_0.length c0_0] 25)).heap[w.heap.size]?=some (.cells #[.slice A0_0 l0_0.length c0_0] 25 (0,0)) by simpa only [World.size_alloc] using h);have h:=jh h (.cells #[.slice A1_0 l1_0.length c1_0] 28);have h:=jh h (.cells #[.slice none 0 0] 28);exact h)
 have BH:=am (show (((w.alloc (.cells #[.slice A0_0 l0_0.length c0_0] 25)).alloc (.cells #[.slice A1_0 l1_0.length c1_0] 28)).alloc (.cells #[.slice none 0 0] 28)).heap[w.heap.size+1]?=some (.cells #[.slice A1_0 l1_0.length c1_0] 28 (0,0)) from by have h:=heap_alloc_new (w.alloc (.cells #[.slice A0_0 l0_0.length c0_0] 25)) (.cells #[.slice A1_0 l1_0.length c1_0] 28);have h:=(show ((w.alloc (.cells #[.slice A0_0 l0_0.length c0_0] 25)).alloc (.cells #[.slice A1_0 l1_0.length c1_0] 28)).heap[w.heap.size+1]?=some (.cells #[.slice A1_0 l1_0.length c1_0] 28 (0,0)) by simpa only [World.size_alloc] using h);have h:=jh h (.cells #[.slice none 0 0] 28);exact h)
 have BR:=am (show (((w.alloc (.cells #[.slice A0_0 l0_0.length c0_0] 25)).alloc (.cells #[.slice A1_0 l1_0.length c1_0] 28)).alloc (.cells #[.slice none 0 0] 28)).heap[w.heap.size+2]?=some (.cells #[.slice none 0 0] 28 (0,0)) from by have h:=heap_alloc_new ((w.alloc (.cells #[.slice A0_0 l0_0.length c0_0] 25)).alloc (.cells #[.slice A1_0 l1_0.length c1_0] 28)) (.cells #[.slice none 0 0] 28);have h:=(show (((w.alloc (.cells #[.slice A0_0 l0_0.length c0_0] 25)).alloc (.cells #[.slice A1_0 l1_0.length c1_0] 28)).alloc (.cells #[.slice none 0 0] 28)).heap[w.heap.size+2]?=some (.cells #[.slice none 0 0] 28 (0,0)) by simpa only [World.size_alloc] using h);exact h)
 cases v with
 | false =>
  rw [if_neg (by simp)] at h
  simp only [Option.some.injEq,Prod.mk.injEq] at h
  obtain ⟨rfl,rfl⟩:=h
  clear hv hr0_0 hr1_0 HR1
  go_enter Tryd.func13,Tryd.ntmps13
  go_wp2_with (go_at_call 28;refine (HV.out _ (HB.out.alloc (jI HB.out) (.cells #[.int .i64 a2] 3)) (w.heap.size+1+1+1) (by have h:=sc_new (((w.alloc (.cells #[.slice A0_0 l0_0.length c0_0] 25)).alloc (.cells #[.slice A1_0 l1_0.length c1_0] 28)).alloc (.cells #[.slice none 0 0] 28)) (.int .i64 a2) 3;simpa only [World.size_alloc] using h)).mono ?_;rintro e w2 ⟨rfl,hb2⟩;clear HV;have n0_:=am (jc (g:=w.heap.size) (o:=.cells #[.slice A0_0 l0_0.length c0_0] 25 (0,0)) (Y41) hb2);have n1_:=am (jc (g:=w.heap.size+1) (o:=.cells #[.slice A1_0 l1_0.length c1_0] 28 (0,0)) (Y42) hb2);have n2_:=am (jc (g:=w.heap.size+2) (o:=.cells #[.slice none 0 0] 28 (0,0)) (Y43) hb2);have n4_:=am (je (Y44) hb2);clear BT BH BR HB;have BT:=n0_;have BH:=n1_;have BR:=n2_;have HB:=n4_;clear n0_ n1_ n2_ n4_ hb2;have cT:=sc0 BT.out;have cH:=sc0 BH.out;have cR:=sc0 BR.out;have fR:=jb BR.out 0)
  refine bodyPost_ret (jbc rfl _ _ (w.heap.size+2) 28 #[.slice none 0 0] (0,0) _ rfl (Y145) Tryd.underlying28 rfl (by kernel_rfl)) rfl ?_
  exact ⟨.slice none 0 0,rfl,Kd.R_nil _ _ _ _ _,Y146⟩
 | true =>
  rw [if_pos rfl] at h
  have HCP:=am (fun (hl:l1_0.length<1099511627776) W (hb:Below w.heap.size w W)=>jJa.calls A1_0 c1_0 l1_0 l1_0 W (Kd.jT hr1_0 hb) hc1_0 (by unfold jJa.f jVa.f;rw [if_pos hl];rfl))
  clear hv hr0_0 hr1_0
  by_cases e1:a3 = -1
  ·rw [if_neg (by simp [e1])] at h
   have e1b:(a3 != -1)=false:=by simp [e1]
   clear e1
   by_cases hl:l1_0.length<1099511627776
   case neg=>rw [if_neg hl] at h;cases h
   rw [if_pos hl] at h
   replace HCP:=am (HCP.out hl)
   by_cases g0:0≤a2
   case neg=>rw [if_neg g0] at h;cases h
   rw [if_pos g0] at h
   by_cases g1:a2<(l1_0.length:Int)
   case neg=>rw [if_neg g1] at h;cases h
   rw [if_pos g1] at h
   simp only [Option.some.injEq,Prod.mk.injEq] at h
   obtain ⟨e1,rfl⟩:=h
   have HE:=am e1
   clear e1
   have G0:=am g0
   have G1:=am g1
   have p0:=ezT g0
   have p1:=ezT g1
   clear g0 g1 hl
   go_enter Tryd.func13,Tryd.ntmps13
   go_wp2_with (first |(go_at_call 28;refine (HV.out _ (HB.out.alloc (jI HB.out) (.cells #[.int .i64 a2] 3)) (w.heap.size+1+1+1) (by have h:=sc_new (((w.alloc (.cells #[.slice A0_0 l0_0.length c0_0] 25)).alloc (.cells #[.slice A1_0 l1_0.length c1_0] 28)).alloc (.cells #[.slice none 0 0] 28)) (.int .i64 a2) 3;simpa only [World.size_alloc] using h)).mono ?_;rintro e w2 ⟨rfl,hb2⟩;clear HV;have n0_:=am (jc (g:=w.heap.size) (o:=.cells #[.slice A0_0 l0_0.length c0_0] 25 (0,0)) (Y41) hb2);have n1_:=am (jc (g:=w.heap.size+1) (o:=.cells #[.slice A1_0 l1_0.length c1_0] 28 (0,0)) (Y42) hb2);have n2_:=am (jc (g:=w.heap.size+2) (o:=.cells #[.slice none 0 0] 28 (0,0)) (Y43) hb2);have n4_:=am (je (Y44) hb2);clear BT BH BR HB;have BT:=n0_;have BH:=n1_;have BR:=n2_;have HB:=n4_;clear n0_ n1_ n2_ n4_ hb2;have cT:=sc0 BT.out;have cH:=sc0 BH.out;have cR:=sc0 BR.out;have fR:=jb BR.out 0) |(go_at_call 34;refine (HCP.out _ HB.out).mono ?_;rintro e w2 ⟨v8,rfl,ho,hb2⟩;obtain ⟨g5,cp5,rfl,gb5,gl5,cl5,hg5⟩:=Kd.jsc ho (by have:=G0.out;have:=G1.out;omega);have HO:=am (Kd.jfa ho (jI HB.out));have hg5n:w.heap.size+2<g5:=Nat.lt_of_lt_of_le (jaa BR.out) gb5;clear HCP ho hg5 gb5;try clear cT cH cR fR;have n0_:=am (jc (g:=w.heap.size) (o:=.cells #[.slice A0_0 l0_0.length c0_0] 25 (0,0)) (Y41) hb2);have n1_:=am (jc (g:=w.heap.size+1) (o:=.cells #[.slice A1_0 l1_0.length c1_0] 28 (0,0)) (Y42) hb2);have n2_:=am (jc (g:=w.heap.size+2) (o:=.cells #[.slice none 0 0] 28 (0,0)) (Y43) hb2);have n4_:=am (je (Y44) hb2);clear BT BH BR HB;have BT:=n0_;have BH:=n1_;have BR:=n2_;have HB:=n4_;clear n0_ n1_ n2_ n4_ hb2;have cT:=sc0 BT.out;have cH:=sc0 BH.out;have cR:=sc0 BR.out;have fR:=jb BR.out 0))
   refine wp_region_held (S:=(fun W':World=>W'.cell? ⟨w2.heap.size,0,none⟩=some (.slice (some ⟨g5,0,none⟩) l1_0.length cp5))) hmx ?_
   change wpAnyH _ _ _ _ _ _ _ _ (World.drew (w2.alloc (.cells #[.slice (some ⟨g5,0,none⟩) l1_0.length cp5] 28)))
   have hBX:=jf (heap_alloc_new w2 (.cells #[.slice (some ⟨g5,0,none⟩) l1_0.length cp5] 28))
   have hS0:(fun W':World=>W'.cell? ⟨w2.heap.size,0,none⟩=some (.slice (some ⟨g5,0,none⟩) l1_0.length cp5)) (World.drew (w2.alloc (.cells #[.slice (some ⟨g5,0,none⟩) l1_0.length cp5] 28))):=sc0 hBX
   have R0:=Kd.jW (Kd.jU HO.out (.cells #[.slice (some ⟨g5,0,none⟩) l1_0.length cp5] 28))
   refine wpAnyH_take (i:=0) (v:=?_) rfl (by kernel_rfl) (by kernel_rfl) (by kernel_rfl) (fun _ _ _ h=>h) (Or.inl ⟨by rfl,?_⟩) hS0 ?_
   rotate_left
   ·rintro W' s1
    go_simp
    with_reducible rfl
   refine wpAnyH_take (i:=1) (v:=?_) rfl (by kernel_rfl) (by kernel_rfl) (by kernel_rfl) (fun _ _ _ h=>h) (Or.inl ⟨by rfl,?_⟩) hS0 ?_
   rotate_left
   ·rintro W' s1
    go_simp
    with_reducible rfl
   refine wpAnyH_take (i:=2) (v:=?_) rfl (by kernel_rfl) (by kernel_rfl) (by kernel_rfl) (fun _ _ _ h=>h) (Or.inl ⟨by rfl,?_⟩) hS0 ?_
   rotate_left
   ·rintro W' s1
    go_simp
    with_reducible rfl
   refine wpAnyH_take (i:=3) (v:=?_) rfl (by kernel_rfl) (by kernel_rfl) (by kernel_rfl) (fun _ _ _ h=>h) (Or.inl ⟨by rfl,?_⟩) hS0 ?_
   rotate_left
   ·rintro W' s1
    go_simp
    with_reducible rfl
   refine wpAnyH_take (i:=4) (v:=?_) rfl (by kernel_rfl) (by kernel_rfl) (by kernel_rfl) (fun _ _ _ h=>h) (Or.inl ⟨by rfl,?_⟩) hS0 ?_
   rotate_left
   ·rintro W' s1
    go_simp
    with_reducible rfl
   refine wpAnyH_take (i:=5) (v:=?_) rfl (by kernel_rfl) (by kernel_rfl) (by kernel_rfl) (fun _ _ _ h=>h) (Or.inl ⟨by rfl,?_⟩) hS0 ?_
   rotate_left
   ·rintro W' s1
    go_simp
    with_reducible rfl
   refine wpAnyH_take (i:=6) (v:=?_) rfl (by kernel_rfl) (by kernel_rfl) (by kernel_rfl) (fun _ _ _ h=>h) (Or.inl ⟨by rfl,?_⟩) hS0 ?_
   rotate_left
   ·rintro W' s1
    go_simp
    with_reducible rfl
   refine wpAnyH_take (i:=7) (v:=?_) rfl (by kernel_rfl) (by kernel_rfl) (by kernel_rfl) (fun _ _ _ h=>h) (Or.inl ⟨by rfl,?_⟩) hS0 ?_
   rotate_left
   ·rintro W' s1
    go_simp
    with_reducible rfl
   refine wpAnyH_take (i:=8) (v:=?_) rfl (by kernel_rfl) (by kernel_rfl) (by kernel_rfl) (fun _ _ _ h=>h) (Or.inl ⟨by rfl,?_⟩) hS0 ?_
   rotate_left
   ·rintro W' s1
    go_simp
    with_reducible rfl
   refine wpAnyH_all (rs:=[9]) (by kernel_rfl) (by simp) ?_
   intro ii hii
   obtain rfl:ii=9:=by simpa using hii
   clear hii
   obtain ⟨R1,G1g,c1,f1⟩:=sc_st2 HO.out G0.out G1.out a3
   refine wpOp_step rfl (fun K hK=>?_)
   go_simp
   have hS1:(fun W':World=>W'.cell? ⟨w2.heap.size,0,none⟩=some (.slice (some ⟨g5,0,none⟩) l1_0.length cp5)) (World.drew ((w2.setCell ⟨g5,a2.toNat * 5+2,none⟩ (.int .i64 a3)).alloc (.cells #[.slice (some ⟨g5,0,none⟩) l1_0.length cp5] 28))):=sc0 (jf (show ((w2.setCell ⟨g5,a2.toNat * 5+2,none⟩ (.int .i64 a3)).alloc (.cells #[.slice (some ⟨g5,0,none⟩) l1_0.length cp5] 28)).heap[w2.heap.size]?=some (.cells #[.slice (some ⟨g5,0,none⟩) l1_0.length cp5] 28 (0,0)) by have h:=heap_alloc_new (w2.setCell ⟨g5,a2.toNat * 5+2,none⟩ (.int .i64 a3)) (.cells #[.slice (some ⟨g5,0,none⟩) l1_0.length cp5] 28);simpa only [World.size_setCell] using h))
   refine hK _ _ ⟨hS1,?_⟩
   clear hK K
   refine wpAnyH_take (i:=10) (v:=?_) rfl (by kernel_rfl) (by kernel_rfl) (by kernel_rfl) (fun _ _ _ h=>h) (Or.inl ⟨by rfl,?_⟩) hS1 ?_
   rotate_left
   ·rintro W' s1
    go_simp
    with_reducible rfl
   refine wpAnyH_take (i:=11) (v:=?_) rfl (by kernel_rfl) (by kernel_rfl) (by kernel_rfl) (fun _ _ _ h=>h) (Or.inl ⟨by rfl,?_⟩) hS1 ?_
   rotate_left
   ·rintro W' s1
    go_simp
    with_reducible rfl
   refine wpAnyH_all (rs:=[12]) (by kernel_rfl) (by simp) ?_
   intro ii hii
   obtain rfl:ii=12:=by simpa using hii
   clear hii
   obtain ⟨R2,G2g,c2,f2⟩:=sc_st4 R1 G0.out G1.out true
   refine wpOp_step rfl (fun K hK=>?_)
   go_simp
   have hS2:(fun W':World=>W'.cell? ⟨w2.heap.size,0,none⟩=some (.slice (some ⟨g5,0,none⟩) l1_0.length cp5)) (World.drew (((w2.setCell ⟨g5,a2.toNat * 5+2,none⟩ (.int .i64 a3)).setCell ⟨g5,a2.toNat * 5+4,none⟩ (.bool true)).alloc (.cells #[.slice (some ⟨g5,0,none⟩) l1_0.length cp5] 28))):=sc0 (jf (show (((w2.setCell ⟨g5,a2.toNat * 5+2,none⟩ (.int .i64 a3)).setCell ⟨g5,a2.toNat * 5+4,none⟩ (.bool true)).alloc (.cells #[.slice (some ⟨g5,0,none⟩) l1_0.length cp5] 28)).heap[w2.heap.size]?=some (.cells #[.slice (some ⟨g5,0,none⟩) l1_0.length cp5] 28 (0,0)) by have h:=heap_alloc_new ((w2.setCell ⟨g5,a2.toNat * 5+2,none⟩ (.int .i64 a3)).setCell ⟨g5,a2.toNat * 5+4,none⟩ (.bool true)) (.cells #[.slice (some ⟨g5,0,none⟩) l1_0.length cp5] 28);simpa only [World.size_setCell] using h))
   refine hK _ _ ⟨hS2,?_⟩
   clear hK K
   refine wpAnyH_done (by kernel_rfl) ?_ _
   rename_i K9 hK9
   refine hK9 _ _ ?_
   clear hK9
   go_simp
   change Code.wp _ _ _ _ (World.drew (((w2.setCell ⟨g5,a2.toNat * 5+2,none⟩ (.int .i64 a3)).setCell ⟨g5,a2.toNat * 5+4,none⟩ (.bool true)).alloc (.cells #[.slice (some ⟨g5,0,none⟩) l1_0.length cp5] 28)))
   have BR7:=jf (jh (jV (p:=⟨g5,a2.toNat * 5+4,none⟩) (jV (p:=⟨g5,a2.toNat * 5+2,none⟩) BR.out (by simp;omega) (.int .i64 a3)) (by simp;omega) (.bool true)) (.cells #[.slice (some ⟨g5,0,none⟩) l1_0.length cp5] 28))
   have BX7:=jf (show (((w2.setCell ⟨g5,a2.toNat * 5+2,none⟩ (.int .i64 a3)).setCell ⟨g5,a2.toNat * 5+4,none⟩ (.bool true)).alloc (.cells #[.slice (some ⟨g5,0,none⟩) l1_0.length cp5] 28)).heap[w2.heap.size]?=some (.cells #[.slice (some ⟨g5,0,none⟩) l1_0.length cp5] 28 (0,0)) by have h:=heap_alloc_new ((w2.setCell ⟨g5,a2.toNat * 5+2,none⟩ (.int .i64 a3)).setCell ⟨g5,a2.toNat * 5+4,none⟩ (.bool true)) (.cells #[.slice (some ⟨g5,0,none⟩) l1_0.length cp5] 28);simpa only [World.size_setCell] using h)
   have HB7:Below w.heap.size w (World.drew (((w2.setCell ⟨g5,a2.toNat * 5+2,none⟩ (.int .i64 a3)).setCell ⟨g5,a2.toNat * 5+4,none⟩ (.bool true)).alloc (.cells #[.slice (some ⟨g5,0,none⟩) l1_0.length cp5] 28))):=jpb (jr (jl (jl HB.out (by first | omega |(simp;omega))) (by first | omega |(simp;omega))) _)
   rw [sc_set24 G0.out G1.out] at R2
   have R3:=Kd.jW (Kd.jU R2 (.cells #[.slice (some ⟨g5,0,none⟩) l1_0.length cp5] 28))
   clear R2
   have R2:=R3
   clear R3
   obtain ⟨W7,hW7⟩:∃ W7,(World.drew (((w2.setCell ⟨g5,a2.toNat * 5+2,none⟩ (.int .i64 a3)).setCell ⟨g5,a2.toNat * 5+4,none⟩ (.bool true)).alloc (.cells #[.slice (some ⟨g5,0,none⟩) l1_0.length cp5] 28)))=W7:=⟨_,rfl⟩
   rw [hW7] at BR7 BX7 HB7 R2 ⊢
   clear hW7 hS0 hS1 hS2 R0 R1 c1 f1 c2 f2 hBX cT cH cR fR
   have cR:=sc0 BR7
   have fR:=jb BR7 0
   have cX:=sc0 BX7
   go_wp2
   refine bodyPost_ret (jbc rfl _ _ (w.heap.size+2) 28 #[.slice (some ⟨g5,0,none⟩) l1_0.length cp5] (0,0) _ rfl (by refine jAa (cs:=#[.slice none 0 0]) BR7 0 _ rfl) Tryd.underlying28 rfl (by kernel_rfl)) rfl ?_
   exact ⟨_,rfl,by rw [← HE.out];exact Kd.jH (Kd.jva (Kd.jL R2 BR7 (by decide)) (fun k hk=>hk.2) _) (fun _ _=>trivial),jl HB7 (by first | omega | simp)⟩
  ·have e1b:(a3 != -1)=true:=by simpa using e1
   cases e2:hpIn a3 0 (wrap64 ((l1_0.length:Int) - 1)) with
   | false =>
    have EH:=am (show jmb.f l1_0 a3=some false by rw [sc_has,e2])
    rw [if_pos ⟨e1, .inl e2⟩] at h
    clear e1 e2
    simp only [Option.some.injEq,Prod.mk.injEq] at h
    obtain ⟨rfl,rfl⟩:=h
    clear HCP
    go_enter Tryd.func13,Tryd.ntmps13
    go_wp2_with (first |(go_at_call 28;refine (HV.out _ (HB.out.alloc (jI HB.out) (.cells #[.int .i64 a2] 3)) (w.heap.size+1+1+1) (by have h:=sc_new (((w.alloc (.cells #[.slice A0_0 l0_0.length c0_0] 25)).alloc (.cells #[.slice A1_0 l1_0.length c1_0] 28)).alloc (.cells #[.slice none 0 0] 28)) (.int .i64 a2) 3;simpa only [World.size_alloc] using h)).mono ?_;rintro e w2 ⟨rfl,hb2⟩;clear HV;have n0_:=am (jc (g:=w.heap.size) (o:=.cells #[.slice A0_0 l0_0.length c0_0] 25 (0,0)) (Y41) hb2);have n1_:=am (jc (g:=w.heap.size+1) (o:=.cells #[.slice A1_0 l1_0.length c1_0] 28 (0,0)) (Y42) hb2);have n2_:=am (jc (g:=w.heap.size+2) (o:=.cells #[.slice none 0 0] 28 (0,0)) (Y43) hb2);have n4_:=am (je (Y44) hb2);clear BT BH BR HB;have BT:=n0_;have BH:=n1_;have BR:=n2_;have HB:=n4_;clear n0_ n1_ n2_ n4_ hb2;have cT:=sc0 BT.out;have cH:=sc0 BH.out;have cR:=sc0 BR.out;have fR:=jb BR.out 0) |(go_at_call 35;refine (jmb.calls A1_0 c1_0 l1_0 a3 _ _ (Kd.jT HR1.out HB.out) hc1_0 EH.out).mono ?_;rintro e w2 ⟨rfl,hb2⟩;clear EH;try clear cT cH cR fR;have n0_:=am (jc (g:=w.heap.size) (o:=.cells #[.slice A0_0 l0_0.length c0_0] 25 (0,0)) (Y41) hb2);have n1_:=am (jc (g:=w.heap.size+1) (o:=.cells #[.slice A1_0 l1_0.length c1_0] 28 (0,0)) (Y42) hb2);have n2_:=am (jc (g:=w.heap.size+2) (o:=.cells #[.slice none 0 0] 28 (0,0)) (Y43) hb2);have n4_:=am (je (Y44) hb2);clear BT BH BR HB;have BT:=n0_;have BH:=n1_;have BR:=n2_;have HB:=n4_;clear n0_ n1_ n2_ n4_ hb2;have cT:=sc0 BT.out;have cH:=sc0 BH.out;have cR:=sc0 BR.out;have fR:=jb BR.out 0))
    refine bodyPost_ret (jbc rfl _ _ (w.heap.size+2) 28 #[.slice none 0 0] (0,0) _ rfl (Y145) Tryd.underlying28 rfl (by kernel_rfl)) rfl ?_
    exact ⟨.slice none 0 0,rfl,Kd.R_nil _ _ _ _ _,Y146⟩
   | true =>
    have EH:=am (show jmb.f l1_0 a3=some true by rw [sc_has,e2])
    by_cases e3:a3=a2
    ·have e3b:(a3 == a2)=true:=by simpa using e3
     rw [if_pos ⟨e1, .inr e3⟩] at h
     clear e1 e2 e3
     simp only [Option.some.injEq,Prod.mk.injEq] at h
     obtain ⟨rfl,rfl⟩:=h
     clear HCP
     go_enter Tryd.func13,Tryd.ntmps13
     go_wp2_with (first |(go_at_call 28;refine (HV.out _ (HB.out.alloc (jI HB.out) (.cells #[.int .i64 a2] 3)) (w.heap.size+1+1+1) (by have h:=sc_new (((w.alloc (.cells #[.slice A0_0 l0_0.length c0_0] 25)).alloc (.cells #[.slice A1_0 l1_0.length c1_0] 28)).alloc (.cells #[.slice none 0 0] 28)) (.int .i64 a2) 3;simpa only [World.size_alloc] using h)).mono ?_;rintro e w2 ⟨rfl,hb2⟩;clear HV;have n0_:=am (jc (g:=w.heap.size) (o:=.cells #[.slice A0_0 l0_0.length c0_0] 25 (0,0)) (Y41) hb2);have n1_:=am (jc (g:=w.heap.size+1) (o:=.cells #[.slice A1_0 l1_0.length c1_0] 28 (0,0)) (Y42) hb2);have n2_:=am (jc (g:=w.heap.size+2) (o:=.cells #[.slice none 0 0] 28 (0,0)) (Y43) hb2);have n4_:=am (je (Y44) hb2);clear BT BH BR HB;have BT:=n0_;have BH:=n1_;have BR:=n2_;have HB:=n4_;clear n0_ n1_ n2_ n4_ hb2;have cT:=sc0 BT.out;have cH:=sc0 BH.out;have cR:=sc0 BR.out;have fR:=jb BR.out 0) |(go_at_call 35;refine (jmb.calls A1_0 c1_0 l1_0 a3 _ _ (Kd.jT HR1.out HB.out) hc1_0 EH.out).mono ?_;rintro e w2 ⟨rfl,hb2⟩;clear EH;try clear cT cH cR fR;have n0_:=am (jc (g:=w.heap.size) (o:=.cells #[.slice A0_0 l0_0.length c0_0] 25 (0,0)) (Y41) hb2);have n1_:=am (jc (g:=w.heap.size+1) (o:=.cells #[.slice A1_0 l1_0.length c1_0] 28 (0,0)) (Y42) hb2);have n2_:=am (jc (g:=w.heap.size+2) (o:=.cells #[.slice none 0 0] 28 (0,0)) (Y43) hb2);have n4_:=am (je (Y44) hb2);clear BT BH BR HB;have BT:=n0_;have BH:=n1_;have BR:=n2_;have HB:=n4_;clear n0_ n1_ n2_ n4_ hb2;have cT:=sc0 BT.out;have cH:=sc0 BH.out;have cR:=sc0 BR.out;have fR:=jb BR.out 0))
     refine bodyPost_ret (jbc rfl _ _ (w.heap.size+2) 28 #[.slice none 0 0] (0,0) _ rfl (Y145) Tryd.underlying28 rfl (by kernel_rfl)) rfl ?_
     exact ⟨.slice none 0 0,rfl,Kd.R_nil _ _ _ _ _,Y146⟩
    ·have e3b:(a3 == a2)=false:=by simpa using e3
     rw [if_neg (by rintro ⟨_,h1 | h1⟩ <;> first | exact e3 h1 |(rw [e2] at h1;cases h1))] at h
     clear e1 e2 e3
     by_cases hl:l1_0.length<1099511627776
     case neg=>rw [if_neg hl] at h;cases h
     rw [if_pos hl] at h
     replace HCP:=am (HCP.out hl)
     by_cases g0:0≤a2
     case neg=>rw [if_neg g0] at h;cases h
     rw [if_pos g0] at h
     by_cases g1:a2<(l1_0.length:Int)
     case neg=>rw [if_neg g1] at h;cases h
     rw [if_pos g1] at h
     simp only [Option.some.injEq,Prod.mk.injEq] at h
     obtain ⟨e1,rfl⟩:=h
     have HE:=am e1
     clear e1
     have G0:=am g0
     have G1:=am g1
     have p0:=ezT g0
     have p1:=ezT g1
     clear g0 g1 hl
     go_enter Tryd.func13,Tryd.ntmps13
     go_wp2_with (first |(go_at_call 28;refine (HV.out _ (HB.out.alloc (jI HB.out) (.cells #[.int .i64 a2] 3)) (w.heap.size+1+1+1) (by have h:=sc_new (((w.alloc (.cells #[.slice A0_0 l0_0.length c0_0] 25)).alloc (.cells #[.slice A1_0 l1_0.length c1_0] 28)).alloc (.cells #[.slice none 0 0] 28)) (.int .i64 a2) 3;simpa only [World.size_alloc] using h)).mono ?_;rintro e w2 ⟨rfl,hb2⟩;clear HV;have n0_:=am (jc (g:=w.heap.size) (o:=.cells #[.slice A0_0 l0_0.length c0_0] 25 (0,0)) (Y41) hb2);have n1_:=am (jc (g:=w.heap.size+1) (o:=.cells #[.slice A1_0 l1_0.length c1_0] 28 (0,0)) (Y42) hb2);have n2_:=am (jc (g:=w.heap.size+2) (o:=.cells #[.slice none 0 0] 28 (0,0)) (Y43) hb2);have n4_:=am (je (Y44) hb2);clear BT BH BR HB;have BT:=n0_;have BH:=n1_;have BR:=n2_;have HB:=n4_;clear n0_ n1_ n2_ n4_ hb2;have cT:=sc0 BT.out;have cH:=sc0 BH.out;have cR:=sc0 BR.out;have fR:=jb BR.out 0) |(go_at_call 35;refine (jmb.calls A1_0 c1_0 l1_0 a3 _ _ (Kd.jT HR1.out HB.out) hc1_0 EH.out).mono ?_;rintro e w2 ⟨rfl,hb2⟩;clear EH;try clear cT cH cR fR;have n0_:=am (jc (g:=w.heap.size) (o:=.cells #[.slice A0_0 l0_0.length c0_0] 25 (0,0)) (Y41) hb2);have n1_:=am (jc (g:=w.heap.size+1) (o:=.cells #[.slice A1_0 l1_0.length c1_0] 28 (0,0)) (Y42) hb2);have n2_:=am (jc (g:=w.heap.size+2) (o:=.cells #[.slice none 0 0] 28 (0,0)) (Y43) hb2);have n4_:=am (je (Y44) hb2);clear BT BH BR HB;have BT:=n0_;have BH:=n1_;have BR:=n2_;have HB:=n4_;clear n0_ n1_ n2_ n4_ hb2;have cT:=sc0 BT.out;have cH:=sc0 BH.out;have cR:=sc0 BR.out;have fR:=jb BR.out 0) |(go_at_call 34;refine (HCP.out _ HB.out).mono ?_;rintro e w2 ⟨v8,rfl,ho,hb2⟩;obtain ⟨g5,cp5,rfl,gb5,gl5,cl5,hg5⟩:=Kd.jsc ho (by have:=G0.out;have:=G1.out;omega);have HO:=am (Kd.jfa ho (jI HB.out));have hg5n:w.heap.size+2<g5:=Nat.lt_of_lt_of_le (jaa BR.out) gb5;clear HCP ho hg5 gb5;try clear cT cH cR fR;have n0_:=am (jc (g:=w.heap.size) (o:=.cells #[.slice A0_0 l0_0.length c0_0] 25 (0,0)) (Y41) hb2);have n1_:=am (jc (g:=w.heap.size+1) (o:=.cells #[.slice A1_0 l1_0.length c1_0] 28 (0,0)) (Y42) hb2);have n2_:=am (jc (g:=w.heap.size+2) (o:=.cells #[.slice none 0 0] 28 (0,0)) (Y43) hb2);have n4_:=am (je (Y44) hb2);clear BT BH BR HB;have BT:=n0_;have BH:=n1_;have BR:=n2_;have HB:=n4_;clear n0_ n1_ n2_ n4_ hb2;have cT:=sc0 BT.out;have cH:=sc0 BH.out;have cR:=sc0 BR.out;have fR:=jb BR.out 0))
     refine wp_region_held (S:=(fun W':World=>W'.cell? ⟨w2.heap.size,0,none⟩=some (.slice (some ⟨g5,0,none⟩) l1_0.length cp5))) hmx ?_
     change wpAnyH _ _ _ _ _ _ _ _ (World.drew (w2.alloc (.cells #[.slice (some ⟨g5,0,none⟩) l1_0.length cp5] 28)))
     have hBX:=jf (heap_alloc_new w2 (.cells #[.slice (some ⟨g5,0,none⟩) l1_0.length cp5] 28))
     have hS0:(fun W':World=>W'.cell? ⟨w2.heap.size,0,none⟩=some (.slice (some ⟨g5,0,none⟩) l1_0.length cp5)) (World.drew (w2.alloc (.cells #[.slice (some ⟨g5,0,none⟩) l1_0.length cp5] 28))):=sc0 hBX
     have R0:=Kd.jW (Kd.jU HO.out (.cells #[.slice (some ⟨g5,0,none⟩) l1_0.length cp5] 28))
     refine wpAnyH_take (i:=0) (v:=?_) rfl (by kernel_rfl) (by kernel_rfl) (by kernel_rfl) (fun _ _ _ h=>h) (Or.inl ⟨by rfl,?_⟩) hS0 ?_
     rotate_left
     ·rintro W' s1
      go_simp
      with_reducible rfl
     refine wpAnyH_take (i:=1) (v:=?_) rfl (by kernel_rfl) (by kernel_rfl) (by kernel_rfl) (fun _ _ _ h=>h) (Or.inl ⟨by rfl,?_⟩) hS0 ?_
     rotate_left
     ·rintro W' s1
      go_simp
      with_reducible rfl
     refine wpAnyH_take (i:=2) (v:=?_) rfl (by kernel_rfl) (by kernel_rfl) (by kernel_rfl) (fun _ _ _ h=>h) (Or.inl ⟨by rfl,?_⟩) hS0 ?_
     rotate_left
     ·rintro W' s1
      go_simp
      with_reducible rfl
     refine wpAnyH_take (i:=3) (v:=?_) rfl (by kernel_rfl) (by kernel_rfl) (by kernel_rfl) (fun _ _ _ h=>h) (Or.inl ⟨by rfl,?_⟩) hS0 ?_
     rotate_left
     ·rintro W' s1
      go_simp
      with_reducible rfl
     refine wpAnyH_take (i:=4) (v:=?_) rfl (by kernel_rfl) (by kernel_rfl) (by kernel_rfl) (fun _ _ _ h=>h) (Or.inl ⟨by rfl,?_⟩) hS0 ?_
     rotate_left
     ·rintro W' s1
      go_simp
      with_reducible rfl
     refine wpAnyH_take (i:=5) (v:=?_) rfl (by kernel_rfl) (by kernel_rfl) (by kernel_rfl) (fun _ _ _ h=>h) (Or.inl ⟨by rfl,?_⟩) hS0 ?_
     rotate_left
     ·rintro W' s1
      go_simp
      with_reducible rfl
     refine wpAnyH_take (i:=6) (v:=?_) rfl (by kernel_rfl) (by kernel_rfl) (by kernel_rfl) (fun _ _ _ h=>h) (Or.inl ⟨by rfl,?_⟩) hS0 ?_
     rotate_left
     ·rintro W' s1
      go_simp
      with_reducible rfl
     refine wpAnyH_take (i:=7) (v:=?_) rfl (by kernel_rfl) (by kernel_rfl) (by kernel_rfl) (fun _ _ _ h=>h) (Or.inl ⟨by rfl,?_⟩) hS0 ?_
     rotate_left
     ·rintro W' s1
      go_simp
      with_reducible rfl
     refine wpAnyH_take (i:=8) (v:=?_) rfl (by kernel_rfl) (by kernel_rfl) (by kernel_rfl) (fun _ _ _ h=>h) (Or.inl ⟨by rfl,?_⟩) hS0 ?_
     rotate_left
     ·rintro W' s1
      go_simp
      with_reducible rfl
     refine wpAnyH_all (rs:=[9]) (by kernel_rfl) (by simp) ?_
     intro ii hii
     obtain rfl:ii=9:=by simpa using hii
     clear hii
     obtain ⟨R1,G1g,c1,f1⟩:=sc_st2 HO.out G0.out G1.out a3
     refine wpOp_step rfl (fun K hK=>?_)
     go_simp
     have hS1:(fun W':World=>W'.cell? ⟨w2.heap.size,0,none⟩=some (.slice (some ⟨g5,0,none⟩) l1_0.length cp5)) (World.drew ((w2.setCell ⟨g5,a2.toNat * 5+2,none⟩ (.int .i64 a3)).alloc (.cells #[.slice (some ⟨g5,0,none⟩) l1_0.length cp5] 28))):=sc0 (jf (show ((w2.setCell ⟨g5,a2.toNat * 5+2,none⟩ (.int .i64 a3)).alloc (.cells #[.slice (some ⟨g5,0,none⟩) l1_0.length cp5] 28)).heap[w2.heap.size]?=some (.cells #[.slice (some ⟨g5,0,none⟩) l1_0.length cp5] 28 (0,0)) by have h:=heap_alloc_new (w2.setCell ⟨g5,a2.toNat * 5+2,none⟩ (.int .i64 a3)) (.cells #[.slice (some ⟨g5,0,none⟩) l1_0.length cp5] 28);simpa only [World.size_setCell] using h))
     refine hK _ _ ⟨hS1,?_⟩
     clear hK K
     refine wpAnyH_take (i:=10) (v:=?_) rfl (by kernel_rfl) (by kernel_rfl) (by kernel_rfl) (fun _ _ _ h=>h) (Or.inl ⟨by rfl,?_⟩) hS1 ?_
     rotate_left
     ·rintro W' s1
      go_simp
      with_reducible rfl
     refine wpAnyH_take (i:=11) (v:=?_) rfl (by kernel_rfl) (by kernel_rfl) (by kernel_rfl) (fun _ _ _ h=>h) (Or.inl ⟨by rfl,?_⟩) hS1 ?_
     rotate_left
     ·rintro W' s1
      go_simp
      with_reducible rfl
     refine wpAnyH_all (rs:=[12]) (by kernel_rfl) (by simp) ?_
     intro ii hii
     obtain rfl:ii=12:=by simpa using hii
     clear hii
     obtain ⟨R2,G2g,c2,f2⟩:=sc_st4 R1 G0.out G1.out true
     refine wpOp_step rfl (fun K hK=>?_)
     go_simp
     have hS2:(fun W':World=>W'.cell? ⟨w2.heap.size,0,none⟩=some (.slice (some ⟨g5,0,none⟩) l1_0.length cp5)) (World.drew (((w2.setCell ⟨g5,a2.toNat * 5+2,none⟩ (.int .i64 a3)).setCell ⟨g5,a2.toNat * 5+4,none⟩ (.bool true)).alloc (.cells #[.slice (some ⟨g5,0,none⟩) l1_0.length cp5] 28))):=sc0 (jf (show (((w2.setCell ⟨g5,a2.toNat * 5+2,none⟩ (.int .i64 a3)).setCell ⟨g5,a2.toNat * 5+4,none⟩ (.bool true)).alloc (.cells #[.slice (some ⟨g5,0,none⟩) l1_0.length cp5] 28)).heap[w2.heap.size]?=some (.cells #[.slice (some ⟨g5,0,none⟩) l1_0.length cp5] 28 (0,0)) by have h:=heap_alloc_new ((w2.setCell ⟨g5,a2.toNat * 5+2,none⟩ (.int .i64 a3)).setCell ⟨g5,a2.toNat * 5+4,none⟩ (.bool true)) (.cells #[.slice (some ⟨g5,0,none⟩) l1_0.length cp5] 28);simpa only [World.size_setCell] using h))
     refine hK _ _ ⟨hS2,?_⟩
     clear hK K
     refine wpAnyH_done (by kernel_rfl) ?_ _
     rename_i K9 hK9
     refine hK9 _ _ ?_
     clear hK9
     go_simp
     change Code.wp _ _ _ _ (World.drew (((w2.setCell ⟨g5,a2.toNat * 5+2,none⟩ (.int .i64 a3)).setCell ⟨g5,a2.toNat * 5+4,none⟩ (.bool true)).alloc (.cells #[.slice (some ⟨g5,0,none⟩) l1_0.length cp5] 28)))
     have BR7:=jf (jh (jV (p:=⟨g5,a2.toNat * 5+4,none⟩) (jV (p:=⟨g5,a2.toNat * 5+2,none⟩) BR.out (by simp;omega) (.int .i64 a3)) (by simp;omega) (.bool true)) (.cells #[.slice (some ⟨g5,0,none⟩) l1_0.length cp5] 28))
     have BX7:=jf (show (((w2.setCell ⟨g5,a2.toNat * 5+2,none⟩ (.int .i64 a3)).setCell ⟨g5,a2.toNat * 5+4,none⟩ (.bool true)).alloc (.cells #[.slice (some ⟨g5,0,none⟩) l1_0.length cp5] 28)).heap[w2.heap.size]?=some (.cells #[.slice (some ⟨g5,0,none⟩) l1_0.length cp5] 28 (0,0)) by have h:=heap_alloc_new ((w2.setCell ⟨g5,a2.toNat * 5+2,none⟩ (.int .i64 a3)).setCell ⟨g5,a2.toNat * 5+4,none⟩ (.bool true)) (.cells #[.slice (some ⟨g5,0,none⟩) l1_0.length cp5] 28);simpa only [World.size_setCell] using h)
     have HB7:Below w.heap.size w (World.drew (((w2.setCell ⟨g5,a2.toNat * 5+2,none⟩ (.int .i64 a3)).setCell ⟨g5,a2.toNat * 5+4,none⟩ (.bool true)).alloc (.cells #[.slice (some ⟨g5,0,none⟩) l1_0.length cp5] 28))):=jpb (jr (jl (jl HB.out (by first | omega |(simp;omega))) (by first | omega |(simp;omega))) _)
     rw [sc_set24 G0.out G1.out] at R2
     have R3:=Kd.jW (Kd.jU R2 (.cells #[.slice (some ⟨g5,0,none⟩) l1_0.length cp5] 28))
     clear R2
     have R2:=R3
     clear R3
     obtain ⟨W7,hW7⟩:∃ W7,(World.drew (((w2.setCell ⟨g5,a2.toNat * 5+2,none⟩ (.int .i64 a3)).setCell ⟨g5,a2.toNat * 5+4,none⟩ (.bool true)).alloc (.cells #[.slice (some ⟨g5,0,none⟩) l1_0.length cp5] 28)))=W7:=⟨_,rfl⟩
     rw [hW7] at BR7 BX7 HB7 R2 ⊢
     clear hW7 hS0 hS1 hS2 R0 R1 c1 f1 c2 f2 hBX cT cH cR fR
     have cR:=sc0 BR7
     have fR:=jb BR7 0
     have cX:=sc0 BX7
     go_wp2
     refine bodyPost_ret (jbc rfl _ _ (w.heap.size+2) 28 #[.slice (some ⟨g5,0,none⟩) l1_0.length cp5] (0,0) _ rfl (by refine jAa (cs:=#[.slice none 0 0]) BR7 0 _ rfl) Tryd.underlying28 rfl (by kernel_rfl)) rfl ?_
     exact ⟨_,rfl,by rw [← HE.out];exact Kd.jH (Kd.jva (Kd.jL R2 BR7 (by decide)) (fun k hk=>hk.2) _) (fun _ _=>trivial),jl HB7 (by first | omega | simp)⟩
def jP.j0 : Nat → Int → Int → Bool → List (S99) → List (S66) → Option (Bool)
 | 0,_,_,_,_,_=>none
 | k+1,x5,x6,x36,x448000,x449000=>if x36=true then ((jEa.f k x448000 x449000 x5).bind fun t451=>(some (x6 == t451))) else ((jrb.f k x448000 x449000 x5).bind fun t452=>((jBa.f k x448000 x449000 x5).bind fun t455=>((jYa.f k x448000 x449000 x6 true).bind fun bt456=>((jgb.f k x448000 bt456.1 x6 (-1)).bind fun bt461=>((jBa.f k x448000 bt461.1 x6).bind fun t466=>(if 0≤(wrap64 ((t452.length:Int) - 1)) then (if (wrap64 ((t452.length:Int) - 1))<(t452.length:Int) then (if (rd t452 (wrap64 ((t452.length:Int) - 1)))=x6 then (if bt456.2=true then (if bt461.2=true then (if (t466.size:Int)≤(t455.size:Int) then (if 0≤(t466.size:Int) then (some ((t455.extract 0 ((t466.size:Int):Int).toNat).toList == t466.toList)) else (none)) else (some false)) else (some false)) else (some false)) else (some false)) else (none)) else (none)))))))
def jP.f (k : Nat) (l0 : List Int) : Option (Bool) := if (l0.length : Int) > 1048576 then (some true) else ((jUa.f k l0).bind fun bt440 => ((jcb.f k bt440.1 bt440.2.1 bt440.2.2).bind fun t449 => ((jEa.f k bt440.1 bt440.2.1 bt440.2.2).bind fun t450 => (if t449 = t450 then (jP.j0 k bt440.2.2 t449 (decide (t449 < 0)) bt440.1 bt440.2.1) else (jP.j0 k bt440.2.2 t449 true bt440.1 bt440.2.1)))))
set_option maxHeartbeats 8000000 in
set_option maxRecDepth 100000 in
theorem jP.calls (k : Nat) (A0 : Option Addr) (c0 : Nat) (l0 : List Int) (r : Bool) (w : World) (hr0 : Kd.C (Kd.int .u8) w A0 l0.length l0) (hc0 : l0.length ≤ c0) (hT : r = true) (h : jP.f k l0 = some r) :
  Calls Tryd.prog 3 #[.slice A0 l0.length c0] w fun e w'=>e=.returned (.bool r)∧Below w.heap.size w w':=by
 have hu25:=Tryd.underlying25
 have hu28:=Tryd.underlying28
 have HR0:=am hr0
 have HC0:=am hc0
 clear hr0 hc0
 have HB:=am (Below.refl w.heap.size w)
 have H:(if (l0.length:Int) > 1048576 then (some true) else ((jUa.f k l0).bind fun bt440=>((jcb.f k bt440.1 bt440.2.1 bt440.2.2).bind fun t449=>((jEa.f k bt440.1 bt440.2.1 bt440.2.2).bind fun t450=>(if t449=t450 then (jP.j0 k bt440.2.2 t449 (decide (t449<0)) bt440.1 bt440.2.1) else (jP.j0 k bt440.2.2 t449 true bt440.1 bt440.2.1))))))=some r:=h
 clear h
 by_cases c2:(l0.length:Int) > 1048576
 ·rw [if_pos c2] at H
  have c2b0:decide (1048576<(l0.length:Int))=true:=dzT c2
  have c2b1:decide (1048576<l0.length)=true:=dzT (by omega)
  clear c2
  obtain rfl:=Option.some.inj H
  go_enter Tryd.func3,Tryd.ntmps3
  go_wp2
  go_ret
  exact ⟨Y1,bq⟩
 ·rw [if_neg c2] at H
  have c2b0:decide (1048576<(l0.length:Int))=false:=dzF c2
  have c2b1:decide (1048576<l0.length)=false:=dzF (by omega)
  clear c2
  replace H:=bzS H
  obtain ⟨⟨t440,t443,t446⟩,A30,H⟩:=H
  replace H:((jcb.f k t440 t443 t446).bind fun t449=>((jEa.f k t440 t443 t446).bind fun t450=>(if t449=t450 then (jP.j0 k t446 t449 (decide (t449<0)) t440 t443) else (jP.j0 k t446 t449 true t440 t443))))=some r:=H
  have A3:=am A30
  clear A30
  replace H:=bzS H
  obtain ⟨t449,A40,H⟩:=H
  replace H:((jEa.f k t440 t443 t446).bind fun t450=>(if t449=t450 then (jP.j0 k t446 t449 (decide (t449<0)) t440 t443) else (jP.j0 k t446 t449 true t440 t443)))=some r:=H
  have A4:=am A40
  clear A40
  have HC5:=am H
  clear H
  go_enter Tryd.func3,Tryd.ntmps3
  go_upto_region 5 with (first |((with_reducible refine jw (f:=7) rfl ?_);refine gL (some 19) Tryd.func7 #[.slice A0 l0.length c0] ?_;(with_reducible refine (jUa.calls k _ _ l0 t440 t443 t446 _ ?side1 ?side2 A3.out).mono ?_);(case side1=>exact Y173);(case side2=>exact HC0.out);rintro e w6 ⟨v441,v444,rfl,ho0,ho1,hb⟩;refine ⟨_,rfl,?_⟩;have HO442:=am (Kd.jfa ho0 (jI (bq)));have HO445:=am (Kd.jfa ho1 (jI (bq)));replace HB:=am (je (bq) hb);(try clear hb);(try clear hb2);(try clear hk);(try clear hi);(try clear ho0);(try clear ho1)) |((with_reducible refine jC (N:=3) rfl ?_);(try (refine jTa (by rfl) ?_;dsimp only));refine jjb ?hg (N:=3) ?hd (cs:=#[.slice none 0 0]) (t:=25) ?hr ?_;(case hd=>rfl);(case hg=>rfl);(case hr=>exact Y3);intro gb447 hg w7 hbox hb;have BK447:=am (hbox);have GW447:=am ((Y0:w.heap.size≤gb447));have GE447:=am ((Y0:w.heap.size≤gb447));replace HO442:=am (Kd.jM (rq HO442.out) hb);replace HO445:=am (Kd.jM (rq HO445.out) hb);replace HB:=am (je (bq) hb);clear hb hbox hg) |((with_reducible refine jC (N:=4) rfl ?_);(try (refine jTa (by rfl) ?_;dsimp only));refine jjb ?hg (N:=4) ?hd (cs:=#[.slice none 0 0]) (t:=28) ?hr ?_;(case hd=>rfl);(case hg=>rfl);(case hr=>exact Y3);intro gb448 hg w8 hbox hb;have BK448:=am (hbox);have GW448:=am ((Y186:w.heap.size≤gb448));have GE448:=am ((Y186:w.heap.size≤gb448));have NB447_448:=am ((by rw [hg];exact Nat.ne_of_lt (jaa (g:=gb447) (o:=.cells #[.slice none 0 0] 25 (0,0)) (kq BK447.out)):gb447≠gb448));have NB448_447:=am ((by rw [hg];exact Nat.ne_of_gt (jaa (g:=gb447) (o:=.cells #[.slice none 0 0] 25 (0,0)) (kq BK447.out)):gb448≠gb447));replace HO442:=am (Kd.jM (rq HO442.out) hb);replace HO445:=am (Kd.jM (rq HO445.out) hb);replace BK447:=am (jc (g:=gb447) (o:=.cells #[.slice none 0 0] 25 (0,0)) (kq BK447.out) hb);replace HB:=am (je (by repeat (first |(with_reducible first | exact HB.out | apply jr | apply jo | apply jq | refine jl ?_ GE447.out) | exact HB.out)) hb);clear hb hbox hg;obtain ⟨Ao9,co9,eo9⟩:=Kd.jX HO442.out;subst eo9;have hnb10:=NB447_448.out;have hnc10:=NB448_447.out;have hcz11_0:=bc0 BK447.out;have hfz11_0:=jb BK447.out 0;obtain ⟨Ao12,co12,eo12⟩:=Kd.jX HO445.out;subst eo12;have hcz13_0:=bc0 BK448.out;have hfz13_0:=jb BK448.out 0) |((with_reducible refine jw (f:=8) rfl ?_);refine gL (some 26) Tryd.func8 #[.agg #[.slice Ao9 t440.length co9], .agg #[.slice Ao12 t443.length co12], .int .i64 t446] ?_;(with_reducible refine (jcb.calls k _ _ t440 _ _ t443 t446 t449 _ ?side1 ?side2 ?side3 ?side4 A4.out).mono ?_);(case side1=>refine (Kd.jA (e:=99) (base:=w.heap.size) (ok:=fun k_=>True) (n:=t440.length) (c:=co9) ?_).2.2;exact (Y187));(case side2=>exact (Kd.jA HO442.out).2.1);(case side3=>refine (Kd.jA (e:=66) (base:=w.heap.size) (ok:=fun k_=>True) (n:=t443.length) (c:=co12) ?_).2.2;exact (Y188));(case side4=>exact (Kd.jA HO445.out).2.1);rintro e w14 ⟨rfl,hb⟩;refine ⟨_,rfl,?_⟩;replace HO442:=am (Kd.jM (Y187) hb);replace HO445:=am (Kd.jM (Y188) hb);replace BK447:=am (jc (g:=gb447) (o:=.cells #[.slice Ao9 t440.length co9] 25 (0,0)) (by (with_reducible repeat (first | refine jg ?_ _ | refine jf ?_ | refine jh ?_ _));refine jV ?_ NB447_448.out _;(with_reducible repeat (first | refine jg ?_ _ | refine jf ?_ | refine jh ?_ _));refine jAa (cs:=#[.slice none 0 0]) ?_ 0 _ rfl;(with_reducible repeat (first | refine jg ?_ _ | refine jf ?_ | refine jh ?_ _));exact BK447.out) hb);replace BK448:=am (jc (g:=gb448) (o:=.cells #[.slice Ao12 t443.length co12] 28 (0,0)) (by (with_reducible repeat (first | refine jg ?_ _ | refine jf ?_ | refine jh ?_ _));refine jAa (cs:=#[.slice none 0 0]) ?_ 0 _ rfl;(with_reducible repeat (first | refine jg ?_ _ | refine jf ?_ | refine jh ?_ _));refine jV ?_ NB448_447.out _;(with_reducible repeat (first | refine jg ?_ _ | refine jf ?_ | refine jh ?_ _));exact BK448.out) hb);replace HB:=am (je (Y28) hb);(try clear hb);(try clear hb2);(try clear hk);(try clear hi)))
  (try simp only [Act.put,List.setIfInBounds_toArray,List.set_cons_zero,List.set_cons_succ])
  go_cut [36] (fun v36 wc=>∃ (kq:Nat) (x36_4:Bool),v36=.bool x36_4∧jD (jP.j0 kq t446 t449 x36_4 t440 t443=some r)∧jD (kq≤k)∧jD (Kd.R k99 99 wc w.heap.size (fun _=>True) (.slice Ao9 t440.length co9) t440)∧jD (Kd.R k66 66 wc w.heap.size (fun _=>True) (.slice Ao12 t443.length co12) t443)∧jD (wc.heap[gb447]?=some (.cells #[(.slice Ao9 t440.length co9)] 25 (0,0)))∧jD (wc.heap[gb448]?=some (.cells #[(.slice Ao12 t443.length co12)] 28 (0,0)))∧jD (Below w.heap.size w wc))
  case first =>
   have H:=HC5.out
   clear HC5
   replace H:=bzS H
   obtain ⟨t450,A150,H⟩:=H
   replace H:(if t449=t450 then (jP.j0 k t446 t449 (decide (t449<0)) t440 t443) else (jP.j0 k t446 t449 true t440 t443))=some r:=H
   have A15:=am A150
   clear A150
   by_cases c16:t449=t450
   ·rw [if_pos c16] at H
    have c16b0:(t449 == t450)=true:=beq_iff_eq.mpr c16
    have c16b1:(t449 != t450)=false:=bne_eq_false_iff_eq.mpr c16
    clear c16
    (first | rw [c16b0] |(simp only [jBb,jHb];rw [c16b0]) | skip)
    have H':=am H
    clear H
    have hnb17:=NB447_448.out
    have hnc17:=NB448_447.out
    have hcz18_0:=bc0 BK447.out
    have hfz18_0:=jb BK447.out 0
    have hcz19_0:=bc0 BK448.out
    have hfz19_0:=jb BK448.out 0
    go_wp2_with (first |((with_reducible refine jw (f:=9) rfl ?_);refine gL (some 31) Tryd.func9 #[.agg #[.slice Ao9 t440.length co9], .agg #[.slice Ao12 t443.length co12], .int .i64 t446] ?_;(with_reducible refine (jEa.calls k _ _ t440 _ _ t443 t446 t450 _ ?side1 ?side2 ?side3 ?side4 A15.out).mono ?_);(case side1=>exact cq (Kd.jA HO442.out).2.2);(case side2=>exact (Kd.jA HO442.out).2.1);(case side3=>exact cq (Kd.jA HO445.out).2.2);(case side4=>exact (Kd.jA HO445.out).2.1);rintro e w20 ⟨rfl,hb⟩;refine ⟨_,rfl,?_⟩;replace HO442:=am (Kd.jM (rq HO442.out) hb);replace HO445:=am (Kd.jM (rq HO445.out) hb);replace BK447:=am (jc (g:=gb447) (o:=.cells #[.slice Ao9 t440.length co9] 25 (0,0)) (kq BK447.out) hb);replace BK448:=am (jc (g:=gb448) (o:=.cells #[.slice Ao12 t443.length co12] 28 (0,0)) (kq BK448.out) hb);replace HB:=am (je (Y28) hb);(try clear hb);(try clear hb2);(try clear hk);(try clear hi)))
    go_meet
    case rel=>exact ⟨_,(decide (t449<0)),(sq),H',⟨Y63⟩,⟨rq HO442.out⟩,⟨rq HO445.out⟩,⟨kq BK447.out⟩,⟨kq BK448.out⟩,⟨Y28⟩⟩
   ·rw [if_neg c16] at H
    have c16b0:(t449 == t450)=false:=beq_eq_false_iff_ne.mpr c16
    have c16b1:(t449 != t450)=true:=bne_iff_ne.mpr c16
    (first | rw [c16b0] |(simp only [jBb,jHb];rw [c16b0]) | skip)
    have H':=am H
    clear H
    have hnb21:=NB447_448.out
    have hnc21:=NB448_447.out
    have hcz22_0:=bc0 BK447.out
    have hfz22_0:=jb BK447.out 0
    have hcz23_0:=bc0 BK448.out
    have hfz23_0:=jb BK448.out 0
    go_wp2_with (first |((with_reducible refine jw (f:=9) rfl ?_);refine gL (some 31) Tryd.func9 #[.agg #[.slice Ao9 t440.length co9], .agg #[.slice Ao12 t443.length co12], .int .i64 t446] ?_;(with_reducible refine (jEa.calls k _ _ t440 _ _ t443 t446 t450 _ ?side1 ?side2 ?side3 ?side4 A15.out).mono ?_);(case side1=>exact cq (Kd.jA HO442.out).2.2);(case side2=>exact (Kd.jA HO442.out).2.1);(case side3=>exact cq (Kd.jA HO445.out).2.2);(case side4=>exact (Kd.jA HO445.out).2.1);rintro e w24 ⟨rfl,hb⟩;refine ⟨_,rfl,?_⟩;replace HO442:=am (Kd.jM (rq HO442.out) hb);replace HO445:=am (Kd.jM (rq HO445.out) hb);replace BK447:=am (jc (g:=gb447) (o:=.cells #[.slice Ao9 t440.length co9] 25 (0,0)) (kq BK447.out) hb);replace BK448:=am (jc (g:=gb448) (o:=.cells #[.slice Ao12 t443.length co12] 28 (0,0)) (kq BK448.out) hb);replace HB:=am (je (Y28) hb);(try clear hb);(try clear hb2);(try clear hk);(try clear hi)))
    go_meet
    case rel=>exact ⟨_,(true),(sq),H',⟨Y63⟩,⟨rq HO442.out⟩,⟨rq HO445.out⟩,⟨kq BK447.out⟩,⟨kq BK448.out⟩,⟨Y28⟩⟩
  case rest =>
   clear HC5
   try clear c1
   try clear c2
   try clear c2b0
   try clear c2b1
   try clear p2
   try clear c3
   try clear c7
   try clear c8
   try clear c9
   try clear c10
   try clear c16
   try clear c16b0
   try clear c16b1
   try clear c17
   try clear c21
   try clear hcz11_0
   try clear hcz13_0
   try clear hcz18_0
   try clear hcz19_0
   try clear hcz22_0
   try clear hcz23_0
   try clear hfz11_0
   try clear hfz13_0
   try clear hfz18_0
   try clear hfz19_0
   try clear hfz22_0
   try clear hfz23_0
   obtain ⟨kq,x36_4,rfl,HA,HJ4,HO_448000,HO_449000,BK447,BK448,HB⟩:=hcut
   cases kq with
   | zero=>exact absurd HA.out (by simp [jP.j0])
   | succ kj4 =>
    have H:=HA.out
    clear HA
    simp only [jP.j0] at H
    by_cases c25:x36_4=true
    ·subst c25
     have H1:((jEa.f kj4 t440 t443 t446).bind fun t451=>(some (t449 == t451)))=some r:=by rw [if_pos rfl] at H;exact H
     clear H
     have H:=H1
     clear H1
     replace H:=bzS H
     obtain ⟨t451,A260,H⟩:=H
     replace H:(some (t449 == t451))=some r:=H
     have A26:=am A260
     clear A260
     obtain rfl:=Option.some.inj H
     have hnb27:=NB447_448.out
     have hnc27:=NB448_447.out
     have hcz28_0:=bc0 BK447.out
     have hfz28_0:=jb BK447.out 0
     have hcz29_0:=bc0 BK448.out
     have hfz29_0:=jb BK448.out 0
     go_wp2_with (first |((with_reducible refine jw (f:=9) rfl ?_);refine gL (some 41) Tryd.func9 #[.agg #[.slice Ao9 t440.length co9], .agg #[.slice Ao12 t443.length co12], .int .i64 t446] ?_;(with_reducible refine (jEa.calls kj4 _ _ t440 _ _ t443 t446 t451 _ ?side1 ?side2 ?side3 ?side4 A26.out).mono ?_);(case side1=>exact cq (Kd.jA HO_448000.out).2.2);(case side2=>exact (Kd.jA HO_448000.out).2.1);(case side3=>exact cq (Kd.jA HO_449000.out).2.2);(case side4=>exact (Kd.jA HO_449000.out).2.1);rintro e w30 ⟨rfl,hb⟩;refine ⟨_,rfl,?_⟩;replace HO_448000:=am (Kd.jM (rq HO_448000.out) hb);replace HO_449000:=am (Kd.jM (rq HO_449000.out) hb);replace BK447:=am (jc (g:=gb447) (o:=.cells #[.slice Ao9 t440.length co9] 25 (0,0)) (kq BK447.out) hb);replace BK448:=am (jc (g:=gb448) (o:=.cells #[.slice Ao12 t443.length co12] 28 (0,0)) (kq BK448.out) hb);replace HB:=am (je (Y28) hb);(try clear hb);(try clear hb2);(try clear hk);(try clear hi)))
     go_ret
     exact ⟨Y1,Y28⟩
    ·replace c25:=Bool.eq_false_iff.mpr c25
     subst c25
     have H1:((jrb.f kj4 t440 t443 t446).bind fun t452=>((jBa.f kj4 t440 t443 t446).bind fun t455=>((jYa.f kj4 t440 t443 t449 true).bind fun bt456=>((jgb.f kj4 t440 bt456.1 t449 (-1)).bind fun bt461=>((jBa.f kj4 t440 bt461.1 t449).bind fun t466=>(if 0≤(wrap64 ((t452.length:Int) - 1)) then (if (wrap64 ((t452.length:Int) - 1))<(t452.length:Int) then (if (rd t452 (wrap64 ((t452.length:Int) - 1)))=t449 then (if bt456.2=true then (if bt461.2=true then (if (t466.size:Int)≤(t455.size:Int) then (if 0≤(t466.size:Int) then (some ((t455.extract 0 ((t466.size:Int):Int).toNat).toList == t466.toList)) else (none)) else (some false)) else (some false)) else (some false)) else (some false)) else (none)) else (none)))))))=some r:=by rw [if_neg (show ¬ (false=true) by decide)] at H;exact H
     clear H
     have H:=H1
     clear H1
     replace H:=bzS H
     obtain ⟨t452,A310,H⟩:=H
     replace H:((jBa.f kj4 t440 t443 t446).bind fun t455=>((jYa.f kj4 t440 t443 t449 true).bind fun bt456=>((jgb.f kj4 t440 bt456.1 t449 (-1)).bind fun bt461=>((jBa.f kj4 t440 bt461.1 t449).bind fun t466=>(if 0≤(wrap64 ((t452.length:Int) - 1)) then (if (wrap64 ((t452.length:Int) - 1))<(t452.length:Int) then (if (rd t452 (wrap64 ((t452.length:Int) - 1)))=t449 then (if bt456.2=true then (if bt461.2=true then (if (t466.size:Int)≤(t455.size:Int) then (if 0≤(t466.size:Int) then (some ((t455.extract 0 ((t466.size:Int):Int).toNat).toList == t466.toList)) else (none)) else (some false)) else (some false)) else (some false)) else (some false)) else (none)) else (none))))))=some r:=H
     have A31:=am A310
     clear A310
     replace H:=bzS H
     obtain ⟨t455,A320,H⟩:=H
     replace H:((jYa.f kj4 t440 t443 t449 true).bind fun bt456=>((jgb.f kj4 t440 bt456.1 t449 (-1)).bind fun bt461=>((jBa.f kj4 t440 bt461.1 t449).bind fun t466=>(if 0≤(wrap64 ((t452.length:Int) - 1)) then (if (wrap64 ((t452.length:Int) - 1))<(t452.length:Int) then (if (rd t452 (wrap64 ((t452.length:Int) - 1)))=t449 then (if bt456.2=true then (if bt461.2=true then (if (t466.size:Int)≤(t455.size:Int) then (if 0≤(t466.size:Int) then (some ((t455.extract 0 ((t466.size:Int):Int).toNat).toList == t466.toList)) else (none)) else (some false)) else (some false)) else (some false)) else (some false)) else (none)) else (none)))))=some r:=H
     have A32:=am A320
     clear A320
     replace H:=bzS H
     obtain ⟨⟨t456,t459⟩,A330,H⟩:=H
     replace H:((jgb.f kj4 t440 t456 t449 (-1)).bind fun bt461=>((jBa.f kj4 t440 bt461.1 t449).bind fun t466=>(if 0≤(wrap64 ((t452.length:Int) - 1)) then (if (wrap64 ((t452.length:Int) - 1))<(t452.length:Int) then (if (rd t452 (wrap64 ((t452.length:Int) - 1)))=t449 then (if t459=true then (if bt461.2=true then (if (t466.size:Int)≤(t455.size:Int) then (if 0≤(t466.size:Int) then (some ((t455.extract 0 ((t466.size:Int):Int).toNat).toList == t466.toList)) else (none)) else (some false)) else (some false)) else (some false)) else (some false)) else (none)) else (none))))=some r:=H
     have A33:=am A330
     clear A330
     replace H:=bzS H
     obtain ⟨⟨t461,t464⟩,A340,H⟩:=H
     replace H:((jBa.f kj4 t440 t461 t449).bind fun t466=>(if 0≤(wrap64 ((t452.length:Int) - 1)) then (if (wrap64 ((t452.length:Int) - 1))<(t452.length:Int) then (if (rd t452 (wrap64 ((t452.length:Int) - 1)))=t449 then (if t459=true then (if t464=true then (if (t466.size:Int)≤(t455.size:Int) then (if 0≤(t466.size:Int) then (some ((t455.extract 0 ((t466.size:Int):Int).toNat).toList == t466.toList)) else (none)) else (some false)) else (some false)) else (some false)) else (some false)) else (none)) else (none)))=some r:=H
     have A34:=am A340
     clear A340
     replace H:=bzS H
     obtain ⟨t466,A350,H⟩:=H
     replace H:(if 0≤(wrap64 ((t452.length:Int) - 1)) then (if (wrap64 ((t452.length:Int) - 1))<(t452.length:Int) then (if (rd t452 (wrap64 ((t452.length:Int) - 1)))=t449 then (if t459=true then (if t464=true then (if (t466.size:Int)≤(t455.size:Int) then (if 0≤(t466.size:Int) then (some ((t455.extract 0 ((t466.size:Int):Int).toNat).toList == t466.toList)) else (none)) else (some false)) else (some false)) else (some false)) else (some false)) else (none)) else (none))=some r:=H
     have A35:=am A350
     clear A350
     obtain ⟨ji36,hji36⟩:∃ j_:Int,(wrap64 ((t452.length:Int) - 1))=j_:=⟨_,rfl⟩
     replace H:(if 0≤(ji36) then (if (ji36)<(t452.length:Int) then (if (rd t452 (ji36))=t449 then (if t459=true then (if t464=true then (if (t466.size:Int)≤(t455.size:Int) then (if 0≤(t466.size:Int) then (some ((t455.extract 0 ((t466.size:Int):Int).toNat).toList == t466.toList)) else (none)) else (some false)) else (some false)) else (some false)) else (some false)) else (none)) else (none))=some r:=by first |(rw [hji36] at H;exact H) |(simp only [hji36] at H ⊢;exact H)
     (try rw [hji36] at A31)
     (try rw [hji36] at A32)
     (try rw [hji36] at A33)
     (try rw [hji36] at A34)
     (try rw [hji36] at A35)
     have hji36w:(IntKind.i64.wrap ((t452.length:Int) - 1))=ji36:=(jBb _).trans hji36
     by_cases c37:0≤(ji36)
     ·rw [if_pos c37] at H
      have c37b0:decide (0≤(ji36))=true:=dzT c37
      clear c37
      by_cases c38:(ji36)<(t452.length:Int)
      ·rw [if_pos c38] at H
       have c38b0:decide ((ji36)<(t452.length:Int))=true:=dzT c38
       clear c38
       by_cases c39:(rd t452 (ji36))=t449
       ·rw [if_pos c39] at H
        have c39b0:((rd t452 (ji36)) == t449)=true:=beq_iff_eq.mpr c39
        have c39b1:((rd t452 (ji36)) != t449)=false:=bne_eq_false_iff_eq.mpr c39
        clear c39
        by_cases c40:t459=true
        ·subst c40
         have H1:(if t464=true then (if (t466.size:Int)≤(t455.size:Int) then (if 0≤(t466.size:Int) then (some ((t455.extract 0 ((t466.size:Int):Int).toNat).toList == t466.toList)) else (none)) else (some false)) else (some false))=some r:=by rw [if_pos rfl] at H;exact H
         clear H
         have H:=H1
         clear H1
         by_cases c41:t464=true
         ·subst c41
          have H1:(if (t466.size:Int)≤(t455.size:Int) then (if 0≤(t466.size:Int) then (some ((t455.extract 0 ((t466.size:Int):Int).toNat).toList == t466.toList)) else (none)) else (some false))=some r:=by rw [if_pos rfl] at H;exact H
          clear H
          have H:=H1
          clear H1
          by_cases c42:(t466.size:Int)≤(t455.size:Int)
          ·rw [if_pos c42] at H
           have c42b0:decide ((t466.size:Int)≤(t455.size:Int))=true:=dzT c42
           have c42b1:decide (t466.size≤t455.size)=true:=dzT (Int.ofNat_le.mp c42)
           clear c42
           by_cases c43:0≤(t466.size:Int)
           ·rw [if_pos c43] at H
            have c43b0:=ezT c43
            have c43b1:decide (0≤(t466.size:Int))=true:=dzT c43
            clear c43
            have c44b0:=ezT (ozD (uq):(t466.size:Int)≤(t455.size:Int))
            obtain rfl:=Option.some.inj H
            have hnb45:=NB447_448.out
            have hnc45:=NB448_447.out
            have hcz46_0:=bc0 BK447.out
            have hfz46_0:=jb BK447.out 0
            have hcz47_0:=bc0 BK448.out
            have hfz47_0:=jb BK448.out 0
            go_wp2_with (first |((with_reducible refine jw (f:=10) rfl ?_);refine gL (some 46) Tryd.func10 #[.agg #[.slice Ao9 t440.length co9], .agg #[.slice Ao12 t443.length co12], .int .i64 t446] ?_;(with_reducible refine (jrb.calls kj4 _ _ t440 _ _ t443 t446 t452 _ ?side1 ?side2 ?side3 ?side4 A31.out).mono ?_);(case side1=>exact cq (Kd.jA HO_448000.out).2.2);(case side2=>exact (Kd.jA HO_448000.out).2.1);(case side3=>exact cq (Kd.jA HO_449000.out).2.2);(case side4=>exact (Kd.jA HO_449000.out).2.1);rintro e w48 ⟨v453,rfl,ho0,hb⟩;refine ⟨_,rfl,?_⟩;have HO454:=am (Kd.jfa ho0 (jI (Y28)));replace HO_448000:=am (Kd.jM (rq HO_448000.out) hb);replace HO_449000:=am (Kd.jM (rq HO_449000.out) hb);replace BK447:=am (jc (g:=gb447) (o:=.cells #[.slice Ao9 t440.length co9] 25 (0,0)) (kq BK447.out) hb);replace BK448:=am (jc (g:=gb448) (o:=.cells #[.slice Ao12 t443.length co12] 28 (0,0)) (kq BK448.out) hb);replace HB:=am (je (Y28) hb);(try clear hb);(try clear hb2);(try clear hk);(try clear hi);(try clear ho0);have hcz49_0:=bc0 BK447.out;have hfz49_0:=jb BK447.out 0;have hcz50_0:=bc0 BK448.out;have hfz50_0:=jb BK448.out 0) |((with_reducible refine jw (f:=11) rfl ?_);refine gL (some 50) Tryd.func11 #[.agg #[.slice Ao9 t440.length co9], .agg #[.slice Ao12 t443.length co12], .int .i64 t446] ?_;(with_reducible refine (jBa.calls kj4 _ _ t440 _ _ t443 t446 t455 _ ?side1 ?side2 ?side3 ?side4 A32.out).mono ?_);(case side1=>exact cq (Kd.jA HO_448000.out).2.2);(case side2=>exact (Kd.jA HO_448000.out).2.1);(case side3=>exact cq (Kd.jA HO_449000.out).2.2);(case side4=>exact (Kd.jA HO_449000.out).2.1);rintro e w51 ⟨rfl,hb⟩;refine ⟨_,rfl,?_⟩;replace HO_448000:=am (Kd.jM (rq HO_448000.out) hb);replace HO_449000:=am (Kd.jM (rq HO_449000.out) hb);replace HO454:=am (Kd.jM (rq HO454.out) hb);replace BK447:=am (jc (g:=gb447) (o:=.cells #[.slice Ao9 t440.length co9] 25 (0,0)) (kq BK447.out) hb);replace BK448:=am (jc (g:=gb448) (o:=.cells #[.slice Ao12 t443.length co12] 28 (0,0)) (kq BK448.out) hb);replace HB:=am (je (Y28) hb);(try clear hb);(try clear hb2);(try clear hk);(try clear hi);have hcz52_0:=bc0 BK447.out;have hfz52_0:=jb BK447.out 0;have hcz53_0:=bc0 BK448.out;have hfz53_0:=jb BK448.out 0) |((with_reducible refine jw (f:=12) rfl ?_);refine gL (some 55) Tryd.func12 #[.agg #[.slice Ao9 t440.length co9], .agg #[.slice Ao12 t443.length co12], .int .i64 t449, .bool true] ?_;(with_reducible refine (jYa.calls kj4 _ _ t440 _ _ t443 t449 true t456 true _ ?side1 ?side2 ?side3 ?side4 A33.out).mono ?_);(case side1=>exact cq (Kd.jA HO_448000.out).2.2);(case side2=>exact (Kd.jA HO_448000.out).2.1);(case side3=>exact cq (Kd.jA HO_449000.out).2.2);(case side4=>exact (Kd.jA HO_449000.out).2.1);rintro e w54 ⟨v457,rfl,ho0,hb⟩;refine ⟨_,rfl,?_⟩;have HO458:=am (Kd.jfa (Kd.R_new' ho0 (Kd.R_lt (rq HO_449000.out))) (jI (Y28)));replace HO_448000:=am (Kd.jM (rq HO_448000.out) hb);replace HO_449000:=am (Kd.R_elder' (rq HO_449000.out) (Kd.R_base ho0) hb);replace HO454:=am (Kd.jM (rq HO454.out) hb);replace BK447:=am (jc (g:=gb447) (o:=.cells #[.slice Ao9 t440.length co9] 25 (0,0)) (kq BK447.out) hb);replace BK448:=am (jc (g:=gb448) (o:=.cells #[.slice Ao12 t443.length co12] 28 (0,0)) (kq BK448.out) hb);replace HB:=am (je (Y28) hb);(try clear hb);(try clear hb2);(try clear hk);(try clear hi);(try clear ho0)) |((with_reducible refine jC (N:=9) rfl ?_);(try (refine jTa (by rfl) ?_;dsimp only));refine jjb ?hg (N:=9) ?hd (cs:=#[.slice none 0 0]) (t:=28) ?hr ?_;(case hd=>rfl);(case hg=>rfl);(case hr=>exact Y3);intro gb460 hg w55 hbox hb;have BK460:=am (hbox);have GW460:=am ((Y189:w.heap.size≤gb460));have GE460:=am ((Y189:w.heap.size≤gb460));have NB447_460:=am ((by rw [hg];exact Nat.ne_of_lt (jaa (g:=gb447) (o:=.cells #[.slice Ao9 t440.length co9] 25 (0,0)) (kq BK447.out)):gb447≠gb460));have NB460_447:=am ((by rw [hg];exact Nat.ne_of_gt (jaa (g:=gb447) (o:=.cells #[.slice Ao9 t440.length co9] 25 (0,0)) (kq BK447.out)):gb460≠gb447));have NB448_460:=am ((by rw [hg];exact Nat.ne_of_lt (jaa (g:=gb448) (o:=.cells #[.slice Ao12 t443.length co12] 28 (0,0)) (kq BK448.out)):gb448≠gb460));have NB460_448:=am ((by rw [hg];exact Nat.ne_of_gt (jaa (g:=gb448) (o:=.cells #[.slice Ao12 t443.length co12] 28 (0,0)) (kq BK448.out)):gb460≠gb448));replace HO_448000:=am (Kd.jM (rq HO_448000.out) hb);replace HO_449000:=am (Kd.jM (rq HO_449000.out) hb);replace HO454:=am (Kd.jM (rq HO454.out) hb);replace HO458:=am (Kd.jM (rq HO458.out) hb);replace BK447:=am (jc (g:=gb447) (o:=.cells #[.slice Ao9 t440.length co9] 25 (0,0)) (kq BK447.out) hb);replace BK448:=am (jc (g:=gb448) (o:=.cells #[.slice Ao12 t443.length co12] 28 (0,0)) (kq BK448.out) hb);replace HB:=am (je (Y28) hb);clear hb hbox hg;obtain ⟨Ao56,co56,eo56⟩:=Kd.jX HO458.out;subst eo56;have hnb57:=NB460_447.out;have hnc57:=NB447_460.out;have hnb58:=NB460_448.out;have hnc58:=NB448_460.out;have hcz59_0:=bc0 BK460.out;have hfz59_0:=jb BK460.out 0;have hcz60_0:=bc0 BK447.out;have hfz60_0:=jb BK447.out 0) |((with_reducible refine jw (f:=13) rfl ?_);refine gL (some 62) Tryd.func13 #[.agg #[.slice Ao9 t440.length co9], .agg #[.slice Ao56 t456.length co56], .int .i64 t449, .int .i64 (-1)] ?_;(with_reducible refine (jgb.calls kj4 _ _ t440 _ _ t456 t449 (-1) t461 true _ ?side1 ?side2 ?side3 ?side4 A34.out).mono ?_);(case side1=>refine (Kd.jA (e:=99) (base:=w.heap.size) (ok:=fun k_=>True) (n:=t440.length) (c:=co9) ?_).2.2;exact (Y190));(case side2=>exact (Kd.jA HO_448000.out).2.1);(case side3=>refine (Kd.jA (e:=66) (base:=w.heap.size) (ok:=fun k_=>(True∧some k_≠(.slice Ao12 t443.length co12:Value).ownBlock)) (n:=t456.length) (c:=co56) ?_).2.2;exact (Y147));(case side4=>exact (Kd.jA HO458.out).2.1);rintro e w61 ⟨v462,rfl,ho0,hb⟩;refine ⟨_,rfl,?_⟩;have HO463:=am (Kd.jfa (Kd.R_new' (Kd.R_new' ho0 (Kd.R_lt (Y191))) (Kd.R_lt (Y147))) (jI (Y148)));replace HO_448000:=am (Kd.jM (Y190) hb);replace HO_449000:=am (Kd.R_elder' (Y191) (Kd.R_base ho0) hb);replace HO454:=am (Kd.jM (by (with_reducible repeat (first | apply Kd.jU | apply Kd.jY | apply Kd.jW));exact (Kd.jH (Kd.jva (p:=⟨gb460,0,none⟩) (Kd.jL HO454.out BK460.out (by decide)) (fun _ hk=>hk.2) (.slice Ao56 t456.length co56)) (fun _ h_=>h_.1))) hb);replace HO458:=am (Kd.R_elder' (Y147) (Kd.R_base ho0) hb);replace BK447:=am (jc (g:=gb447) (o:=.cells #[.slice Ao9 t440.length co9] 25 (0,0)) (by (with_reducible repeat (first | refine jg ?_ _ | refine jf ?_ | refine jh ?_ _));refine jV ?_ NB447_460.out _;(with_reducible repeat (first | refine jg ?_ _ | refine jf ?_ | refine jh ?_ _));exact BK447.out) hb);replace BK448:=am (jc (g:=gb448) (o:=.cells #[.slice Ao12 t443.length co12] 28 (0,0)) (by (with_reducible repeat (first | refine jg ?_ _ | refine jf ?_ | refine jh ?_ _));refine jV ?_ NB448_460.out _;(with_reducible repeat (first | refine jg ?_ _ | refine jf ?_ | refine jh ?_ _));exact BK448.out) hb);replace BK460:=am (jc (g:=gb460) (o:=.cells #[.slice Ao56 t456.length co56] 28 (0,0)) (by (with_reducible repeat (first | refine jg ?_ _ | refine jf ?_ | refine jh ?_ _));refine jAa (cs:=#[.slice none 0 0]) ?_ 0 _ rfl;(with_reducible repeat (first | refine jg ?_ _ | refine jf ?_ | refine jh ?_ _));exact BK460.out) hb);replace HB:=am (je (Y148) hb);(try clear hb);(try clear hb2);(try clear hk);(try clear hi);(try clear ho0)) |((with_reducible refine jC (N:=11) rfl ?_);(try (refine jTa (by rfl) ?_;dsimp only));refine jjb ?hg (N:=11) ?hd (cs:=#[.slice none 0 0]) (t:=28) ?hr ?_;(case hd=>rfl);(case hg=>rfl);(case hr=>exact Y3);intro gb465 hg w62 hbox hb;have BK465:=am (hbox);have GW465:=am ((Y192:w.heap.size≤gb465));have GE465:=am ((Y192:w.heap.size≤gb465));have NB447_465:=am ((by rw [hg];exact Nat.ne_of_lt (jaa (g:=gb447) (o:=.cells #[.slice Ao9 t440.length co9] 25 (0,0)) (kq BK447.out)):gb447≠gb465));have NB465_447:=am ((by rw [hg];exact Nat.ne_of_gt (jaa (g:=gb447) (o:=.cells #[.slice Ao9 t440.length co9] 25 (0,0)) (kq BK447.out)):gb465≠gb447));have NB448_465:=am ((by rw [hg];exact Nat.ne_of_lt (jaa (g:=gb448) (o:=.cells #[.slice Ao12 t443.length co12] 28 (0,0)) (kq BK448.out)):gb448≠gb465));have NB465_448:=am ((by rw [hg];exact Nat.ne_of_gt (jaa (g:=gb448) (o:=.cells #[.slice Ao12 t443.length co12] 28 (0,0)) (kq BK448.out)):gb465≠gb448));have NB460_465:=am ((by rw [hg];exact Nat.ne_of_lt (jaa (g:=gb460) (o:=.cells #[.slice Ao56 t456.length co56] 28 (0,0)) (kq BK460.out)):gb460≠gb465));have NB465_460:=am ((by rw [hg];exact Nat.ne_of_gt (jaa (g:=gb460) (o:=.cells #[.slice Ao56 t456.length co56] 28 (0,0)) (kq BK460.out)):gb465≠gb460));replace HO_448000:=am (Kd.jM (rq HO_448000.out) hb);replace HO_449000:=am (Kd.jM (rq HO_449000.out) hb);replace HO454:=am (Kd.jM (rq HO454.out) hb);replace HO458:=am (Kd.jM (rq HO458.out) hb);replace HO463:=am (Kd.jM (rq HO463.out) hb);replace BK447:=am (jc (g:=gb447) (o:=.cells #[.slice Ao9 t440.length co9] 25 (0,0)) (kq BK447.out) hb);replace BK448:=am (jc (g:=gb448) (o:=.cells #[.slice Ao12 t443.length co12] 28 (0,0)) (kq BK448.out) hb);replace BK460:=am (jc (g:=gb460) (o:=.cells #[.slice Ao56 t456.length co56] 28 (0,0)) (kq BK460.out) hb);replace HB:=am (je (Y148) hb);clear hb hbox hg;obtain ⟨Ao63,co63,eo63⟩:=Kd.jX HO463.out;subst eo63;have hnb64:=NB465_447.out;have hnc64:=NB447_465.out;have hnb65:=NB465_448.out;have hnc65:=NB448_465.out;have hnb66:=NB465_460.out;have hnc66:=NB460_465.out;have hcz67_0:=bc0 BK465.out;have hfz67_0:=jb BK465.out 0;have hcz68_0:=bc0 BK447.out;have hfz68_0:=jb BK447.out 0) |((with_reducible refine jw (f:=11) rfl ?_);refine gL (some 68) Tryd.func11 #[.agg #[.slice Ao9 t440.length co9], .agg #[.slice Ao63 t461.length co63], .int .i64 t449] ?_;(with_reducible refine (jBa.calls kj4 _ _ t440 _ _ t461 t449 t466 _ ?side1 ?side2 ?side3 ?side4 A35.out).mono ?_);(case side1=>refine (Kd.jA (e:=99) (base:=w.heap.size) (ok:=fun k_=>True) (n:=t440.length) (c:=co9) ?_).2.2;exact (Y193));(case side2=>exact (Kd.jA HO_448000.out).2.1);(case side3=>refine (Kd.jA (e:=66) (base:=w.heap.size) (ok:=fun k_=>((True∧some k_≠(.slice Ao12 t443.length co12:Value).ownBlock)∧some k_≠(.slice Ao56 t456.length co56:Value).ownBlock)) (n:=t461.length) (c:=co63) ?_).2.2;exact (Y194));(case side4=>exact (Kd.jA HO463.out).2.1);rintro e w69 ⟨rfl,hb⟩;refine ⟨_,rfl,?_⟩;replace HO_448000:=am (Kd.jM (Y193) hb);replace HO_449000:=am (Kd.jM (by (with_reducible repeat (first | apply Kd.jU | apply Kd.jY | apply Kd.jW));exact (Kd.jH (Kd.jva (p:=⟨gb465,0,none⟩) (Kd.jL HO_449000.out BK465.out (by decide)) (fun _ hk=>hk.2) (.slice Ao63 t461.length co63)) (fun _ h_=>h_.1))) hb);replace HO454:=am (Kd.jM (by (with_reducible repeat (first | apply Kd.jU | apply Kd.jY | apply Kd.jW));exact (Kd.jH (Kd.jva (p:=⟨gb465,0,none⟩) (Kd.jL HO454.out BK465.out (by decide)) (fun _ hk=>hk.2) (.slice Ao63 t461.length co63)) (fun _ h_=>h_.1))) hb);replace HO458:=am (Kd.jM (by (with_reducible repeat (first | apply Kd.jU | apply Kd.jY | apply Kd.jW));exact (Kd.jH (Kd.jva (p:=⟨gb465,0,none⟩) (Kd.jL HO458.out BK465.out (by decide)) (fun _ hk=>hk.2) (.slice Ao63 t461.length co63)) (fun _ h_=>h_.1))) hb);replace HO463:=am (Kd.jM (Y194) hb);replace BK447:=am (jc (g:=gb447) (o:=.cells #[.slice Ao9 t440.length co9] 25 (0,0)) (by (with_reducible repeat (first | refine jg ?_ _ | refine jf ?_ | refine jh ?_ _));refine jV ?_ NB447_465.out _;(with_reducible repeat (first | refine jg ?_ _ | refine jf ?_ | refine jh ?_ _));exact BK447.out) hb);replace BK448:=am (jc (g:=gb448) (o:=.cells #[.slice Ao12 t443.length co12] 28 (0,0)) (by (with_reducible repeat (first | refine jg ?_ _ | refine jf ?_ | refine jh ?_ _));refine jV ?_ NB448_465.out _;(with_reducible repeat (first | refine jg ?_ _ | refine jf ?_ | refine jh ?_ _));exact BK448.out) hb);replace BK460:=am (jc (g:=gb460) (o:=.cells #[.slice Ao56 t456.length co56] 28 (0,0)) (by (with_reducible repeat (first | refine jg ?_ _ | refine jf ?_ | refine jh ?_ _));refine jV ?_ NB460_465.out _;(with_reducible repeat (first | refine jg ?_ _ | refine jf ?_ | refine jh ?_ _));exact BK460.out) hb);replace BK465:=am (jc (g:=gb465) (o:=.cells #[.slice Ao63 t461.length co63] 28 (0,0)) (by (with_reducible repeat (first | refine jg ?_ _ | refine jf ?_ | refine jh ?_ _));refine jAa (cs:=#[.slice none 0 0]) ?_ 0 _ rfl;(with_reducible repeat (first | refine jg ?_ _ | refine jf ?_ | refine jh ?_ _));exact BK465.out) hb);replace HB:=am (je (Y195) hb);(try clear hb);(try clear hb2);(try clear hk);(try clear hi);obtain ⟨Ao70,co70,eo70⟩:=Kd.jX HO454.out;subst eo70;have p467:0≤((ji36):Int):=ozD (uq);have q467:(ji36)<(t452.length:Int):=ozD (uq);obtain ⟨ad467,e467,hx467_0⟩:=Kd.jLb (Kd.jA HO454.out).2.2 (ji36) p467 q467;cases e467;replace p467:=ezT p467;replace q467:=ezT q467))
            go_ret
            exact ⟨by first | rfl |(simp [jib,jhb] <;> rfl) |(simp only [← hji36];first | rfl |(simp [jib,jhb] <;> rfl)) |(simp [*,jib,jhb] <;> rfl),Y195⟩
           ·rw [if_neg c43] at H
            exact absurd H (by simp)
          ·rw [if_neg c42] at H
           have c42b0:decide ((t466.size:Int)≤(t455.size:Int))=false:=dzF c42
           have c42b1:decide (t466.size≤t455.size)=false:=dzF (fun h=>c42 (Int.ofNat_le.mpr h))
           clear c42
           exact absurd ((Option.some.inj H).trans hT) Bool.false_ne_true
         ·replace c41:=Bool.eq_false_iff.mpr c41
          subst c41
          have H1:(some false)=some r:=by rw [if_neg (show ¬ (false=true) by decide)] at H;exact H
          clear H
          have H:=H1
          clear H1
          exact absurd ((Option.some.inj H).trans hT) Bool.false_ne_true
        ·replace c40:=Bool.eq_false_iff.mpr c40
         subst c40
         have H1:(some false)=some r:=by rw [if_neg (show ¬ (false=true) by decide)] at H;exact H
         clear H
         have H:=H1
         clear H1
         exact absurd ((Option.some.inj H).trans hT) Bool.false_ne_true
       ·rw [if_neg c39] at H
        have c39b0:((rd t452 (ji36)) == t449)=false:=beq_eq_false_iff_ne.mpr c39
        have c39b1:((rd t452 (ji36)) != t449)=true:=bne_iff_ne.mpr c39
        exact absurd ((Option.some.inj H).trans hT) Bool.false_ne_true
      ·rw [if_neg c38] at H
       exact absurd H (by simp)
     ·rw [if_neg c37] at H
      exact absurd H (by simp)
def jP.Pure : Prop := ∀ (l0 : List Int), l0.length ≤ maxLen → l0.length * 1 ≤ 140737488351232 → (∀ x ∈ l0, (Lit.int .u8 x).wf = true) → ∃ k, jP.f k l0 = some true
theorem jP.walk (P : jP.Pure) (a0 : Option Addr) (len0 cap0 : Nat) (z0 : List Int) (w : World) (w0 : (a0 = none ∧ len0 = 0 ∧ cap0 = 0 ∧ z0 = []) ∨ ∃ x, a0 = some x ∧ len0 ≤ cap0 ∧ cap0 ≤ maxLen ∧ z0.length = cap0 ∧ (∀ i, i < z0.length → w.cell? (x.add i) = some (.int .u8 (z0.getD i 0))) ∧ ∀ n ∈ z0, (Lit.int .u8 n).wf = true) (y0 : len0 * 1 ≤ 140737488351232) :
  Calls Tryd.prog 3 #[.slice a0 len0 cap0] w fun e w'=>e=.returned (.bool true)∧Below w.heap.size w w':=by
 obtain ⟨l0,rfl,hr0,hm0,hw0,hc0⟩:=jkb.ofRowC w0
 obtain ⟨k,h⟩:=P l0 hm0 y0 hw0
 refine (jP.calls k _ _ l0 true w (Kd.jtc (d:=(0:Int)) (h1:=fun _=>rfl) hr0) hc0 rfl h).mono ?_
 rintro e w' ⟨rfl,hd⟩
 exact ⟨rfl,hd⟩
def jic.f : Nat → Int → Option (ByteArray)
 | 0,_=>none
 | k+1,a0=>if a0<10 then (if 0≤a0 then (if a0≤(wrap64 (a0+1)) then (if (wrap64 (a0+1))≤10 then (some ((⟨#[48,49,50,51,52,53,54,55,56,57]⟩:ByteArray).extract (a0:Int).toNat ((wrap64 (a0+1)):Int).toNat)) else (none)) else (none)) else (none)) else ((jic.f k (wrap64 (Int.tdiv a0 10))).bind fun t481=>((jic.f k (Int.tmod a0 10)).bind fun t482=>(if t481.size+t482.size≤9223372036854775807 then (some (t481 ++ t482)) else (none))))
def jdc.f (k : Nat) (l0_0 : List (S99)) (a1 : Int) (a2 : Int) : Option (ByteArray) := if 0 ≤ a1 then (if a1 < (l0_0.length : Int) then (if ((jO l0_0 a1).f0).size + 1 ≤ 9223372036854775807 then ((jic.f k a2).bind fun t485 => (if (((jO l0_0 a1).f0) ++ (⟨#[58]⟩ : ByteArray)).size + t485.size ≤ 9223372036854775807 then (some ((((jO l0_0 a1).f0) ++ (⟨#[58]⟩ : ByteArray)) ++ t485)) else (none))) else (none)) else (none)) else (none)
mutual
def jya.l0 : Nat → List Int → ByteArray → Int → List (S99) → List (S66) → Option (ByteArray)
 | 0,_,_,_,_,_=>none
 | k+1,x7,x8,x9,x487000,x488000=>if x9≥0 then (if 0≤x9 then (if x9<(x7.length:Int) then (if 0≤(rd x7 x9) then (if (rd x7 x9)<(x488000.length:Int) then ((jdc.f k x487000 ((ja x488000 (rd x7 x9)).f0) ((ja x488000 (rd x7 x9)).f1)).bind fun t494=>(if x8.size+t494.size≤9223372036854775807 then (if x9 > 0 then (if 0≤(wrap64 (x9 - 1)) then (if (wrap64 (x9 - 1))<(x7.length:Int) then (if 0≤(rd x7 (wrap64 (x9 - 1))) then (if (rd x7 (wrap64 (x9 - 1)))<(x488000.length:Int) then (jya.j1 k x7 (x8 ++ t494) x9 (decide (((ja x488000 (rd x7 (wrap64 (x9 - 1)))).f2)≥0)) x487000 x488000) else (none)) else (none)) else (none)) else (none)) else (jya.j1 k x7 (x8 ++ t494) x9 false x487000 x488000)) else (none))) else (none)) else (none)) else (none)) else (none)) else (some x8)
def jya.j1 : Nat → List Int → ByteArray → Int → Bool → List (S99) → List (S66) → Option (ByteArray)
 | 0,_,_,_,_,_,_=>none
 | k+1,x7,x8,x9,x51,x487000,x488000=>if x51=true then (if x8.size+3≤9223372036854775807 then (jya.l0 k x7 (x8 ++ (⟨#[32,62,32]⟩:ByteArray)) (wrap64 (x9 - 1)) x487000 x488000) else (none)) else (if x9 > 0 then (if x8.size+3≤9223372036854775807 then (jya.l0 k x7 (x8 ++ (⟨#[32,126,32]⟩:ByteArray)) (wrap64 (x9 - 1)) x487000 x488000) else (none)) else (jya.l0 k x7 x8 (wrap64 (x9 - 1)) x487000 x488000))
end
def jya.f (k : Nat) (l0_0 : List (S99)) (l1_0 : List (S66)) (a2 : Int) : Option (ByteArray) := (jKa.f k l1_0 a2).bind fun t488 => (jya.l0 k t488 (⟨#[]⟩ : ByteArray) (wrap64 ((t488.length : Int) - 1)) l0_0 l1_0)
def spec_ChainText.f (k : Nat) (l0_0 : List (S99)) (l1_0 : List (S66)) (a2 : Int) : Option (ByteArray) := (jeb.f k l0_0 l1_0 a2).bind fun t499 => (if t499 = true then ((jya.f k l0_0 l1_0 a2).bind fun t500 => (some t500)) else (some (⟨#[]⟩ : ByteArray)))
end Go.Proofs.YteibechlncphnaaDoor.P
end
