/- One part of the proofs on this program: functions of the program as plain functions, that the code comes to them, and facts on them. -/
import Derived.Lib.SliceRun
import Derived.LoopIn
import Derived.LoopNIn
import Derived.OwnWalkIn
import Derived.RangeFuncBound
import Derived.RangeFuncBox
import Derived.RangeFuncCalls
import Derived.RangeFuncLeaves
import Derived.RangeFuncNested
import Derived.Shelf.Abstract
import Derived.Shelf.RegionOpen
import Derived.Shelf.Strconv.Itoa3
import Derived.TacticsInMore
import Derived.WalkKit
import Derived.Test.YteibechlncphnaaDoorYAll1
import Derived.Test.YteibechlncphnaaDoorYAll5
import Derived.Test.YteibechlncphnaaDoorYAll6
import Derived.Test.YteibechlncphnaaDoorYWAuto
section
namespace Go.Proofs.YteibechlncphnaaDoor.P
open Go.RowKit Go.Proofs.YteibechlncphnaaDoorW.PrintWords Go.Proofs.YteibechlncphnaaDoorW.PrintLast Go.Proofs.YteibechlncphnaaDoorW.PrintMore
attribute [local go_sem] jua jsa jDa jCa jia jha jta jra jB
set_option linter.unusedVariables false
set_option linter.unusedSimpArgs false
def jub.f (l0_0 : List (S66)) (a1 : Int) : Option (Bool) := (jS.f a1 0 (wrap64 ((l0_0.length : Int) - 1))).bind fun t365 => (some t365)
set_option maxHeartbeats 8000000 in
set_option maxRecDepth 100000 in
theorem jub.calls (A0_0 : Option Addr) (c0_0 : Nat) (l0_0 : List (S66)) (a1 : Int) (r : Bool) (w : World) (hr0_0 : Kd.C k66 w A0_0 l0_0.length l0_0) (hc0_0 : l0_0.length ≤ c0_0) (h : jub.f l0_0 a1 = some r) :
  Calls Tryd.prog 55 #[.agg #[.slice A0_0 l0_0.length c0_0], .int .i64 a1] w fun e w'=>e=.returned (.bool r)∧Below w.heap.size w w':=by
 have hu28:=Tryd.underlying28
 have HR0_0:=am hr0_0
 have HC0_0:=am hc0_0
 clear hr0_0 hc0_0
 have HB:=am (Below.refl w.heap.size w)
 have H:((jS.f a1 0 (wrap64 ((l0_0.length:Int) - 1))).bind fun t365=>(some t365))=some r:=h
 clear h
 replace H:=bzS H
 obtain ⟨t365,A30,H⟩:=H
 replace H:(some t365)=some r:=H
 have A3:=am A30
 clear A30
 obtain rfl:=Option.some.inj H
 go_enter Tryd.func55,Tryd.ntmps55
 go_wp2_with (first |((with_reducible refine jC (N:=2) rfl ?_);refine bE (N:=2) (cs:=#[.slice A0_0 l0_0.length c0_0]) (t:=28) ?_;intro gb364 hg w4 hbox hb;have BK364:=am (hbox);have GW364:=am ((Y0:w.heap.size≤gb364));have GE364:=am ((Y0:w.heap.size≤gb364));replace HB:=am (je (bq) hb);clear hb hbox hg;have hcz5_0:=bc0 BK364.out;have hfz5_0:=jb BK364.out 0) |((with_reducible refine jw (f:=79) rfl ?_);refine gL (some 10) Tryd.func79 #[.int .i64 a1, .int .i64 0, .int .i64 (wrap64 ((l0_0.length:Int) - 1))] ?_;(with_reducible refine (jS.calls a1 0 (wrap64 ((l0_0.length:Int) - 1)) t365 _ A3.out).mono ?_);rintro e w' ⟨rfl,⟨nd,rfl⟩⟩;refine ⟨_,rfl,?_⟩))
 go_ret
 exact ⟨Y1,by repeat (first |(with_reducible first | exact HB.out | apply jr | apply jo | apply jq | refine jl ?_ GE364.out) | exact HB.out)⟩
def jeb.f (k : Nat) (l0_0 : List (S99)) (l1_0 : List (S66)) (a2 : Int) : Option (Bool) := (jE.f k l0_0 l1_0).bind fun t368 => (if t368 = true then ((jub.f l1_0 a2).bind fun t369 => (some t369)) else (some false))
set_option maxHeartbeats 8000000 in
set_option maxRecDepth 100000 in
theorem jeb.calls (k : Nat) (A0_0 : Option Addr) (c0_0 : Nat) (l0_0 : List (S99)) (A1_0 : Option Addr) (c1_0 : Nat) (l1_0 : List (S66)) (a2 : Int) (r : Bool) (w : World) (hr0_0 : Kd.C k99 w A0_0 l0_0.length l0_0) (hc0_0 : l0_0.length ≤ c0_0) (hr1_0 : Kd.C k66 w A1_0 l1_0.length l1_0) (hc1_0 : l1_0.length ≤ c1_0) (h : jeb.f k l0_0 l1_0 a2 = some r) :
  Calls Tryd.prog 31 #[.agg #[.slice A0_0 l0_0.length c0_0], .agg #[.slice A1_0 l1_0.length c1_0], .int .i64 a2] w fun e w'=>e=.returned (.bool r)∧Below w.heap.size w w':=by
 have hu25:=Tryd.underlying25
 have hu28:=Tryd.underlying28
 have HR0_0:=am hr0_0
 have HC0_0:=am hc0_0
 clear hr0_0 hc0_0
 have HR1_0:=am hr1_0
 have HC1_0:=am hc1_0
 clear hr1_0 hc1_0
 have HB:=am (Below.refl w.heap.size w)
 have H:((jE.f k l0_0 l1_0).bind fun t368=>(if t368=true then ((jub.f l1_0 a2).bind fun t369=>(some t369)) else (some false)))=some r:=h
 clear h
 replace H:=bzS H
 obtain ⟨t368,A40,H⟩:=H
 replace H:(if t368=true then ((jub.f l1_0 a2).bind fun t369=>(some t369)) else (some false))=some r:=H
 have A4:=am A40
 clear A40
 by_cases c5:t368=true
 ·subst c5
  have H1:((jub.f l1_0 a2).bind fun t369=>(some t369))=some r:=by rw [if_pos rfl] at H;exact H
  clear H
  have H:=H1
  clear H1
  replace H:=bzS H
  obtain ⟨t369,A60,H⟩:=H
  replace H:(some t369)=some r:=H
  have A6:=am A60
  clear A60
  obtain rfl:=Option.some.inj H
  go_enter Tryd.func31,Tryd.ntmps31
  go_wp2_with (first |((with_reducible refine jC (N:=3) rfl ?_);refine bE (N:=3) (cs:=#[.slice A0_0 l0_0.length c0_0]) (t:=25) ?_;intro gb366 hg w7 hbox hb;have BK366:=am (hbox);have GW366:=am ((Y0:w.heap.size≤gb366));have GE366:=am ((Y0:w.heap.size≤gb366));replace HB:=am (je (bq) hb);clear hb hbox hg) |((with_reducible refine jC (N:=4) rfl ?_);refine bE (N:=4) (cs:=#[.slice A1_0 l1_0.length c1_0]) (t:=28) ?_;intro gb367 hg w8 hbox hb;have BK367:=am (hbox);have GW367:=am ((Y111:w.heap.size≤gb367));have GE367:=am ((Y111:w.heap.size≤gb367));have NB366_367:=am ((by rw [hg];exact Nat.ne_of_lt (jaa (g:=gb366) (o:=.cells #[.slice A0_0 l0_0.length c0_0] 25 (0,0)) (kq BK366.out)):gb366≠gb367));have NB367_366:=am ((by rw [hg];exact Nat.ne_of_gt (jaa (g:=gb366) (o:=.cells #[.slice A0_0 l0_0.length c0_0] 25 (0,0)) (kq BK366.out)):gb367≠gb366));replace BK366:=am (jc (g:=gb366) (o:=.cells #[.slice A0_0 l0_0.length c0_0] 25 (0,0)) (kq BK366.out) hb);replace HB:=am (je (Y177) hb);clear hb hbox hg;have hnb9:=NB366_367.out;have hnc9:=NB367_366.out;have hcz10_0:=bc0 BK366.out;have hfz10_0:=jb BK366.out 0;have hcz11_0:=bc0 BK367.out;have hfz11_0:=jb BK367.out 0) |((with_reducible refine jw (f:=48) rfl ?_);refine gL (some 9) Tryd.func48 #[.agg #[.slice A0_0 l0_0.length c0_0], .agg #[.slice A1_0 l1_0.length c1_0]] ?_;(with_reducible refine (jE.calls k _ _ l0_0 _ _ l1_0 true _ ?side1 ?side2 ?side3 ?side4 A4.out).mono ?_);(case side1=>exact cq (Kd.jT HR0_0.out HB.out));(case side2=>exact HC0_0.out);(case side3=>exact cq (Kd.jT HR1_0.out HB.out));(case side4=>exact HC1_0.out);rintro e w12 ⟨rfl,hb⟩;refine ⟨_,rfl,?_⟩;replace BK366:=am (jc (g:=gb366) (o:=.cells #[.slice A0_0 l0_0.length c0_0] 25 (0,0)) (kq BK366.out) hb);replace BK367:=am (jc (g:=gb367) (o:=.cells #[.slice A1_0 l1_0.length c1_0] 28 (0,0)) (kq BK367.out) hb);replace HB:=am (je (Y94) hb);(try clear hb);(try clear hb2);(try clear hk);(try clear hi);have hcz13_0:=bc0 BK367.out;have hfz13_0:=jb BK367.out 0) |(go_at_call 55;(with_reducible refine (jub.calls _ _ l1_0 a2 t369 _ ?side1 ?side2 A6.out).mono ?_);(case side1=>exact cq (Kd.jT HR1_0.out HB.out));(case side2=>exact HC1_0.out);rintro e w14 ⟨rfl,hb⟩;replace BK366:=am (jc (g:=gb366) (o:=.cells #[.slice A0_0 l0_0.length c0_0] 25 (0,0)) (kq BK366.out) hb);replace BK367:=am (jc (g:=gb367) (o:=.cells #[.slice A1_0 l1_0.length c1_0] 28 (0,0)) (kq BK367.out) hb);replace HB:=am (je (Y94) hb);(try clear hb);(try clear hb2);(try clear hk);(try clear hi)))
  go_ret
  exact ⟨Y1,Y94⟩
 ·replace c5:=Bool.eq_false_iff.mpr c5
  subst c5
  have H1:(some false)=some r:=by rw [if_neg (show ¬ (false=true) by decide)] at H;exact H
  clear H
  have H:=H1
  clear H1
  obtain rfl:=Option.some.inj H
  go_enter Tryd.func31,Tryd.ntmps31
  go_wp2_with (first |((with_reducible refine jC (N:=3) rfl ?_);refine bE (N:=3) (cs:=#[.slice A0_0 l0_0.length c0_0]) (t:=25) ?_;intro gb366 hg w15 hbox hb;have BK366:=am (hbox);have GW366:=am ((Y0:w.heap.size≤gb366));have GE366:=am ((Y0:w.heap.size≤gb366));replace HB:=am (je (bq) hb);clear hb hbox hg) |((with_reducible refine jC (N:=4) rfl ?_);refine bE (N:=4) (cs:=#[.slice A1_0 l1_0.length c1_0]) (t:=28) ?_;intro gb367 hg w16 hbox hb;have BK367:=am (hbox);have GW367:=am ((Y111:w.heap.size≤gb367));have GE367:=am ((Y111:w.heap.size≤gb367));have NB366_367:=am ((by rw [hg];exact Nat.ne_of_lt (jaa (g:=gb366) (o:=.cells #[.slice A0_0 l0_0.length c0_0] 25 (0,0)) (kq BK366.out)):gb366≠gb367));have NB367_366:=am ((by rw [hg];exact Nat.ne_of_gt (jaa (g:=gb366) (o:=.cells #[.slice A0_0 l0_0.length c0_0] 25 (0,0)) (kq BK366.out)):gb367≠gb366));replace BK366:=am (jc (g:=gb366) (o:=.cells #[.slice A0_0 l0_0.length c0_0] 25 (0,0)) (kq BK366.out) hb);replace HB:=am (je (Y177) hb);clear hb hbox hg;have hnb17:=NB366_367.out;have hnc17:=NB367_366.out;have hcz18_0:=bc0 BK366.out;have hfz18_0:=jb BK366.out 0;have hcz19_0:=bc0 BK367.out;have hfz19_0:=jb BK367.out 0) |((with_reducible refine jw (f:=48) rfl ?_);refine gL (some 9) Tryd.func48 #[.agg #[.slice A0_0 l0_0.length c0_0], .agg #[.slice A1_0 l1_0.length c1_0]] ?_;(with_reducible refine (jE.calls k _ _ l0_0 _ _ l1_0 false _ ?side1 ?side2 ?side3 ?side4 A4.out).mono ?_);(case side1=>exact cq (Kd.jT HR0_0.out HB.out));(case side2=>exact HC0_0.out);(case side3=>exact cq (Kd.jT HR1_0.out HB.out));(case side4=>exact HC1_0.out);rintro e w20 ⟨rfl,hb⟩;refine ⟨_,rfl,?_⟩;replace BK366:=am (jc (g:=gb366) (o:=.cells #[.slice A0_0 l0_0.length c0_0] 25 (0,0)) (kq BK366.out) hb);replace BK367:=am (jc (g:=gb367) (o:=.cells #[.slice A1_0 l1_0.length c1_0] 28 (0,0)) (kq BK367.out) hb);replace HB:=am (je (Y94) hb);(try clear hb);(try clear hb2);(try clear hk);(try clear hi)))
  go_ret
  exact ⟨Y1,Y94⟩
def jdb.f (l0_0 : List (S66)) (a1 : Int) : Option (Int) := if 0 ≤ a1 then (if a1 < (l0_0.length : Int) then (if ((ja l0_0 a1).f2) ≥ 0 then (some ((ja l0_0 a1).f2)) else (if ((ja l0_0 a1).f4 = true) then (some (-1)) else (some ((ja l0_0 a1).f3)))) else (none)) else (none)
set_option maxHeartbeats 8000000 in
set_option maxRecDepth 100000 in
theorem jdb.calls (A0_0 : Option Addr) (c0_0 : Nat) (l0_0 : List (S66)) (a1 : Int) (r : Int) (w : World) (hr0_0 : Kd.C k66 w A0_0 l0_0.length l0_0) (hc0_0 : l0_0.length ≤ c0_0) (h : jdb.f l0_0 a1 = some r) :
  Calls Tryd.prog 57 #[.agg #[.slice A0_0 l0_0.length c0_0], .int .i64 a1] w fun e w'=>e=.returned (.int .i64 r)∧Below w.heap.size w w':=by
 have hu28:=Tryd.underlying28
 have hu66:=Tryd.underlying66
 have HR0_0:=am hr0_0
 have HC0_0:=am hc0_0
 clear hr0_0 hc0_0
 have HB:=am (Below.refl w.heap.size w)
 have H:(if 0≤a1 then (if a1<(l0_0.length:Int) then (if ((ja l0_0 a1).f2)≥0 then (some ((ja l0_0 a1).f2)) else (if ((ja l0_0 a1).f4=true) then (some (-1)) else (some ((ja l0_0 a1).f3)))) else (none)) else (none))=some r:=h
 clear h
 by_cases c3:0≤a1
 ·rw [if_pos c3] at H
  have c3b0:decide (0≤a1)=true:=dzT c3
  clear c3
  by_cases c4:a1<(l0_0.length:Int)
  ·rw [if_pos c4] at H
   have c4b0:decide (a1<(l0_0.length:Int))=true:=dzT c4
   clear c4
   by_cases c5:((ja l0_0 a1).f2)≥0
   ·rw [if_pos c5] at H
    have c5b0:decide (0≤((ja l0_0 a1).f2))=true:=dzT c5
    clear c5
    obtain rfl:=Option.some.inj H
    go_enter Tryd.func57,Tryd.ntmps57
    go_wp2_with (first |((with_reducible refine jC (N:=2) rfl ?_);refine bE (N:=2) (cs:=#[.slice A0_0 l0_0.length c0_0]) (t:=28) ?_;intro gb370 hg w6 hbox hb;have BK370:=am (hbox);have GW370:=am ((Y0:w.heap.size≤gb370));have GE370:=am ((Y0:w.heap.size≤gb370));replace HB:=am (je (bq) hb);clear hb hbox hg;have hcz7_0:=bc0 BK370.out;have hfz7_0:=jb BK370.out 0;have p371:0≤(a1:Int):=ozD (uq);have q371:a1<(l0_0.length:Int):=ozD (uq);obtain ⟨ad371,e371,hx371_0,hx371_1,hx371_2,hx371_3,hx371_4⟩:=jsb HR0_0.out a1 p371 q371;cases e371;replace hx371_0:=cb HB.out hx371_0;replace hx371_1:=cb HB.out hx371_1;replace hx371_2:=cb HB.out hx371_2;replace hx371_3:=cb HB.out hx371_3;replace hx371_4:=cb HB.out hx371_4;replace p371:=ezT p371;replace q371:=ezT q371) |((with_reducible refine jC (N:=5) rfl ?_);refine bE (N:=5) (cs:=#[.int .i64 0, .int .i64 0, .int .i64 0, .int .i64 0, .bool false]) (t:=66) ?_;intro gb372 hg w8 hbox hb;have BK372:=am (hbox);have GW372:=am ((Y86:w.heap.size≤gb372));have GE372:=am ((Y86:w.heap.size≤gb372));have NB370_372:=am ((Y139:gb370≠gb372));have NB372_370:=am ((Y140:gb372≠gb370));replace BK370:=am (jc (g:=gb370) (o:=.cells #[.slice (some ad371) l0_0.length c0_0] 28 (0,0)) (kq BK370.out) hb);replace HB:=am (je (Y141) hb);clear hb hbox hg;have hnb9:=NB372_370.out;have hnc9:=NB370_372.out;have hcz10_0:=bc0 BK372.out;have hcz10_1:=bc1 BK372.out;have hcz10_2:=bc2 BK372.out;have hcz10_3:=bc3 BK372.out;have hcz10_4:w8.cell? ⟨gb372,4,none⟩=some (.bool false):=(jG BK372.out 4).trans rfl;have hfz10_0:=jb BK372.out 0;have hfz10_1:=jb BK372.out 1;have hfz10_2:=jb BK372.out 2;have hfz10_3:=jb BK372.out 3;have hfz10_4:=jb BK372.out 4))
    go_ret
    exact ⟨Y1,Y142⟩
   ·rw [if_neg c5] at H
    have c5b0:decide (0≤((ja l0_0 a1).f2))=false:=dzF c5
    clear c5
    obtain ⟨bq11,hbq11⟩:∃ b_:Bool,b_=((ja l0_0 a1).f4):=⟨_,rfl⟩
    replace H:(if (bq11=true) then (some (-1)) else (some ((ja l0_0 a1).f3)))=some r:=by rw [← hbq11] at H;exact H
    have Nbq11:=am hbq11
    clear hbq11
    by_cases c12:(bq11=true)
    ·subst c12
     have H1:(some (-1))=some r:=by rw [if_pos rfl] at H;exact H
     clear H
     have H:=H1
     clear H1
     obtain rfl:=Option.some.inj H
     go_enter Tryd.func57,Tryd.ntmps57
     go_wp2_with (first |((with_reducible refine jC (N:=2) rfl ?_);refine bE (N:=2) (cs:=#[.slice A0_0 l0_0.length c0_0]) (t:=28) ?_;intro gb370 hg w13 hbox hb;have BK370:=am (hbox);have GW370:=am ((Y0:w.heap.size≤gb370));have GE370:=am ((Y0:w.heap.size≤gb370));replace HB:=am (je (bq) hb);clear hb hbox hg;have hcz14_0:=bc0 BK370.out;have hfz14_0:=jb BK370.out 0;have p371:0≤(a1:Int):=ozD (uq);have q371:a1<(l0_0.length:Int):=ozD (uq);obtain ⟨ad371,e371,hx371_0,hx371_1,hx371_2,hx371_3,hx371_4⟩:=jsb HR0_0.out a1 p371 q371;(try rw [← Nbq11.out] at hx371_4);cases e371;replace hx371_0:=cb HB.out hx371_0;replace hx371_1:=cb HB.out hx371_1;replace hx371_2:=cb HB.out hx371_2;replace hx371_3:=cb HB.out hx371_3;replace hx371_4:=cb HB.out hx371_4;replace p371:=ezT p371;replace q371:=ezT q371) |((with_reducible refine jC (N:=5) rfl ?_);refine bE (N:=5) (cs:=#[.int .i64 0, .int .i64 0, .int .i64 0, .int .i64 0, .bool false]) (t:=66) ?_;intro gb372 hg w15 hbox hb;have BK372:=am (hbox);have GW372:=am ((Y86:w.heap.size≤gb372));have GE372:=am ((Y86:w.heap.size≤gb372));have NB370_372:=am ((Y139:gb370≠gb372));have NB372_370:=am ((Y140:gb372≠gb370));replace BK370:=am (jc (g:=gb370) (o:=.cells #[.slice (some ad371) l0_0.length c0_0] 28 (0,0)) (kq BK370.out) hb);replace HB:=am (je (Y141) hb);clear hb hbox hg;have hnb16:=NB372_370.out;have hnc16:=NB370_372.out;have hcz17_0:=bc0 BK372.out;have hcz17_1:=bc1 BK372.out;have hcz17_2:=bc2 BK372.out;have hcz17_3:=bc3 BK372.out;have hcz17_4:w15.cell? ⟨gb372,4,none⟩=some (.bool false):=(jG BK372.out 4).trans rfl;have hfz17_0:=jb BK372.out 0;have hfz17_1:=jb BK372.out 1;have hfz17_2:=jb BK372.out 2;have hfz17_3:=jb BK372.out 3;have hfz17_4:=jb BK372.out 4))
     go_ret
     exact ⟨Y1,Y142⟩
    ·replace c12:=Bool.eq_false_iff.mpr c12
     subst c12
     have H1:(some ((ja l0_0 a1).f3))=some r:=by rw [if_neg (show ¬ (false=true) by decide)] at H;exact H
     clear H
     have H:=H1
     clear H1
     obtain rfl:=Option.some.inj H
     go_enter Tryd.func57,Tryd.ntmps57
     go_wp2_with (first |((with_reducible refine jC (N:=2) rfl ?_);refine bE (N:=2) (cs:=#[.slice A0_0 l0_0.length c0_0]) (t:=28) ?_;intro gb370 hg w18 hbox hb;have BK370:=am (hbox);have GW370:=am ((Y0:w.heap.size≤gb370));have GE370:=am ((Y0:w.heap.size≤gb370));replace HB:=am (je (bq) hb);clear hb hbox hg;have hcz19_0:=bc0 BK370.out;have hfz19_0:=jb BK370.out 0;have p371:0≤(a1:Int):=ozD (uq);have q371:a1<(l0_0.length:Int):=ozD (uq);obtain ⟨ad371,e371,hx371_0,hx371_1,hx371_2,hx371_3,hx371_4⟩:=jsb HR0_0.out a1 p371 q371;(try rw [← Nbq11.out] at hx371_4);cases e371;replace hx371_0:=cb HB.out hx371_0;replace hx371_1:=cb HB.out hx371_1;replace hx371_2:=cb HB.out hx371_2;replace hx371_3:=cb HB.out hx371_3;replace hx371_4:=cb HB.out hx371_4;replace p371:=ezT p371;replace q371:=ezT q371) |((with_reducible refine jC (N:=5) rfl ?_);refine bE (N:=5) (cs:=#[.int .i64 0, .int .i64 0, .int .i64 0, .int .i64 0, .bool false]) (t:=66) ?_;intro gb372 hg w20 hbox hb;have BK372:=am (hbox);have GW372:=am ((Y86:w.heap.size≤gb372));have GE372:=am ((Y86:w.heap.size≤gb372));have NB370_372:=am ((Y139:gb370≠gb372));have NB372_370:=am ((Y140:gb372≠gb370));replace BK370:=am (jc (g:=gb370) (o:=.cells #[.slice (some ad371) l0_0.length c0_0] 28 (0,0)) (kq BK370.out) hb);replace HB:=am (je (Y141) hb);clear hb hbox hg;have hnb21:=NB372_370.out;have hnc21:=NB370_372.out;have hcz22_0:=bc0 BK372.out;have hcz22_1:=bc1 BK372.out;have hcz22_2:=bc2 BK372.out;have hcz22_3:=bc3 BK372.out;have hcz22_4:w20.cell? ⟨gb372,4,none⟩=some (.bool false):=(jG BK372.out 4).trans rfl;have hfz22_0:=jb BK372.out 0;have hfz22_1:=jb BK372.out 1;have hfz22_2:=jb BK372.out 2;have hfz22_3:=jb BK372.out 3;have hfz22_4:=jb BK372.out 4))
     go_ret
     exact ⟨Y1,Y142⟩
  ·rw [if_neg c4] at H
   exact absurd H (by simp)
 ·rw [if_neg c3] at H
  exact absurd H (by simp)
def jKa.l0 : Nat → Int → List Int → List (S66) → Option (List Int)
 | 0,_,_,_=>none
 | k+1,x1,x5,x374000=>if x1≥0 then ((jMa.f k x5 x1).bind fun t377=>(if t377=true then (some x5) else (if x5.length<17592186044416 then ((jdb.f x374000 x1).bind fun t381=>(jKa.l0 k t381 (x5 ++ [x1]) x374000)) else (none)))) else (some x5)
def jKa.f (k : Nat) (l0_0 : List (S66)) (a1 : Int) : Option (List Int) := jKa.l0 k a1 (([] : List Int)) l0_0
set_option maxHeartbeats 8000000 in
set_option maxRecDepth 100000 in
theorem jKa.calls (k : Nat) (A0_0 : Option Addr) (c0_0 : Nat) (l0_0 : List (S66)) (a1 : Int) (r : List Int) (w : World) (hr0_0 : Kd.C k66 w A0_0 l0_0.length l0_0) (hc0_0 : l0_0.length ≤ c0_0) (h : jKa.f k l0_0 a1 = some r) :
  Calls Tryd.prog 32 #[.agg #[.slice A0_0 l0_0.length c0_0], .int .i64 a1] w fun e w'=>∃ v0_:Value,e=.returned (v0_)∧Kd.R (Kd.int .i64) 3 w' w.heap.size (fun _=>True) v0_ r∧Below w.heap.size w w':=by
 have hu28:=Tryd.underlying28
 have HR0_0:=am hr0_0
 have HC0_0:=am hc0_0
 clear hr0_0 hc0_0
 have HB:=am (Below.refl w.heap.size w)
 have H:(jKa.l0 k a1 (([]:List Int)) l0_0)=some r:=h
 clear h
 obtain ⟨y374,hy374⟩:∃ y_:List Int,y_=(([]:List Int)):=⟨_,rfl⟩
 replace H:(jKa.l0 k a1 y374 l0_0)=some r:=by first |(rw [hy374];with_reducible exact H) |(have H2_:=(Option.bind_some _ _).symm.trans H;rw [hy374];with_reducible exact H2_) |(have H2_:=(Option.bind_some _ _).symm.trans H;with_reducible exact H2_) | with_reducible exact H |(rw [hy374];exact H) | exact H
 have Ny374:=am hy374
 clear hy374
 have H':=am H
 clear H
 go_enter Tryd.func32,Tryd.ntmps32
 go_wp2_with (first |((with_reducible refine jC (N:=2) rfl ?_);refine bE (N:=2) (cs:=#[.slice A0_0 l0_0.length c0_0]) (t:=28) ?_;intro gb373 hg w3 hbox hb;have BK373:=am (hbox);have GW373:=am ((Y0:w.heap.size≤gb373));have GE373:=am ((Y0:w.heap.size≤gb373));replace HB:=am (je (bq) hb);clear hb hbox hg) |((with_reducible refine jC (N:=6) rfl ?_);refine Kd.jrc (Kd.int .i64) _ 3 ?hg (N:=6) ?hd (xs:=([]:List Int)) (inner:=[]) (ok:=fun _=>True) (okp:=fun _=>True) ?hr ?hp (fun _ hk=>hk) trivial (Below.refl _ _) (Nat.le_refl _) (by simp) ?_;(case hd=>rfl);(case hg=>rfl);(case hr=>exact Y3);(case hp=>exact (Reps.none _ _));intro v375 w4 ho5 hb hg_ hnew_;clear hg_ hnew_;(first | rw [← Ny374.out] at ho5 |(simp only [Int.reduceToNat] at ho5;rw [← Ny374.out] at ho5));have HO376:=am (Kd.jfa ho5 (jI (Y49)));replace BK373:=am (jc (g:=gb373) (o:=.cells #[.slice A0_0 l0_0.length c0_0] 28 (0,0)) (kq BK373.out) hb);replace HB:=am (je (Y49) hb);clear hb ho5))
 go_loopg [1,5] k (fun kq v1 v5 w'=>∃ (x1_1:Int) (x5_1:List Int),v1=.int .i64 x1_1∧jD (jKa.l0 kq x1_1 x5_1 l0_0=some r)∧jD (kq≤k)∧jD (Kd.R (Kd.int .i64) 3 w' w.heap.size (fun _=>True) v5 x5_1)∧jD (w'.heap[gb373]?=some (.cells #[(.slice A0_0 l0_0.length c0_0)] 28 (0,0)))∧jD (Below w.heap.size w w'))
 case atStart=>exact ⟨(a1),(y374),(sq),H',⟨Nat.le_refl _⟩,⟨rq HO376.out⟩,⟨kq BK373.out⟩,⟨Y49⟩⟩
 case round =>
  clear H'
  try clear p2
  try clear c3
  obtain ⟨x1_1,x5_1,rfl,HA,HK1,HO_5,BK373,HB⟩:=hrel
  cases gk with
  | zero=>exact absurd HA.out (by simp [jKa.l0])
  | succ k1 =>
   have H:=HA.out
   clear HA
   simp only [jKa.l0] at H
   by_cases c6:x1_1≥0
   ·rw [if_pos c6] at H
    have c6b0:decide (0≤x1_1)=true:=dzT c6
    clear c6
    replace H:=bzS H
    obtain ⟨t377,A70,H⟩:=H
    replace H:(if t377=true then (some x5_1) else (if x5_1.length<17592186044416 then ((jdb.f l0_0 x1_1).bind fun t381=>(jKa.l0 k1 t381 (x5_1 ++ [x1_1]) l0_0)) else (none)))=some r:=H
    have A7:=am A70
    clear A70
    by_cases c8:t377=true
    ·subst c8
     have H1:(some x5_1)=some r:=by rw [if_pos rfl] at H;exact H
     clear H
     have H:=H1
     clear H1
     obtain rfl:=Option.some.inj H
     obtain ⟨Ao9,co9,eo9⟩:=Kd.jX HO_5.out
     subst eo9
     go_wp2_with (first |(go_at_call 56;(with_reducible refine (jMa.calls k1 _ _ x5_1 x1_1 true _ ?side1 ?side2 A7.out).mono ?_);(case side1=>exact cq (Kd.jA HO_5.out).2.2);(case side2=>exact (Kd.jA HO_5.out).2.1);rintro e w' ⟨rfl,⟨nd,rfl⟩⟩))
     go_ret
     exact ⟨_,Y1,rq HO_5.out,Y49⟩
    ·replace c8:=Bool.eq_false_iff.mpr c8
     subst c8
     have H1:(if x5_1.length<17592186044416 then ((jdb.f l0_0 x1_1).bind fun t381=>(jKa.l0 k1 t381 (x5_1 ++ [x1_1]) l0_0)) else (none))=some r:=by rw [if_neg (show ¬ (false=true) by decide)] at H;exact H
     clear H
     have H:=H1
     clear H1
     by_cases c10:x5_1.length<17592186044416
     ·rw [if_pos c10] at H
      have LMc10:=am c10
      clear c10
      obtain ⟨y378,hy378⟩:∃ y_:List Int,y_=(x5_1 ++ [x1_1]):=⟨_,rfl⟩
      replace H:((jdb.f l0_0 x1_1).bind fun t381=>(jKa.l0 k1 t381 y378 l0_0))=some r:=by first |(rw [hy378];with_reducible exact H) |(have H2_:=(Option.bind_some _ _).symm.trans H;rw [hy378];with_reducible exact H2_) |(have H2_:=(Option.bind_some _ _).symm.trans H;with_reducible exact H2_) | with_reducible exact H |(rw [hy378];exact H) | exact H
      have Ny378:=am hy378
      clear hy378
      replace H:=bzS H
      obtain ⟨t381,A110,H⟩:=H
      replace H:(jKa.l0 k1 t381 y378 l0_0)=some r:=H
      have A11:=am A110
      clear A110
      have H':=am H
      clear H
      obtain ⟨Ao12,co12,eo12⟩:=Kd.jX HO_5.out
      subst eo12
      go_wp2_with (first |(go_at_call 56;(with_reducible refine (jMa.calls k1 _ _ x5_1 x1_1 false _ ?side1 ?side2 A7.out).mono ?_);(case side1=>exact cq (Kd.jA HO_5.out).2.2);(case side2=>exact (Kd.jA HO_5.out).2.1);rintro e w' ⟨rfl,⟨nd,rfl⟩⟩) |((with_reducible refine jAb (b:=.append) (xs:=#[.tmp 15, .tmp 17]) rfl ?_);at_builtin;refine Kd.jyc (Kd.int .i64) (w0:=w) w.heap.size rfl (.tmp 15) (.tmp 17) 32 3 (.int .i64 0) 8 rfl Tryd.underlying32 info3 rfl (by decide) (by omega) (.slice Ao12 x5_1.length co12) x5_1 x1_1 [.int .i64 x1_1] (fun _=>True) (fun _=>False) rfl rfl ?aP (fun _ hk=>hk.elim) ?aF ?aO ?aB ?aS ?aL ?_;(case aP=>exact rfl);(case aB=>exact (Y49));(case aF=>exact (fun _ _=>trivial));(case aO=>exact (rq HO_5.out));(case aS=>exact (jI (Y49)));(case aL=>have:=LMc10.out;omega);intro v379 w13 ho hb hg hat;rw [← Ny378.out] at ho;have n0_:=am (jFa (g:=gb373) (o:=.cells #[.slice A0_0 l0_0.length c0_0] 28 (0,0)) (kq BK373.out) hg (Kd.R_ne HO_5.out BK373.out (by decide)));have n1_:=am (hb);have n2_:=am (ho);clear BK373 HB HO_5;have BK373:=n0_;have HB:=n1_;have HO380:=n2_;clear n0_ n1_ n2_ ho hb hg hat;have hcz14_0:=bc0 BK373.out;have hfz14_0:=jb BK373.out 0) |((with_reducible refine jw (f:=57) rfl ?_);refine gL (some 21) Tryd.func57 #[.agg #[.slice A0_0 l0_0.length c0_0], .int .i64 x1_1] ?_;(with_reducible refine (jdb.calls _ _ l0_0 x1_1 t381 _ ?side1 ?side2 A11.out).mono ?_);(case side1=>exact cq (Kd.jT HR0_0.out HB.out));(case side2=>exact HC0_0.out);rintro e w15 ⟨rfl,hb⟩;refine ⟨_,rfl,?_⟩;replace HO380:=am (Kd.jM (rq HO380.out) hb);replace BK373:=am (jc (g:=gb373) (o:=.cells #[.slice A0_0 l0_0.length c0_0] 28 (0,0)) (kq BK373.out) hb);replace HB:=am (je (Y49) hb);(try clear hb);(try clear hb2);(try clear hk);(try clear hi)))
      go_roundg k1
      case measure=>have:=HK1.out;omega
      case rel=>exact ⟨(t381),(y378),(sq),H',⟨by have:=HK1.out;omega⟩,⟨rq HO380.out⟩,⟨kq BK373.out⟩,⟨Y49⟩⟩
     ·rw [if_neg c10] at H
      exact absurd H (by simp)
   ·rw [if_neg c6] at H
    have c6b0:decide (0≤x1_1)=false:=dzF c6
    clear c6
    obtain rfl:=Option.some.inj H
    go_wp2
    go_ret
    exact ⟨_,Y1,rq HO_5.out,Y49⟩
def jEa.f (k : Nat) (l0_0 : List (S99)) (l1_0 : List (S66)) (a2 : Int) : Option (Int) := (jeb.f k l0_0 l1_0 a2).bind fun t384 => (if t384 = true then ((jKa.f k l1_0 a2).bind fun t385 => (if 0 ≤ (wrap64 ((t385.length : Int) - 1)) then (if (wrap64 ((t385.length : Int) - 1)) < (t385.length : Int) then (some (rd t385 (wrap64 ((t385.length : Int) - 1)))) else (none)) else (none))) else (some (-1)))
set_option maxHeartbeats 8000000 in
set_option maxRecDepth 100000 in
theorem jEa.calls (k : Nat) (A0_0 : Option Addr) (c0_0 : Nat) (l0_0 : List (S99)) (A1_0 : Option Addr) (c1_0 : Nat) (l1_0 : List (S66)) (a2 : Int) (r : Int) (w : World) (hr0_0 : Kd.C k99 w A0_0 l0_0.length l0_0) (hc0_0 : l0_0.length ≤ c0_0) (hr1_0 : Kd.C k66 w A1_0 l1_0.length l1_0) (hc1_0 : l1_0.length ≤ c1_0) (h : jEa.f k l0_0 l1_0 a2 = some r) :
  Calls Tryd.prog 9 #[.agg #[.slice A0_0 l0_0.length c0_0], .agg #[.slice A1_0 l1_0.length c1_0], .int .i64 a2] w fun e w'=>e=.returned (.int .i64 r)∧Below w.heap.size w w':=by
 have hu25:=Tryd.underlying25
 have hu28:=Tryd.underlying28
 have HR0_0:=am hr0_0
 have HC0_0:=am hc0_0
 clear hr0_0 hc0_0
 have HR1_0:=am hr1_0
 have HC1_0:=am hc1_0
 clear hr1_0 hc1_0
 have HB:=am (Below.refl w.heap.size w)
 have H:((jeb.f k l0_0 l1_0 a2).bind fun t384=>(if t384=true then ((jKa.f k l1_0 a2).bind fun t385=>(if 0≤(wrap64 ((t385.length:Int) - 1)) then (if (wrap64 ((t385.length:Int) - 1))<(t385.length:Int) then (some (rd t385 (wrap64 ((t385.length:Int) - 1)))) else (none)) else (none))) else (some (-1))))=some r:=h
 clear h
 replace H:=bzS H
 obtain ⟨t384,A40,H⟩:=H
 replace H:(if t384=true then ((jKa.f k l1_0 a2).bind fun t385=>(if 0≤(wrap64 ((t385.length:Int) - 1)) then (if (wrap64 ((t385.length:Int) - 1))<(t385.length:Int) then (some (rd t385 (wrap64 ((t385.length:Int) - 1)))) else (none)) else (none))) else (some (-1)))=some r:=H
 have A4:=am A40
 clear A40
 by_cases c5:t384=true
 ·subst c5
  have H1:((jKa.f k l1_0 a2).bind fun t385=>(if 0≤(wrap64 ((t385.length:Int) - 1)) then (if (wrap64 ((t385.length:Int) - 1))<(t385.length:Int) then (some (rd t385 (wrap64 ((t385.length:Int) - 1)))) else (none)) else (none)))=some r:=by rw [if_pos rfl] at H;exact H
  clear H
  have H:=H1
  clear H1
  replace H:=bzS H
  obtain ⟨t385,A60,H⟩:=H
  replace H:(if 0≤(wrap64 ((t385.length:Int) - 1)) then (if (wrap64 ((t385.length:Int) - 1))<(t385.length:Int) then (some (rd t385 (wrap64 ((t385.length:Int) - 1)))) else (none)) else (none))=some r:=H
  have A6:=am A60
  clear A60
  obtain ⟨ji7,hji7⟩:∃ j_:Int,(wrap64 ((t385.length:Int) - 1))=j_:=⟨_,rfl⟩
  replace H:(if 0≤(ji7) then (if (ji7)<(t385.length:Int) then (some (rd t385 (ji7))) else (none)) else (none))=some r:=by first |(rw [hji7] at H;exact H) |(simp only [hji7] at H ⊢;exact H)
  (try rw [hji7] at A4)
  (try rw [hji7] at A6)
  have hji7w:(IntKind.i64.wrap ((t385.length:Int) - 1))=ji7:=(jBb _).trans hji7
  by_cases c8:0≤(ji7)
  ·rw [if_pos c8] at H
   have c8b0:decide (0≤(ji7))=true:=dzT c8
   clear c8
   by_cases c9:(ji7)<(t385.length:Int)
   ·rw [if_pos c9] at H
    have c9b0:decide ((ji7)<(t385.length:Int))=true:=dzT c9
    clear c9
    obtain rfl:=Option.some.inj H
    go_enter Tryd.func9,Tryd.ntmps9
    go_wp2_with (first |((with_reducible refine jC (N:=3) rfl ?_);refine bE (N:=3) (cs:=#[.slice A0_0 l0_0.length c0_0]) (t:=25) ?_;intro gb382 hg w10 hbox hb;have BK382:=am (hbox);have GW382:=am ((Y0:w.heap.size≤gb382));have GE382:=am ((Y0:w.heap.size≤gb382));replace HB:=am (je (bq) hb);clear hb hbox hg) |((with_reducible refine jC (N:=4) rfl ?_);refine bE (N:=4) (cs:=#[.slice A1_0 l1_0.length c1_0]) (t:=28) ?_;intro gb383 hg w11 hbox hb;have BK383:=am (hbox);have GW383:=am ((Y112:w.heap.size≤gb383));have GE383:=am ((Y112:w.heap.size≤gb383));have NB382_383:=am ((by rw [hg];exact Nat.ne_of_lt (jaa (g:=gb382) (o:=.cells #[.slice A0_0 l0_0.length c0_0] 25 (0,0)) (kq BK382.out)):gb382≠gb383));have NB383_382:=am ((by rw [hg];exact Nat.ne_of_gt (jaa (g:=gb382) (o:=.cells #[.slice A0_0 l0_0.length c0_0] 25 (0,0)) (kq BK382.out)):gb383≠gb382));replace BK382:=am (jc (g:=gb382) (o:=.cells #[.slice A0_0 l0_0.length c0_0] 25 (0,0)) (kq BK382.out) hb);replace HB:=am (je (Y178) hb);clear hb hbox hg;have hnb12:=NB382_383.out;have hnc12:=NB383_382.out;have hcz13_0:=bc0 BK382.out;have hfz13_0:=jb BK382.out 0;have hcz14_0:=bc0 BK383.out;have hfz14_0:=jb BK383.out 0) |((with_reducible refine jw (f:=31) rfl ?_);refine gL (some 11) Tryd.func31 #[.agg #[.slice A0_0 l0_0.length c0_0], .agg #[.slice A1_0 l1_0.length c1_0], .int .i64 a2] ?_;(with_reducible refine (jeb.calls k _ _ l0_0 _ _ l1_0 a2 true _ ?side1 ?side2 ?side3 ?side4 A4.out).mono ?_);(case side1=>exact cq (Kd.jT HR0_0.out HB.out));(case side2=>exact HC0_0.out);(case side3=>exact cq (Kd.jT HR1_0.out HB.out));(case side4=>exact HC1_0.out);rintro e w15 ⟨rfl,hb⟩;refine ⟨_,rfl,?_⟩;replace BK382:=am (jc (g:=gb382) (o:=.cells #[.slice A0_0 l0_0.length c0_0] 25 (0,0)) (kq BK382.out) hb);replace BK383:=am (jc (g:=gb383) (o:=.cells #[.slice A1_0 l1_0.length c1_0] 28 (0,0)) (kq BK383.out) hb);replace HB:=am (je (Y87) hb);(try clear hb);(try clear hb2);(try clear hk);(try clear hi);have hcz16_0:=bc0 BK383.out;have hfz16_0:=jb BK383.out 0) |((with_reducible refine jw (f:=32) rfl ?_);refine gL (some 15) Tryd.func32 #[.agg #[.slice A1_0 l1_0.length c1_0], .int .i64 a2] ?_;(with_reducible refine (jKa.calls k _ _ l1_0 a2 t385 _ ?side1 ?side2 A6.out).mono ?_);(case side1=>exact cq (Kd.jT HR1_0.out HB.out));(case side2=>exact HC1_0.out);rintro e w17 ⟨v386,rfl,ho0,hb⟩;refine ⟨_,rfl,?_⟩;have HO387:=am (Kd.jfa ho0 (jI (Y87)));replace BK382:=am (jc (g:=gb382) (o:=.cells #[.slice A0_0 l0_0.length c0_0] 25 (0,0)) (kq BK382.out) hb);replace BK383:=am (jc (g:=gb383) (o:=.cells #[.slice A1_0 l1_0.length c1_0] 28 (0,0)) (kq BK383.out) hb);replace HB:=am (je (Y87) hb);(try clear hb);(try clear hb2);(try clear hk);(try clear hi);(try clear ho0);obtain ⟨Ao18,co18,eo18⟩:=Kd.jX HO387.out;subst eo18;have p388:0≤((ji7):Int):=ozD (uq);have q388:(ji7)<(t385.length:Int):=ozD (uq);obtain ⟨ad388,e388,hx388_0⟩:=Kd.jLb (Kd.jA HO387.out).2.2 (ji7) p388 q388;cases e388;replace p388:=ezT p388;replace q388:=ezT q388))
    go_ret
    exact ⟨by first | rfl |(simp [jib,jhb] <;> rfl) |(simp only [← hji7];first | rfl |(simp [jib,jhb] <;> rfl)) |(simp [*,jib,jhb] <;> rfl),Y87⟩
   ·rw [if_neg c9] at H
    exact absurd H (by simp)
  ·rw [if_neg c8] at H
   exact absurd H (by simp)
 ·replace c5:=Bool.eq_false_iff.mpr c5
  subst c5
  have H1:(some (-1))=some r:=by rw [if_neg (show ¬ (false=true) by decide)] at H;exact H
  clear H
  have H:=H1
  clear H1
  obtain rfl:=Option.some.inj H
  go_enter Tryd.func9,Tryd.ntmps9
  go_wp2_with (first |((with_reducible refine jC (N:=3) rfl ?_);refine bE (N:=3) (cs:=#[.slice A0_0 l0_0.length c0_0]) (t:=25) ?_;intro gb382 hg w19 hbox hb;have BK382:=am (hbox);have GW382:=am ((Y0:w.heap.size≤gb382));have GE382:=am ((Y0:w.heap.size≤gb382));replace HB:=am (je (bq) hb);clear hb hbox hg) |((with_reducible refine jC (N:=4) rfl ?_);refine bE (N:=4) (cs:=#[.slice A1_0 l1_0.length c1_0]) (t:=28) ?_;intro gb383 hg w20 hbox hb;have BK383:=am (hbox);have GW383:=am ((Y112:w.heap.size≤gb383));have GE383:=am ((Y112:w.heap.size≤gb383));have NB382_383:=am ((by rw [hg];exact Nat.ne_of_lt (jaa (g:=gb382) (o:=.cells #[.slice A0_0 l0_0.length c0_0] 25 (0,0)) (kq BK382.out)):gb382≠gb383));have NB383_382:=am ((by rw [hg];exact Nat.ne_of_gt (jaa (g:=gb382) (o:=.cells #[.slice A0_0 l0_0.length c0_0] 25 (0,0)) (kq BK382.out)):gb383≠gb382));replace BK382:=am (jc (g:=gb382) (o:=.cells #[.slice A0_0 l0_0.length c0_0] 25 (0,0)) (kq BK382.out) hb);replace HB:=am (je (Y178) hb);clear hb hbox hg;have hnb21:=NB382_383.out;have hnc21:=NB383_382.out;have hcz22_0:=bc0 BK382.out;have hfz22_0:=jb BK382.out 0;have hcz23_0:=bc0 BK383.out;have hfz23_0:=jb BK383.out 0) |((with_reducible refine jw (f:=31) rfl ?_);refine gL (some 11) Tryd.func31 #[.agg #[.slice A0_0 l0_0.length c0_0], .agg #[.slice A1_0 l1_0.length c1_0], .int .i64 a2] ?_;(with_reducible refine (jeb.calls k _ _ l0_0 _ _ l1_0 a2 false _ ?side1 ?side2 ?side3 ?side4 A4.out).mono ?_);(case side1=>exact cq (Kd.jT HR0_0.out HB.out));(case side2=>exact HC0_0.out);(case side3=>exact cq (Kd.jT HR1_0.out HB.out));(case side4=>exact HC1_0.out);rintro e w24 ⟨rfl,hb⟩;refine ⟨_,rfl,?_⟩;replace BK382:=am (jc (g:=gb382) (o:=.cells #[.slice A0_0 l0_0.length c0_0] 25 (0,0)) (kq BK382.out) hb);replace BK383:=am (jc (g:=gb383) (o:=.cells #[.slice A1_0 l1_0.length c1_0] 28 (0,0)) (kq BK383.out) hb);replace HB:=am (je (Y87) hb);(try clear hb);(try clear hb2);(try clear hk);(try clear hi)))
  go_ret
  exact ⟨Y1,Y87⟩
set_option maxHeartbeats 8000000 in
set_option maxRecDepth 100000 in
theorem impl_ShownChain_walk (k : Nat) (A_ : Option Addr) (n_ c_ : Nat) (nx : Int → Option Int) (a0 : Int) (r : List Int) (w : World) (h : jZa nx k a0 [] = some r)
  (hp:∀ W,Below w.heap.size w W→∀ (x y:Int),nx x=some y→Calls Tryd.prog 30 #[.agg #[.slice A_ n_ c_], .int .i64 x] W fun e w'=>e=.returned (.int .i64 y)∧Below W.heap.size W w') :
  Calls Tryd.prog 29 #[.int .i64 a0, .func (.func 30) #[.agg #[.slice A_ n_ c_]] #[]] w fun e w'=>∃ v0_:Value,e=.returned v0_∧Kd.R (Kd.int .i64) 3 w' w.heap.size (fun _=>True) v0_ r∧Below w.heap.size w w':=by
 have HP:=am hp
 have H0:=am h
 have HB:=am (Below.refl w.heap.size w)
 clear hp h
 go_enter Tryd.func29,Tryd.ntmps29
 go_wp2_with ((with_reducible refine jC (N:=6) rfl ?_);refine Kd.jrc (Kd.int .i64) _ 3 ?hg (N:=6) ?hd (xs:=([]:List Int)) (inner:=[]) (ok:=fun _=>True) (okp:=fun _=>True) ?hr ?hp (fun _ hk=>hk) trivial (Below.refl _ _) (Nat.le_refl _) (by simp) ?_;(case hd=>rfl);(case hg=>rfl);(case hr=>exact Y3);(case hp=>exact (Reps.none _ _));intro v111 w4 ho5 hb hg_ hnew_;clear hg_ hnew_;have n0_:=am (Kd.jfa ho5 (jI (bq)));have n2_:=am (je (bq) hb);clear HB;have HO:=n0_;have HB:=n2_;clear n0_ n2_ hb ho5)
 go_loopg [0,5] k (fun kq v0 v5 w'=>∃ (x:Int) (acc:List Int),v0=.int .i64 x∧jD (jZa nx kq x acc=some r)∧jD (kq≤k)∧jD (Kd.R (Kd.int .i64) 3 w' w.heap.size (fun _=>True) v5 acc)∧jD (Below w.heap.size w w'))
 case atStart=>exact ⟨a0,[],(sq),H0,⟨Nat.le_refl _⟩,⟨rq HO.out⟩,⟨bq⟩⟩
 case round =>
  clear H0 HO HB
  obtain ⟨x,acc,rfl,HA,HK1,HO,HB⟩:=hrel
  cases gk with
  | zero=>exact absurd HA.out (by simp [jZa])
  | succ k1 =>
   have H:=HA.out
   clear HA
   simp only [jZa] at H
   obtain ⟨Ao,co,eo⟩:=Kd.jX HO.out
   subst eo
   by_cases c6:x≥0
   ·rw [if_pos c6] at H
    have c6b0:decide (0≤x)=true:=dzT c6
    clear c6
    obtain ⟨b,A70,H⟩:=bzS H
    have A7:=am A70
    clear A70
    cases b with
    | true =>
     rw [if_pos rfl] at H
     obtain rfl:=Option.some.inj H
     clear H
     go_wp2_with (first |(go_at_call 53;(with_reducible refine (jga.calls k1 _ _ acc x true _ ?side1 ?side2 A7.out).mono ?_);(case side1=>exact cq (Kd.jA HO.out).2.2);(case side2=>exact (Kd.jA HO.out).2.1);rintro e w' ⟨rfl,⟨nd,rfl⟩⟩) |(go_at_call 54;refine (jda.calls (fun _=>True) _ acc acc w _ (bq) (rq HO.out) (show jda.f acc=some acc from rfl)).mono ?_;rintro e w9 ⟨v9,rfl,hR9,hB9,hK9⟩))
     go_ret
     exact ⟨_,rfl,Kd.jH hR9 (fun _ _=>trivial),hB9⟩
    | false =>
     rw [if_neg (by simp)] at H
     by_cases c10:acc.length<17592186044416
     ·rw [if_pos c10] at H
      have LM:=am c10
      clear c10
      obtain ⟨y,hy,H⟩:=bzS H
      have HQ:=am hy
      have H':=am H
      clear H hy
      go_wp2_with (first |(go_at_call 53;(with_reducible refine (jga.calls k1 _ _ acc x false _ ?side1 ?side2 A7.out).mono ?_);(case side1=>exact cq (Kd.jA HO.out).2.2);(case side2=>exact (Kd.jA HO.out).2.1);rintro e w' ⟨rfl,⟨nd,rfl⟩⟩) |(go_at_call 30;refine (HP.out _ (bq) _ _ HQ.out).mono ?_;rintro e w2 ⟨rfl,hb2⟩;have n1_:=am (Kd.jM (rq HO.out) hb2);have n2_:=am (je (bq) hb2);clear HO HB;have HO:=n1_;have HB:=n2_;clear n1_ n2_ hb2) |((with_reducible refine jAb (b:=.append) (xs:=#[.tmp 18, .tmp 20]) rfl ?_);at_builtin;refine Kd.jyc (Kd.int .i64) (w0:=w) w.heap.size rfl (.tmp 18) (.tmp 20) 32 3 (.int .i64 0) 8 rfl Tryd.underlying32 info3 rfl (by decide) (by omega) (.slice Ao acc.length co) acc x [.int .i64 x] (fun _=>True) (fun _=>False) rfl rfl ?aP (fun _ hk=>hk.elim) ?aF ?aO ?aB ?aS ?aL ?_;(case aP=>exact rfl);(case aB=>exact (bq));(case aF=>exact (fun _ _=>trivial));(case aO=>exact (rq HO.out));(case aS=>exact (jI (bq)));(case aL=>have:=LM.out;omega);intro v115 w14 ho hb hg hat;have n1_:=am (hb);have n2_:=am (ho);clear HB HO;have HB:=n1_;have HO:=n2_;clear n1_ n2_ ho hb hg hat))
      go_roundg k1
      case measure=>have:=HK1.out;omega
      case rel=>exact ⟨y,acc ++ [x],(sq),H',⟨by have:=HK1.out;omega⟩,⟨rq HO.out⟩,⟨bq⟩⟩
     ·rw [if_neg c10] at H
      cases H
   ·rw [if_neg c6] at H
    have c6b0:decide (0≤x)=false:=dzF c6
    clear c6
    obtain rfl:=Option.some.inj H
    clear H
    go_wp2_with (go_at_call 54;refine (jda.calls (fun _=>True) _ acc acc w _ (bq) (rq HO.out) (show jda.f acc=some acc from rfl)).mono ?_;rintro e w9 ⟨v9,rfl,hR9,hB9,hK9⟩)
    go_ret
    exact ⟨_,rfl,Kd.jH hR9 (fun _ _=>trivial),hB9⟩
theorem jTb (w : World) (v : Value) (t : TypeId) : (w.alloc (.cells #[v] t)).cell? ⟨w.heap.size, 0, none⟩ = some v := by simp
theorem jqc {w : World} {B : Nat} {v : Value} (o : Obj) (h : w.cell? ⟨B, 0, none⟩ = some v) : (w.alloc o).cell? ⟨B, 0, none⟩ = some v := jQ ((Below.refl _ _).alloc (Nat.le_refl _) _) h
theorem impl_ShownChain_C_one {W : World} {b : Nat} {x : Int} (h : W.cell? ⟨b, 0, none⟩ = some (.int .i64 x)) : Kd.C (Kd.int .i64) W (some ⟨b, 0, none⟩) [x].length [x] :=
 Kd.jtc (d:=0) (h1:=fun _=>rfl) ⟨rfl,by simp,fun _=>⟨_,rfl,fun j hj=>by
  obtain rfl:j=0:=by simpa using hj
  exact h⟩⟩
def jrb.f (k : Nat) (l0_0 : List S99) (l1_0 : List S66) (a2 : Int) : Option (List Int) := (jwa.f k l0_0 l1_0 [a2]).bind fun v => if v = true then jZa (fun g => jza.f l1_0 g) k a2 [] else some []
set_option maxHeartbeats 8000000 in
set_option maxRecDepth 100000 in
theorem jrb.calls (k : Nat) (A0_0 : Option Addr) (c0_0 : Nat) (l0_0 : List (S99)) (A1_0 : Option Addr) (c1_0 : Nat) (l1_0 : List (S66)) (a2 : Int) (r : List Int) (w : World) (hr0_0 : Kd.C k99 w A0_0 l0_0.length l0_0) (hc0_0 : l0_0.length ≤ c0_0) (hr1_0 : Kd.C k66 w A1_0 l1_0.length l1_0) (hc1_0 : l1_0.length ≤ c1_0) (h : jrb.f k l0_0 l1_0 a2 = some r) :
  Calls Tryd.prog 10 #[.agg #[.slice A0_0 l0_0.length c0_0], .agg #[.slice A1_0 l1_0.length c1_0], .int .i64 a2] w fun e w'=>∃ v0_:Value,e=.returned v0_∧Kd.R (Kd.int .i64) 3 w' w.heap.size (fun _=>True) v0_ r∧Below w.heap.size w w':=by
 obtain ⟨v,hv,h⟩:=bzS h
 have hu25:=Tryd.underlying25
 have hu28:=Tryd.underlying28
 have B3:=am ((((Below.refl w.heap.size w).alloc (Nat.le_refl _) (.cells #[.slice A0_0 l0_0.length c0_0] 25)).alloc (by simp) (.cells #[.slice A1_0 l1_0.length c1_0] 28)).alloc (by simp;omega) (.cells #[.int .i64 a2] 3))
 have KC1:=am (show (((w.alloc (.cells #[.slice A0_0 l0_0.length c0_0] 25)).alloc (.cells #[.slice A1_0 l1_0.length c1_0] 28)).alloc (.cells #[.int .i64 a2] 3)).cell? ⟨w.heap.size+1,0,none⟩=some (.slice A1_0 l1_0.length c1_0) from jqc _ (by have h:=jTb (w.alloc (.cells #[.slice A0_0 l0_0.length c0_0] 25)) (.slice A1_0 l1_0.length c1_0) 28;simpa only [World.size_alloc] using h))
 have KC2:=am (show (((w.alloc (.cells #[.slice A0_0 l0_0.length c0_0] 25)).alloc (.cells #[.slice A1_0 l1_0.length c1_0] 28)).alloc (.cells #[.int .i64 a2] 3)).cell? ⟨w.heap.size+1+1,0,none⟩=some (.int .i64 a2) from (by have h:=jTb ((w.alloc (.cells #[.slice A0_0 l0_0.length c0_0] 25)).alloc (.cells #[.slice A1_0 l1_0.length c1_0] 28)) (.int .i64 a2) 3;simpa only [World.size_alloc] using h))
 have HV:=am (fun W (hb:Below w.heap.size w W) (B:Nat) (hB:W.cell? ⟨B,0,none⟩=some (.int .i64 a2))=>jwa.calls k A0_0 c0_0 l0_0 A1_0 c1_0 l1_0 (some ⟨B,0,none⟩) 1 [a2] v W (Kd.jT hr0_0 hb) hc0_0 (Kd.jT hr1_0 hb) hc1_0 (impl_ShownChain_C_one hB) (by simp) hv)
 cases v with
 | false =>
  obtain rfl:[]=r:=by simpa using h
  clear hv h hr0_0 hr1_0
  go_enter Tryd.func10,Tryd.ntmps10
  go_wp2_with (go_at_call 28;refine (HV.out _ B3.out (w.heap.size+1+1) KC2.out).mono ?_;rintro e w' ⟨rfl,hb2⟩)
  go_ret
  exact ⟨_,rfl,Kd.R_nil _ _ _ _ _,B3.out.trans (hb2.mono (by simp;omega))⟩
 | true =>
  simp only [if_true] at h
  obtain ⟨l,rfl⟩:∃ l,l=r:=⟨_,rfl⟩
  have hl:=h
  clear h
  have HF:=am (fun W (hb:Below w.heap.size w W)=>impl_ShownChain_walk k A1_0 l1_0.length c1_0 (fun g=>jza.f l1_0 g) a2 l W hl (fun W' hb' x y hx=>jza.calls A1_0 c1_0 l1_0 x y W' (Kd.jT (Kd.jT hr1_0 hb) hb') hc1_0 hx))
  clear hv hr0_0 hr1_0 hl
  go_enter Tryd.func10,Tryd.ntmps10
  go_wp2_with (first |(go_at_call 28;refine (HV.out _ B3.out (w.heap.size+1+1) KC2.out).mono ?_;rintro e w1 ⟨rfl,hb2⟩;have hb1:=am (B3.out.trans (hb2.mono (by simp;omega)));have hcell:=jQ hb2 KC1.out;clear HV hb2) |(go_at_call 29;refine (HF.out _ hb1.out).mono ?_;rintro e w2 ⟨v2,rfl,hr2,hb3⟩))
  go_ret
  exact ⟨_,rfl,Kd.jfa hr2 hb1.out.size,jyb hb1.out hb1.out.size hb3⟩

def sh171_ren : Go.Shelf.Ren := ⟨fun | 171 => 86 | 243 => 95 | 246 => 98 | 283 => 99 | 284 => 100 | 285 => 101 | 286 => 102 | 129 => 104 | 317 => 103 | 318 => 105 | 319 => 106 | 320 => 107 | 337 => 108 | 338 => 109 | n => n, fun | 3 => 3 | 9 => 9 | 2 => 2 | 4 => 4 | 171 => 124 | 0 => 0 | 53 => 125 | 37 => 22 | 5 => 5 | 173 => 128 | 212 => 131 | 51 => 132 | 20 => 20 | 213 => 133 | 46 => 134 | 232 => 137 | 233 => 138 | n => n, fun | 17 => 0 | 18 => 1 | 19 => 2 | n => n⟩
theorem sh171 : Go.Proofs.Lays.n171 Tryd.prog sh171_ren := {
 mixed:=by kernel_rfl
 f129:=Tryd.func104.trans (congrArg some (by kernel_rfl))
 f171:=Tryd.func86.trans (congrArg some (by kernel_rfl))
 f243:=Tryd.func95.trans (congrArg some (by kernel_rfl))
 f246:=Tryd.func98.trans (congrArg some (by kernel_rfl))
 f283:=Tryd.func99.trans (congrArg some (by kernel_rfl))
 f284:=Tryd.func100.trans (congrArg some (by kernel_rfl))
 f285:=Tryd.func101.trans (congrArg some (by kernel_rfl))
 f286:=Tryd.func102.trans (congrArg some (by kernel_rfl))
 f317:=Tryd.func103.trans (congrArg some (by kernel_rfl))
 f318:=Tryd.func105.trans (congrArg some (by kernel_rfl))
 f319:=Tryd.func106.trans (congrArg some (by kernel_rfl))
 f320:=Tryd.func107.trans (congrArg some (by kernel_rfl))
 f337:=Tryd.func108.trans (congrArg some (by kernel_rfl))
 f338:=Tryd.func109.trans (congrArg some (by kernel_rfl))
 t0:=Tryd.underlying0
 a0:=Tryd.isAgg0
 z0:=Tryd.sizeOf0
 v0:=Tryd.zeroValue0
 t2:=Tryd.underlying2
 a2:=Tryd.isAgg2
 z2:=Tryd.sizeOf2
 v2:=Tryd.zeroValue2
 t3:=Tryd.underlying3
 a3:=Tryd.isAgg3
 z3:=Tryd.sizeOf3
 v3:=Tryd.zeroValue3
 t4:=Tryd.underlying4
 a4:=Tryd.isAgg4
 z4:=Tryd.sizeOf4
 v4:=Tryd.zeroValue4
 t5:=Tryd.underlying5
 a5:=Tryd.isAgg5
 z5:=Tryd.sizeOf5
 v5:=Tryd.zeroValue5
 t9:=Tryd.underlying9
 a9:=Tryd.isAgg9
 z9:=Tryd.sizeOf9
 v9:=Tryd.zeroValue9
 t20:=Tryd.underlying20
 a20:=Tryd.isAgg20
 z20:=Tryd.sizeOf20
 v20:=Tryd.zeroValue20
 t37:=Tryd.underlying22
 a37:=Tryd.isAgg22
 z37:=Tryd.sizeOf22
 v37:=Tryd.zeroValue22
 t46:=Tryd.underlying134
 a46:=Tryd.isAgg134
 z46:=Tryd.sizeOf134
 v46:=Tryd.zeroValue134
 t51:=Tryd.underlying132
 a51:=Tryd.isAgg132
 z51:=Tryd.sizeOf132
 v51:=Tryd.zeroValue132
 t53:=Tryd.underlying125
 a53:=Tryd.isAgg125
 z53:=Tryd.sizeOf125
 v53:=Tryd.zeroValue125
 t171:=Tryd.underlying124
 a171:=Tryd.isAgg124
 z171:=Tryd.sizeOf124
 v171:=Tryd.zeroValue124
 t173:=Tryd.underlying128
 a173:=Tryd.isAgg128
 z173:=Tryd.sizeOf128
 v173:=Tryd.zeroValue128
 t212:=Tryd.underlying131
 a212:=Tryd.isAgg131
 z212:=Tryd.sizeOf131
 v212:=Tryd.zeroValue131
 t213:=Tryd.underlying133
 a213:=Tryd.isAgg133
 z213:=Tryd.sizeOf133
 t232:=Tryd.underlying137
 a232:=Tryd.isAgg137
 z232:=Tryd.sizeOf137
 v232:=Tryd.zeroValue137
 t233:=Tryd.underlying138
 a233:=Tryd.isAgg138
 z233:=Tryd.sizeOf138
 v233:=Tryd.zeroValue138
 g17:=by kernel_rfl
 g18:=by kernel_rfl
 g19:=by kernel_rfl }
def strconv_Itoa.f (a0 : Int) : Option ByteArray := if 0 ≤ a0 then (if a0 < 100 then some ⟨(Lib.decDigits a0.toNat).toArray⟩ else none) else none
set_option maxHeartbeats 8000000 in
set_option maxRecDepth 100000 in
theorem strconv_Itoa.calls (a0 : Int) (r : ByteArray) (w : World) (h : strconv_Itoa.f a0 = some r) :
  Calls Tryd.prog 86 #[.int .i64 a0] w fun e w'=>e=.returned (.string r)∧jzb w w':=by
 unfold strconv_Itoa.f at h
 by_cases h0:0≤a0
 ·rw [if_pos h0] at h
  by_cases h1:a0<100
  ·rw [if_pos h1] at h
   obtain rfl:=Option.some.inj h
   have hs:=Go.Proofs.Any.strconv_Itoa_small sh171 a0.toNat (by omega) w
   rw [Int.toNat_of_nonneg h0] at hs
   refine Calls.mono (show Calls Tryd.prog 86 _ w _ from hs) ?_
   rintro e w' ⟨rfl,rfl⟩
   exact ⟨rfl,jzb.refl _⟩
  ·rw [if_neg h1] at h;cases h
 ·rw [if_neg h0] at h;cases h
def jNa.f (l0_0 : List (S99)) (a1 : Int) (a2 : Int) : Option (ByteArray) := if 0 ≤ a1 then (if a1 < (l0_0.length : Int) then (if ((jO l0_0 a1).f0).size + 1 ≤ 9223372036854775807 then ((strconv_Itoa.f a2).bind fun t409 => (if (((jO l0_0 a1).f0) ++ (⟨#[58]⟩ : ByteArray)).size + t409.size ≤ 9223372036854775807 then (some ((((jO l0_0 a1).f0) ++ (⟨#[58]⟩ : ByteArray)) ++ t409)) else (none))) else (none)) else (none)) else (none)
set_option maxHeartbeats 8000000 in
set_option maxRecDepth 100000 in
theorem jNa.calls (A0_0 : Option Addr) (c0_0 : Nat) (l0_0 : List (S99)) (a1 : Int) (a2 : Int) (r : ByteArray) (w : World) (hr0_0 : Kd.C k99 w A0_0 l0_0.length l0_0) (hc0_0 : l0_0.length ≤ c0_0) (h : jNa.f l0_0 a1 a2 = some r) :
  Calls Tryd.prog 59 #[.agg #[.slice A0_0 l0_0.length c0_0], .int .i64 a1, .int .i64 a2] w fun e w'=>e=.returned (.string r)∧Below w.heap.size w w':=by
 have hu25:=Tryd.underlying25
 have HR0_0:=am hr0_0
 have HC0_0:=am hc0_0
 clear hr0_0 hc0_0
 have HB:=am (Below.refl w.heap.size w)
 have H:(if 0≤a1 then (if a1<(l0_0.length:Int) then (if ((jO l0_0 a1).f0).size+1≤9223372036854775807 then ((strconv_Itoa.f a2).bind fun t409=>(if (((jO l0_0 a1).f0) ++ (⟨#[58]⟩:ByteArray)).size+t409.size≤9223372036854775807 then (some ((((jO l0_0 a1).f0) ++ (⟨#[58]⟩:ByteArray)) ++ t409)) else (none))) else (none)) else (none)) else (none))=some r:=h
 clear h
 by_cases c4:0≤a1
 ·rw [if_pos c4] at H
  have c4b0:decide (0≤a1)=true:=dzT c4
  clear c4
  by_cases c5:a1<(l0_0.length:Int)
  ·rw [if_pos c5] at H
   have c5b0:decide (a1<(l0_0.length:Int))=true:=dzT c5
   clear c5
   by_cases c6:((jO l0_0 a1).f0).size+1≤9223372036854775807
   ·rw [if_pos c6] at H
    have c6b0:=ezT c6
    have c6b1:decide (((jO l0_0 a1).f0).size+1≤9223372036854775807)=true:=dzT c6
    try have c6b2:(9223372036854775807<((jO l0_0 a1).f0).size+1)=False:=eq_false (Nat.not_lt.2 c6)
    replace H:=bzS H
    obtain ⟨t409,A70,H⟩:=H
    replace H:(if (((jO l0_0 a1).f0) ++ (⟨#[58]⟩:ByteArray)).size+t409.size≤9223372036854775807 then (some ((((jO l0_0 a1).f0) ++ (⟨#[58]⟩:ByteArray)) ++ t409)) else (none))=some r:=H
    have A7:=am A70
    clear A70
    by_cases c8:(((jO l0_0 a1).f0) ++ (⟨#[58]⟩:ByteArray)).size+t409.size≤9223372036854775807
    ·rw [if_pos c8] at H
     have c8b0:=ezT c8
     have c8b1:decide ((((jO l0_0 a1).f0) ++ (⟨#[58]⟩:ByteArray)).size+t409.size≤9223372036854775807)=true:=dzT c8
     try have c8b2:(9223372036854775807<(((jO l0_0 a1).f0) ++ (⟨#[58]⟩:ByteArray)).size+t409.size)=False:=eq_false (Nat.not_lt.2 c8)
     try have c8s:(9223372036854775807<((jO l0_0 a1).f0).size+1+t409.size)=False:=eq_false (Nat.not_lt.2 (by have h_:=c8;simp only [ByteArray.size_append] at h_;exact h_))
     obtain rfl:=Option.some.inj H
     go_enter Tryd.func59,Tryd.ntmps59
     go_wp2_with (first |((with_reducible refine jC (N:=3) rfl ?_);refine bE (N:=3) (cs:=#[.slice A0_0 l0_0.length c0_0]) (t:=25) ?_;intro gb407 hg w9 hbox hb;have BK407:=am (hbox);have GW407:=am ((Y0:w.heap.size≤gb407));have GE407:=am ((Y0:w.heap.size≤gb407));replace HB:=am (je (bq) hb);clear hb hbox hg;have hcz10_0:=bc0 BK407.out;have hfz10_0:=jb BK407.out 0;have p408:0≤(a1:Int):=ozD (uq);have q408:a1<(l0_0.length:Int):=ozD (uq);obtain ⟨ad408,e408,hx408_0,hx408_1⟩:=at_T99 HR0_0.out a1 p408 q408;cases e408;replace hx408_0:=cb HB.out hx408_0;replace hx408_1:=cb HB.out hx408_1;replace p408:=ezT p408;replace q408:=ezT q408) |(go_at_call 86;(with_reducible refine (strconv_Itoa.calls a2 t409 _ A7.out).mono ?_);rintro e w' ⟨rfl,⟨nd,rfl⟩⟩;(try first | exact ⟨rfl,_,World.drewN_drewN _ _ _⟩ | exact ⟨rfl,_,Eq.trans (World.drewN_drewN _ _ _) (congrArg (World.drewN _) (Nat.add_assoc _ _ _))⟩)))
     repeat (go_quiet (first |((with_reducible refine jC (N:=3) rfl ?_);refine bE (N:=3) (cs:=#[.slice A0_0 l0_0.length c0_0]) (t:=25) ?_;intro gb407 hg w9 hbox hb;have BK407:=am (hbox);have GW407:=am ((Y0:w.heap.size≤gb407));have GE407:=am ((Y0:w.heap.size≤gb407));replace HB:=am (je (bq) hb);clear hb hbox hg;have hcz10_0:=bc0 BK407.out;have hfz10_0:=jb BK407.out 0;have p408:0≤(a1:Int):=ozD (uq);have q408:a1<(l0_0.length:Int):=ozD (uq);obtain ⟨ad408,e408,hx408_0,hx408_1⟩:=at_T99 HR0_0.out a1 p408 q408;cases e408;replace hx408_0:=cb HB.out hx408_0;replace hx408_1:=cb HB.out hx408_1;replace p408:=ezT p408;replace q408:=ezT q408) |(go_at_call 86;(with_reducible refine (strconv_Itoa.calls a2 t409 _ A7.out).mono ?_);rintro e w' ⟨rfl,⟨nd,rfl⟩⟩;(try first | exact ⟨rfl,_,World.drewN_drewN _ _ _⟩ | exact ⟨rfl,_,Eq.trans (World.drewN_drewN _ _ _) (congrArg (World.drewN _) (Nat.add_assoc _ _ _))⟩)));try go_wp2_with (first |((with_reducible refine jC (N:=3) rfl ?_);refine bE (N:=3) (cs:=#[.slice A0_0 l0_0.length c0_0]) (t:=25) ?_;intro gb407 hg w9 hbox hb;have BK407:=am (hbox);have GW407:=am ((Y0:w.heap.size≤gb407));have GE407:=am ((Y0:w.heap.size≤gb407));replace HB:=am (je (bq) hb);clear hb hbox hg;have hcz10_0:=bc0 BK407.out;have hfz10_0:=jb BK407.out 0;have p408:0≤(a1:Int):=ozD (uq);have q408:a1<(l0_0.length:Int):=ozD (uq);obtain ⟨ad408,e408,hx408_0,hx408_1⟩:=at_T99 HR0_0.out a1 p408 q408;cases e408;replace hx408_0:=cb HB.out hx408_0;replace hx408_1:=cb HB.out hx408_1;replace p408:=ezT p408;replace q408:=ezT q408) |(go_at_call 86;(with_reducible refine (strconv_Itoa.calls a2 t409 _ A7.out).mono ?_);rintro e w' ⟨rfl,⟨nd,rfl⟩⟩;(try first | exact ⟨rfl,_,World.drewN_drewN _ _ _⟩ | exact ⟨rfl,_,Eq.trans (World.drewN_drewN _ _ _) (congrArg (World.drewN _) (Nat.add_assoc _ _ _))⟩))))
     go_ret
     exact ⟨Y1,by repeat (first |(with_reducible first | exact HB.out | apply jr | apply jo | apply jq | refine jl ?_ GE407.out) | exact HB.out)⟩
    ·rw [if_neg c8] at H
     exact absurd H (by simp)
   ·rw [if_neg c6] at H
    exact absurd H (by simp)
  ·rw [if_neg c5] at H
   exact absurd H (by simp)
 ·rw [if_neg c4] at H
  exact absurd H (by simp)
set_option maxHeartbeats 8000000 in
set_option maxRecDepth 100000 in
theorem impl_chainText_walk (k : Nat) (A_ : Option Addr) (n_ c_ : Nat) (nx : Int → Option Int) (a0 : Int) (r : List Int) (w : World) (h : jZa nx k a0 [] = some r)
  (hp:∀ W,Below w.heap.size w W→∀ (x y:Int),nx x=some y→Calls Tryd.prog 30 #[.agg #[.slice A_ n_ c_], .int .i64 x] W fun e w'=>e=.returned (.int .i64 y)∧Below W.heap.size W w') :
  Calls Tryd.prog 29 #[.int .i64 a0, .func (.func 30) #[.agg #[.slice A_ n_ c_]] #[]] w fun e w'=>∃ v0_:Value,e=.returned v0_∧Kd.R (Kd.int .i64) 3 w' w.heap.size (fun _=>True) v0_ r∧Below w.heap.size w w':=by
 have HP:=am hp
 have H0:=am h
 have HB:=am (Below.refl w.heap.size w)
 clear hp h
 go_enter Tryd.func29,Tryd.ntmps29
 go_wp2_with ((with_reducible refine jC (N:=6) rfl ?_);refine Kd.jrc (Kd.int .i64) _ 3 ?hg (N:=6) ?hd (xs:=([]:List Int)) (inner:=[]) (ok:=fun _=>True) (okp:=fun _=>True) ?hr ?hp (fun _ hk=>hk) trivial (Below.refl _ _) (Nat.le_refl _) (by simp) ?_;(case hd=>rfl);(case hg=>rfl);(case hr=>exact Y3);(case hp=>exact (Reps.none _ _));intro v111 w4 ho5 hb hg_ hnew_;clear hg_ hnew_;have n0_:=am (Kd.jfa ho5 (jI (bq)));have n2_:=am (je (bq) hb);clear HB;have HO:=n0_;have HB:=n2_;clear n0_ n2_ hb ho5)
 go_loopg [0,5] k (fun kq v0 v5 w'=>∃ (x:Int) (acc:List Int),v0=.int .i64 x∧jD (jZa nx kq x acc=some r)∧jD (kq≤k)∧jD (Kd.R (Kd.int .i64) 3 w' w.heap.size (fun _=>True) v5 acc)∧jD (Below w.heap.size w w'))
 case atStart=>exact ⟨a0,[],(sq),H0,⟨Nat.le_refl _⟩,⟨rq HO.out⟩,⟨bq⟩⟩
 case round =>
  clear H0 HO HB
  obtain ⟨x,acc,rfl,HA,HK1,HO,HB⟩:=hrel
  cases gk with
  | zero=>exact absurd HA.out (by simp [jZa])
  | succ k1 =>
   have H:=HA.out
   clear HA
   simp only [jZa] at H
   obtain ⟨Ao,co,eo⟩:=Kd.jX HO.out
   subst eo
   by_cases c6:x≥0
   ·rw [if_pos c6] at H
    have c6b0:decide (0≤x)=true:=dzT c6
    clear c6
    obtain ⟨b,A70,H⟩:=bzS H
    have A7:=am A70
    clear A70
    cases b with
    | true =>
     rw [if_pos rfl] at H
     obtain rfl:=Option.some.inj H
     clear H
     go_wp2_with (first |(go_at_call 53;(with_reducible refine (jga.calls k1 _ _ acc x true _ ?side1 ?side2 A7.out).mono ?_);(case side1=>exact cq (Kd.jA HO.out).2.2);(case side2=>exact (Kd.jA HO.out).2.1);rintro e w' ⟨rfl,⟨nd,rfl⟩⟩) |(go_at_call 54;refine (jda.calls (fun _=>True) _ acc acc w _ (bq) (rq HO.out) (show jda.f acc=some acc from rfl)).mono ?_;rintro e w9 ⟨v9,rfl,hR9,hB9,hK9⟩))
     go_ret
     exact ⟨_,rfl,Kd.jH hR9 (fun _ _=>trivial),hB9⟩
    | false =>
     rw [if_neg (by simp)] at H
     by_cases c10:acc.length<17592186044416
     ·rw [if_pos c10] at H
      have LM:=am c10
      clear c10
      obtain ⟨y,hy,H⟩:=bzS H
      have HQ:=am hy
      have H':=am H
      clear H hy
      go_wp2_with (first |(go_at_call 53;(with_reducible refine (jga.calls k1 _ _ acc x false _ ?side1 ?side2 A7.out).mono ?_);(case side1=>exact cq (Kd.jA HO.out).2.2);(case side2=>exact (Kd.jA HO.out).2.1);rintro e w' ⟨rfl,⟨nd,rfl⟩⟩) |(go_at_call 30;refine (HP.out _ (bq) _ _ HQ.out).mono ?_;rintro e w2 ⟨rfl,hb2⟩;have n1_:=am (Kd.jM (rq HO.out) hb2);have n2_:=am (je (bq) hb2);clear HO HB;have HO:=n1_;have HB:=n2_;clear n1_ n2_ hb2) |((with_reducible refine jAb (b:=.append) (xs:=#[.tmp 18, .tmp 20]) rfl ?_);at_builtin;refine Kd.jyc (Kd.int .i64) (w0:=w) w.heap.size rfl (.tmp 18) (.tmp 20) 32 3 (.int .i64 0) 8 rfl Tryd.underlying32 info3 rfl (by decide) (by omega) (.slice Ao acc.length co) acc x [.int .i64 x] (fun _=>True) (fun _=>False) rfl rfl ?aP (fun _ hk=>hk.elim) ?aF ?aO ?aB ?aS ?aL ?_;(case aP=>exact rfl);(case aB=>exact (bq));(case aF=>exact (fun _ _=>trivial));(case aO=>exact (rq HO.out));(case aS=>exact (jI (bq)));(case aL=>have:=LM.out;omega);intro v115 w14 ho hb hg hat;have n1_:=am (hb);have n2_:=am (ho);clear HB HO;have HB:=n1_;have HO:=n2_;clear n1_ n2_ ho hb hg hat))
      go_roundg k1
      case measure=>have:=HK1.out;omega
      case rel=>exact ⟨y,acc ++ [x],(sq),H',⟨by have:=HK1.out;omega⟩,⟨rq HO.out⟩,⟨bq⟩⟩
     ·rw [if_neg c10] at H
      cases H
   ·rw [if_neg c6] at H
    have c6b0:decide (0≤x)=false:=dzF c6
    clear c6
    obtain rfl:=Option.some.inj H
    clear H
    go_wp2_with (go_at_call 54;refine (jda.calls (fun _=>True) _ acc acc w _ (bq) (rq HO.out) (show jda.f acc=some acc from rfl)).mono ?_;rintro e w9 ⟨v9,rfl,hR9,hB9,hK9⟩)
    go_ret
    exact ⟨_,rfl,Kd.jH hR9 (fun _ _=>trivial),hB9⟩
section
open Go.Shelf
attribute [local go_sem] Oper.semAt_some
theorem xwrC {x : Int} (h : -9223372036854775808 ≤ x ∧ x ≤ 9223372036854775807) : wrap64 x = x := by unfold wrap64; omega
def uptoC {α : Type} (f : Nat → α) (k : Nat) : List α := (List.range k).map f
theorem uptoC_succ {α : Type} (f : Nat → α) (k : Nat) : uptoC f (k + 1) = uptoC f k ++ [f k] := by simp [uptoC, List.range_succ]
theorem uptoC_length {α : Type} (f : Nat → α) (k : Nat) : (uptoC f k).length = k := by simp [uptoC]
set_option maxRecDepth 100000 in
set_option maxHeartbeats 4000000 in
theorem backC1_in {α : Type} (F : Fence) (n : Nat) (h8 : F.fn 85) (hro : F.round = none) (hn : 1 ≤ n) (l Bs : Nat) (A : Option Addr) (cap : Nat) (xs : List Int) (hm : xs.length ≤ 9223372036854775807) (RD : World → Prop) (Kp : World → World → Prop) (hRD : ∀ W, RD W → Kd.C (Kd.int .i64) W A xs.length xs ∧ Boxed W Bs 32 (.slice A xs.length cap)) (hKp : ∀ W W', Kp W W' → RD W → RD W')
  (encs:α→Array Value) (g:Nat→α) (hg:∀ j:Nat,j<xs.length→encs (g j)=#[.int .i64 ((xs.length:Int) - 1 - j), .int .i64 (rd xs ((xs.length:Int) - 1 - j))])
  (J Jx:List α→World→Prop)
  (hY:∀ pre x W,J pre W→pre.length<xs.length→YieldAt F (n - 1) Tryd.prog l (encs x) W fun e W' =>
   (e=.returned (.bool true)∧J (pre ++ [x]) W'∧Kp W W')∨(e=.returned (.bool false)∧Jx (pre ++ [x]) W'))
  (W:World) (hW:RD W) (h0:J [] W) :
  CallsIn F n Tryd.prog 85 #[.func (.yield l) #[] #[], .pointer (some ⟨Bs,0,none⟩)] W fun e W'=>(∃ v,e=.returned v) ∧
   ((∃ ys,ys=uptoC g xs.length∧J ys W')∨(∃ pre,(∃ k,k≤xs.length∧pre=uptoC g k)∧Jx pre W')):=by
 have cBs:=(hRD W hW).2.cell
 refine callsIn_of_wp Tryd.func85 rfl h8 ?_ hro
 simp only [Tryd.ntmps85,List.size_toArray,List.length_cons,List.length_nil,Nat.reduceAdd,Nat.reduceSub,Array.replicate_succ,Array.replicate_zero,List.push_toArray,List.append_toArray,List.nil_append,List.cons_append]
 gi_wp2
 have hwr:wrap64 ((xs.length:Int) - 1)=(xs.length:Int) - 1:=xwrC (by omega)
 gi_loopw [3] (fun i wr=>∃ k:Nat,k≤xs.length∧i=.int .i64 ((xs.length:Int) - 1 - k)∧J (uptoC g k) wr∧RD wr)
  (fun i _=>(intOf i+1).toNat)
 case atStart=>exact ⟨0,Nat.zero_le _,by simp,h0,hW⟩
 case round =>
  obtain ⟨k,hk,rfl,hJs,hnx⟩:=hrel
  have cB:=(hRD _ hnx).2.cell
  by_cases hlt:k<xs.length
  ·obtain ⟨fn,tmps,assign,body,hy,hR⟩:=hY _ (g k) wr hJs (by rw [uptoC_length];exact hlt)
   rw [hg k hlt] at hy
   obtain ⟨j,hj⟩:∃ j:Nat,(xs.length:Int) - 1 - k=(j:Int):=⟨xs.length - 1 - k,by omega⟩
   have p0:0≤(j:Int):=by omega
   have p1:(j:Int)<(xs.length:Int):=by omega
   have p2:j<xs.length:=by omega
   rw [hj] at hy ⊢
   obtain ⟨ad,rfl,x0⟩:=Kd.jLb (hRD _ hnx).1 (j:Int) p0 p1
   rw [Int.toNat_natCast] at x0
   gi_wp2
   refine hR.mono ?_
   rintro e W3 (⟨rfl,hJ3,hk3⟩ | ⟨rfl,hJx3⟩)
   ·have hb3:=hKp _ _ hk3 hnx
    have c3:=(hRD _ hb3).2.cell
    gi_wp2
    go_roundw
    case rel=>exact ⟨k+1,by omega,by congr 1;omega,by rw [uptoC_succ];exact hJ3,hb3⟩
    case measure=>simp [intOf]
   ·gi_wp2
    refine bodyPost_ret (results_none rfl _ _ _) rfl ?_
    exact ⟨⟨_,rfl⟩, .inr ⟨_,⟨k+1,by omega,(uptoC_succ _ _).symm⟩,hJx3⟩⟩
  ·obtain rfl:k=xs.length:=by omega
   have q2:decide ((xs.length:Int) - 1 - xs.length≥0)=false:=dzF (by omega)
   gi_wp2
   go_end0
   exact ⟨⟨_,rfl⟩, .inl ⟨_,rfl,hJs⟩⟩
theorem KeepsFrom.jOb {W W' : World} (h : Below W.heap.size W W') (B : Nat) : KeepsFrom B W W' := ⟨h.size, fun k o _ hk _ => (h.block k (Array.getElem?_eq_some_iff.1 hk).1).trans hk⟩
theorem Boxed.jxc {W W' : World} {B : Nat} {t : TypeId} {v : Value} (h : Boxed W B t v) (hb : Below W.heap.size W W') : Boxed W' B t v := (hb.block B h.lt).trans h
set_option maxHeartbeats 1000000 in
theorem backC_in (F : Fence) (n : Nat) (h6 : F.fn 58) (hro : F.round = none) (a : Option Addr) (len cap : Nat) (w : World) :
  CallsIn F n Tryd.prog 58 #[.slice a len cap] w fun e w'=>e=.returned (.func (.func 85) #[] #[.pointer (some ⟨w.heap.size,0,none⟩)])∧w'=w.alloc (.cells #[.slice a len cap] 32):=by
 refine callsIn_of_wp Tryd.func58 rfl h6 ?_ hro
 simp only [Tryd.ntmps58,List.size_toArray,List.length_cons,List.length_nil,Nat.reduceAdd,Nat.reduceSub,Array.replicate_succ,Array.replicate_zero,List.push_toArray,List.append_toArray,List.nil_append,List.cons_append]
 gi_wp2
 go_ret
 exact ⟨rfl,rfl⟩
def jwc (o : Oper) : Bool := match o.op with | .defer _ => false | _ => true
theorem noDeferC_spec {o : Oper} (h : jwc o = true) : ∀ c, o.op ≠ .defer c := fun c hc => by simp [jwc, hc] at h
theorem opInC_round {F : Fence} {l n : Nat} {P : Program} {o : Oper} {a : Act} {w : World} {K : Act → World → Prop} {Q : Exit → Act → World → Prop} (hro : F.round = none) (hd : jwc o = true) (h : o.wpIn F n P a w K Q) : o.wpIn (F.inRound l) n P a w K Q := by
 unfold Oper.wpIn at *
 refine ⟨h.1,?_⟩
 have h2:=h.2
 rw [hro,Oper.semAt_none] at h2
 rw [Fence.inRound_round,Oper.semAt_some l _ _ (noDeferC_spec hd)]
 exact h2
theorem opsInC_round {F : Fence} {l n : Nat} {P : Program} {ops : Array Oper} {K K' : Act → World → Prop} {Q : Exit → Act → World → Prop} (hro : F.round = none) (hd : ops.all jwc = true) {i : Nat} {a : Act} {w : World} (hK : ∀ a w, K a w → K' a w) (h : wpOpIn F n P ops Q i K a w) : wpOpIn (F.inRound l) n P ops Q i K' a w := by
 have h:=wpOpIn_mono hK h
 unfold wpOpIn at h ⊢
 cases ho:ops[i]? with
 | none=>simp only [ho] at h ⊢;exact h
 | some o =>
  simp only [ho] at h ⊢
  have hn:jwc o=true:=by
   obtain ⟨hi,e⟩:=Array.getElem?_eq_some_iff.1 ho
   have:=Array.all_eq_true.1 hd i hi
   rw [e] at this;exact this
  split
  ·rename_i hw;rw [if_pos hw] at h;exact opInC_round hro hn h
  ·rename_i hw;rw [if_neg hw] at h;exact h
theorem wpAnyInC_round {F : Fence} {l n : Nat} {P : Program} {md : Region.Mode} {ops : Array Oper} {Q : Exit → Act → World → Prop} (hro : F.round = none) (hd : ops.all jwc = true) : ∀ (fuel : Nat) (listed : Array Bool) (a : Act) (w : World), wpAnyIn F n P md ops Q fuel listed a w → wpAnyIn (F.inRound l) n P md ops Q fuel listed a w
 | 0,_,_,_,h=>h
 | fuel+1,listed,a,w,h=>⟨h.1,fun i hi=>opsInC_round hro hd (fun a w hh=>wpAnyInC_round hro hd fuel _ a w hh) (h.2 i hi)⟩
theorem opC_wide {n : Nat} {P : Program} {o : Oper} {a : Act} {w : World} {K K' : Act → World → Prop} {Q : Exit → Act → World → Prop} (hK : ∀ a w, K a w → K' a w) (h : o.wp P a w K Q) : o.wpIn Fence.wide n P a w K' Q := by
 unfold Oper.wp at h
 unfold Oper.wpIn
 refine ⟨fun _ _=>trivial,?_⟩
 rw [show Fence.wide.round=none from rfl,Oper.semAt_none]
 generalize (execOp a.eval o).run P w=r at h ⊢
 have hd:Fence.wide.depth.isSome=true→1≤n:=fun e=>by simp [Fence.wide] at e
 cases r with
 | ok y w' =>
  cases y <;> simp only [Oper.upon,Oper.uponIn] at h ⊢ <;>
   first
    | exact hK _ _ h
    | exact ⟨hd,callsIn_wide.2 (h.mono fun e w'' he=>by cases e <;> first | exact hK _ _ he | exact he)⟩
    | exact ⟨hd,fun c cs _=>let ⟨v,w'',r,s⟩:=h c cs;⟨v,w'',hK _ _ r,stepsIn_wide.2 s⟩⟩
    | exact h.elim
 | halt y w'=>cases y <;> simp only [Oper.upon,Oper.uponIn] at h ⊢ <;> first | exact h | exact h.elim
theorem juc {n : Nat} {P : Program} {md : Region.Mode} {ops : Array Oper} {Q : Exit → Act → World → Prop} (hL : ¬ LetsOut Q) : ∀ (fuel : Nat) (listed : Array Bool) (a : Act) (w : World), wpAny P md ops Q fuel listed a w → wpAnyIn Fence.wide n P md ops Q fuel listed a w
 | 0,_,_,_,h=>h
 | fuel+1,listed,a,w,h=>⟨h.1,fun i hi=>by
  have h2:=h.2 i hi
  unfold wpOp at h2
  unfold wpOpIn
  cases ho:ops[i]? with
  | none=>simp only [ho] at h2 ⊢;exact juc hL fuel _ a w h2
  | some o =>
   simp only [ho] at h2 ⊢
   split
   ·rename_i hw
    rw [if_pos hw] at h2
    rcases h2 with h2 | ⟨_,h2⟩
    ·exact opC_wide (fun a w hh=>juc hL fuel _ a w hh) h2
    ·exact absurd h2 hL
   ·rename_i hw
    rw [if_neg hw] at h2
    exact ⟨fun _ _=>trivial,juc hL fuel _ _ w h2⟩⟩
theorem jYb {l n : Nat} {P : Program} {id : Nat} {ops : Array Oper} {Q : Exit → Act → World → Prop} {a : Act} {w : World} (S : World → Prop) (hm : P.follows .mixedOrders = true) (hd : ops.all jwc = true) (hL : ¬ LetsOut Q)
  (h:wpAnyH P .any ops Q S ops.size (Array.replicate ops.size false) a w.drew):(Code.region id ops true).wpIn (Fence.wide.inRound l) n P Q a w :=
 wpIn_region_any hm (wpAnyInC_round (F:=Fence.wide) (l:=l) rfl hd _ _ _ _ (juc hL _ _ _ _ (wpAny_of_held _ _ _ _ h)))
def chAt (t : List S99) (h : List S66) (l : List Int) (i g : Int) : Option ByteArray :=
 if 0≤g then (if g<(h.length:Int) then (jNa.f t (ja h g).f0 (ja h g).f1).bind fun tx=>if tx.size≤2000000 then
  (if i<(l.length:Int) - 1 then (if 0≤i then some ((if (ja h g).f2=rd l (i+1) then (⟨#[32,62,32]⟩:ByteArray) else (⟨#[32,126,32]⟩:ByteArray)) ++ tx) else none) else some tx) else none else none) else none
def chAll (t : List S99) (h : List S66) (l : List Int) : Nat → Option ByteArray
 | 0=>some ⟨#[]⟩
 | i+1=>(chAt t h l (i:Int) (rd l (i:Int))).bind fun a=>(chAll t h l i).bind fun b=>some (a ++ b)
def jIa.f (k : Nat) (l0_0 : List S66) (l1_0 : List S99) (a2 : Int) : Option ByteArray :=
 (jZa (fun g=>jza.f l0_0 g) k a2 []).bind fun l=>if l.length≤1000000000 then chAll l1_0 l0_0 l l.length else none
theorem chAt_inv {t : List S99} {h : List S66} {l : List Int} {i g : Int} (hx : (chAt t h l i g).isSome = true) : 0 ≤ g ∧ g < (h.length : Int) ∧ ∃ tx, jNa.f t (ja h g).f0 (ja h g).f1 = some tx ∧ tx.size ≤ 2000000 ∧
  ((¬ i<(l.length:Int) - 1∧chAt t h l i g=some tx)∨(i<(l.length:Int) - 1∧0≤i∧(((ja h g).f2=rd l (i+1)∧chAt t h l i g=some ((⟨#[32,62,32]⟩:ByteArray) ++ tx))∨((ja h g).f2≠rd l (i+1)∧chAt t h l i g=some ((⟨#[32,126,32]⟩:ByteArray) ++ tx))))):=by
 unfold chAt at hx ⊢
 by_cases h0:0≤g
 ·rw [if_pos h0] at hx ⊢
  by_cases h1:g<(h.length:Int)
  ·rw [if_pos h1] at hx ⊢
   cases ht:jNa.f t (ja h g).f0 (ja h g).f1 with
   | none=>rw [ht] at hx;cases hx
   | some tx =>
    rw [ht] at hx
    simp only [Option.bind_some] at hx ⊢
    by_cases hz:tx.size≤2000000
    ·rw [if_pos hz] at hx
     refine ⟨h0,h1,tx,rfl,hz,?_⟩
     simp only [if_pos hz]
     by_cases h2:i<(l.length:Int) - 1
     ·rw [if_pos h2] at hx ⊢
      by_cases h3:0≤i
      ·rw [if_pos h3]
       refine .inr ⟨h2,h3,?_⟩
       by_cases h4:(ja h g).f2=rd l (i+1)
       ·exact .inl ⟨h4,by rw [if_pos h4]⟩
       ·exact .inr ⟨h4,by rw [if_neg h4]⟩
      ·rw [if_neg h3] at hx;cases hx
     ·rw [if_neg h2]
      exact .inl ⟨h2,rfl⟩
    ·rw [if_neg hz] at hx;cases hx
  ·rw [if_neg h1] at hx;cases hx
 ·rw [if_neg h0] at hx;cases hx
theorem chAt_size {t : List S99} {h : List S66} {l : List Int} {i g : Int} {r : ByteArray} (hx : chAt t h l i g = some r) : r.size ≤ 2000003 := by
 obtain ⟨_,_,tx,_,hz,h3⟩:=chAt_inv (show (chAt t h l i g).isSome=true by rw [hx];rfl)
 rcases h3 with ⟨_,e⟩ | ⟨_,_,⟨_,e⟩ | ⟨_,e⟩⟩ <;> rw [hx] at e <;> obtain rfl:=Option.some.inj e
 ·omega
 ·rw [ByteArray.size_append];have:(⟨#[32,62,32]⟩:ByteArray).size=3:=rfl;omega
 ·rw [ByteArray.size_append];have:(⟨#[32,126,32]⟩:ByteArray).size=3:=rfl;omega
def catB : List ByteArray → ByteArray
 | []=>⟨#[]⟩
 | x :: r=>x ++ catB r
theorem catB_nil (x : ByteArray) : x ++ (⟨#[]⟩ : ByteArray) = x := ByteArray.append_empty
theorem catB_nil' (x : ByteArray) : (⟨#[]⟩ : ByteArray) ++ x = x := ByteArray.empty_append
theorem catB_snoc : ∀ (a : List ByteArray) (x : ByteArray), catB (a ++ [x]) = catB a ++ x
 | [],x=>by show x ++ (⟨#[]⟩:ByteArray)=(⟨#[]⟩:ByteArray) ++ x;rw [catB_nil,catB_nil']
 | y :: a,x=>by show y ++ catB (a ++ [x])=(y ++ catB a) ++ x;rw [catB_snoc a x,ByteArray.append_assoc]
abbrev ChEl (t : List S99) (h : List S66) (l : List Int) := { x : Int × Int // (chAt t h l x.1 x.2).isSome = true ∨ l.length = 0 }
def ChEl.zero (t : List S99) (h : List S66) (l : List Int) (e : (chAt t h l 0 (rd l 0)).isSome = true ∨ l.length = 0) : ChEl t h l := ⟨(0, rd l 0), e⟩
def ChEl.txt {t : List S99} {h : List S66} {l : List Int} (x : ChEl t h l) : ByteArray := (chAt t h l x.1.1 x.1.2).getD ⟨#[]⟩
def ChEl.acc {t : List S99} {h : List S66} {l : List Int} (pre : List (ChEl t h l)) : ByteArray := catB (pre.map ChEl.txt)
theorem ChEl.acc_snoc {t : List S99} {h : List S66} {l : List Int} (pre : List (ChEl t h l)) (x : ChEl t h l) : ChEl.acc (pre ++ [x]) = ChEl.acc pre ++ x.txt := by
 unfold ChEl.acc;rw [List.map_append,List.map_cons,List.map_nil,catB_snoc]
theorem ChEl.txt_size {t : List S99} {h : List S66} {l : List Int} (x : ChEl t h l) : x.txt.size ≤ 2000003 := by
 unfold ChEl.txt
 cases e:chAt t h l x.1.1 x.1.2 with
 | none=>exact Nat.zero_le _
 | some r=>exact chAt_size e
theorem ChEl.acc_size {t : List S99} {h : List S66} {l : List Int} : ∀ pre : List (ChEl t h l), (ChEl.acc pre).size ≤ pre.length * 2000003
 | []=>Nat.zero_le _
 | x :: pre=>by
  have h1:=ChEl.acc_size pre
  have h2:=ChEl.txt_size x
  show (x.txt ++ ChEl.acc pre).size≤_
  rw [ByteArray.size_append,List.length_cons]
  omega
def ChEl.of (t : List S99) (h : List S66) (l : List Int) (e : (chAt t h l 0 (rd l 0)).isSome = true ∨ l.length = 0) (j : Nat) : ChEl t h l :=
 if q:(chAt t h l ((l.length:Int) - 1 - j) (rd l ((l.length:Int) - 1 - j))).isSome=true then ⟨((l.length:Int) - 1 - j,rd l ((l.length:Int) - 1 - j)), .inl q⟩ else ChEl.zero t h l e
theorem chAll_all {t : List S99} {h : List S66} {l : List Int} : ∀ (n : Nat) (r : ByteArray), chAll t h l n = some r → ∀ j : Nat, j < n → (chAt t h l (j : Int) (rd l (j : Int))).isSome = true
 | 0,_,_,j,hj=>by omega
 | n+1,r,h,j,hj=>by
  simp only [chAll] at h
  obtain ⟨a,h1,h⟩:=bzS h
  obtain ⟨b,h2,h⟩:=bzS h
  by_cases e:j=n
  ·subst e;rw [h1];rfl
  ·exact chAll_all n b h2 j (by omega)
theorem ChEl.acc_all {t : List S99} {h : List S66} {l : List Int} (h0 : (chAt t h l 0 (rd l 0)).isSome = true ∨ l.length = 0) : ∀ (n : Nat) (r : ByteArray), n ≤ l.length → chAll t h l n = some r → catB ((List.range n).map fun j => (ChEl.of t h l h0 (l.length - n + j)).txt) = r
 | 0,r,_,h=>by simp [chAll] at h;rw [← h];rfl
 | n+1,r,hn,h=>by
  have h2:=chAll_all (n+1) r h n (by omega)
  simp only [chAll] at h
  obtain ⟨a,ha,h⟩:=bzS h
  obtain ⟨b,hb,h⟩:=bzS h
  obtain rfl:=Option.some.inj h
  have ih:=ChEl.acc_all h0 n b (by omega) hb
  rw [List.range_succ_eq_map,List.map_cons,catB,List.map_map]
  have e1:(ChEl.of t _ l h0 (l.length - (n+1)+0)).txt=a:=by
   have ei:(l.length:Int) - 1 - ((l.length - (n+1)+0:Nat):Int)=(n:Int):=by omega
   have hh:=h2
   rw [← ei] at hh
   simp only [ChEl.of,dif_pos hh,ChEl.txt]
   rw [ei,ha];rfl
  have e2:(List.map ((fun j=>(ChEl.of t _ l h0 (l.length - (n+1)+j)).txt) ∘ Nat.succ) (List.range n))=(List.range n).map fun j=>(ChEl.of t _ l h0 (l.length - n+j)).txt:=by
   apply List.map_congr_left
   intro j _
   simp only [Function.comp]
   rw [show l.length - (n+1)+j.succ=l.length - n+j by omega]
  rw [e1,e2,ih]
theorem ChEl.enc {t : List S99} {h : List S66} {l : List Int} (h0 : (chAt t h l 0 (rd l 0)).isSome = true ∨ l.length = 0) (hall : ∀ j : Nat, j < l.length → (chAt t h l (j : Int) (rd l (j : Int))).isSome = true) {j : Nat} (hj : j < l.length) :
  (fun x:ChEl t h l=>#[Value.int .i64 x.1.1, .int .i64 x.1.2]) (ChEl.of t h l h0 j)=#[.int .i64 ((l.length:Int) - 1 - j), .int .i64 (rd l ((l.length:Int) - 1 - j))]:=by
 have q:=hall (l.length - 1 - j) (by omega)
 rw [show ((l.length - 1 - j:Nat):Int)=(l.length:Int) - 1 - j by omega] at q
 simp only [ChEl.of,dif_pos q]
theorem R_ownC (base : Nat) (v : Value) (l : List Int) {β : Type} : Own (fun (_ : β) W => Kd.R (Kd.int .i64) 3 W base (fun _ => True) v l) := fun s W W' row h hg hr => by
 refine Kd.jH (Kd.R_move (Kd.R_bound h) (fun k hk=>?_)) (fun _ _=>trivial)
 obtain ⟨_,_,hk,q,hq,cells,hc⟩:=hk
 refine hg.block k hk (fun e=>?_)
 obtain ⟨o,ho,hcells⟩:=hr k e.symm
 rw [hc] at ho;cases ho;cases hcells
set_option maxHeartbeats 8000000 in
set_option maxRecDepth 100000 in
theorem jIa.calls (k : Nat) (A0_0 : Option Addr) (c0_0 : Nat) (l0_0 : List (S66)) (A1_0 : Option Addr) (c1_0 : Nat) (l1_0 : List (S99)) (a2 : Int) (r : ByteArray) (w : World) (hr0_0 : Kd.C k66 w A0_0 l0_0.length l0_0) (hc0_0 : l0_0.length ≤ c0_0) (hr1_0 : Kd.C k99 w A1_0 l1_0.length l1_0) (hc1_0 : l1_0.length ≤ c1_0) (h : jIa.f k l0_0 l1_0 a2 = some r) :
  Calls Tryd.prog 33 #[.agg #[.slice A0_0 l0_0.length c0_0], .agg #[.slice A1_0 l1_0.length c1_0], .int .i64 a2] w fun e w'=>e=.returned (.string r)∧Below w.heap.size w w':=by
 obtain ⟨l,hl,h⟩:=bzS h
 by_cases hlen:l.length≤1000000000
 case neg=>rw [if_neg hlen] at h;cases h
 rw [if_pos hlen] at h
 have hall:=chAll_all _ _ h
 have hz0:(chAt l1_0 l0_0 l 0 (rd l 0)).isSome=true∨l.length=0:=by
  by_cases e:l.length=0
  ·exact .inr e
  ·exact .inl (hall 0 (by omega))
 have hu28:=Tryd.underlying28
 have hu25:=Tryd.underlying25
 have hu66:=Tryd.underlying66
 have hmx:Tryd.prog.follows .mixedOrders=true:=by kernel_rfl
 have HW:=am (fun W (hb:Below w.heap.size w W)=>impl_chainText_walk k A0_0 l0_0.length c0_0 (fun g=>jza.f l0_0 g) a2 l W hl (fun W' hb' x y hx=>jza.calls A0_0 c0_0 l0_0 x y W' (Kd.jT (Kd.jT hr0_0 hb) hb') hc0_0 hx))
 refine (callsIn_wide (n:=8)).1 ?_
 have hro:Fence.wide.round=none:=rfl
 refine callsIn_of_wp_marks Tryd.func33 rfl trivial ?_ hro
 simp only [Tryd.ntmps33,List.size_toArray,List.length_cons,List.length_nil,Nat.reduceAdd,Nat.reduceSub,Array.replicate_succ,Array.replicate_zero,List.push_toArray,List.append_toArray,List.nil_append,List.cons_append]
 have b0:=((Boxed.new w 28 (.slice A0_0 l0_0.length c0_0)).alloc (.cells #[.slice A1_0 l1_0.length c1_0] 25)).alloc (.cells #[.string ⟨#[]⟩] 9)
 have b1:=(Boxed.new (w.alloc (.cells #[.slice A0_0 l0_0.length c0_0] 28)) 25 (.slice A1_0 l1_0.length c1_0)).alloc (.cells #[.string ⟨#[]⟩] 9)
 have b2:=Boxed.new ((w.alloc (.cells #[.slice A0_0 l0_0.length c0_0] 28)).alloc (.cells #[.slice A1_0 l1_0.length c1_0] 25)) 9 (.string ⟨#[]⟩)
 simp only [World.size_alloc] at b1 b2
 have hB3:Below w.heap.size w (((w.alloc (.cells #[.slice A0_0 l0_0.length c0_0] 28)).alloc (.cells #[.slice A1_0 l1_0.length c1_0] 25)).alloc (.cells #[.string ⟨#[]⟩] 9)):=(((Below.refl _ w).alloc (Nat.le_refl _) _).alloc (by simp) _).alloc (by simp;omega) _
 have hcall:=HW.out _ hB3
 have q0:=b0.cell
 clear HW
 gi_wp2_with (first |(refine ⟨trivial,?_⟩;gi_at_call 29;refine (callsIn_wide.2 hcall).mono ?_;rintro e w1 ⟨v1,rfl,hR,hb1⟩;clear hcall;obtain ⟨Ao,co,eo⟩:=Kd.jX hR;subst eo;have k0:=Boxed.jxc b0 hb1;have k1:=Boxed.jxc b1 hb1;have k2:=Boxed.jxc b2 hb1;clear b0 b1 b2 q0) |(refine ⟨trivial,?_⟩;gi_at_call 58;refine (backC_in Fence.wide _ trivial hro _ _ _ _).mono ?_;rintro e w' ⟨rfl,rfl⟩))
 obtain ⟨W3,hW3⟩:∃ W3,(((w.alloc (.cells #[.slice A0_0 l0_0.length c0_0] 28)).alloc (.cells #[.slice A1_0 l1_0.length c1_0] 25)).alloc (.cells #[.string ⟨#[]⟩] 9))=W3:=⟨_,rfl⟩
 have hs3:W3.heap.size=w.heap.size+3:=by rw [← hW3];simp
 rw [hW3] at hR hb1 hB3
 clear hW3
 have hs1:w.heap.size+3≤w1.heap.size:=by have:=hb1.size;omega
 have B0:Below w.heap.size w ((w1.alloc (.cells #[.slice Ao l.length co] 32)).alloc (.cells #[.slice Ao l.length co] 32)):=((hB3.trans (hb1.mono (by omega))).alloc (by omega) _).alloc (by simp;omega) _
 have d0:=(k0.alloc (.cells #[.slice Ao l.length co] 32)).alloc (.cells #[.slice Ao l.length co] 32)
 have d1:=(k1.alloc (.cells #[.slice Ao l.length co] 32)).alloc (.cells #[.slice Ao l.length co] 32)
 have d2:=(k2.alloc (.cells #[.slice Ao l.length co] 32)).alloc (.cells #[.slice Ao l.length co] 32)
 have dL:=(Boxed.new w1 32 (.slice Ao l.length co)).alloc (.cells #[.slice Ao l.length co] 32)
 have dS:=Boxed.new (w1.alloc (.cells #[.slice Ao l.length co] 32)) 32 (.slice Ao l.length co)
 rw [World.size_alloc] at dS
 have dR:=Kd.jU (Kd.jU hR (.cells #[.slice Ao l.length co] 32)) (.cells #[.slice Ao l.length co] 32)
 obtain ⟨W0,hW0⟩:∃ W0,(w1.alloc (.cells #[.slice Ao l.length co] 32)).alloc (.cells #[.slice Ao l.length co] 32)=W0:=⟨_,rfl⟩
 have hs0:W0.heap.size=w1.heap.size+2:=by rw [← hW0];simp
 rw [hW0] at B0 d0 d1 d2 dL dS dR ⊢
 have hW:=am hW0
 clear hW0 k0 k1 k2
 obtain ⟨RD,hRD⟩:∃ RD:World→Prop,RD=fun W=>Boxed W (w1.heap.size+1) 32 (.slice Ao l.length co)∧Kd.R (Kd.int .i64) 3 W W3.heap.size (fun _=>True) (.slice Ao l.length co) l:=⟨_,rfl⟩
 have hRD1:∀ W,RD W→Kd.C (Kd.int .i64) W Ao l.length l∧Boxed W (w1.heap.size+1) 32 (.slice Ao l.length co):=fun W h=>by
  rw [hRD] at h;exact ⟨(Kd.jA h.2).2.2,h.1⟩
 have hRD2:∀ W,Below W0.heap.size W0 W→RD W:=fun W h=>by
  rw [hRD];exact ⟨Boxed.jxc dS h,Kd.jM dR h⟩
 have hRD3:∀ (W:World) (lp:Nat) (o o':Obj),W.heap[lp]?=some o→o.isCells=false→RD W→RD (W.putObj lp o'):=fun W lp o o' ho hc h=>by
  rw [hRD] at h ⊢
  exact ⟨(boxed_own (β:=Unit) _ _ fun _=>_).putObj (s:=()) o' h.1 ho hc,(R_ownC (β:=Unit) _ _ _).putObj (s:=()) o' h.2 ho hc⟩
 have hRDi:∀ W,Boxed W (w1.heap.size+1) 32 (.slice Ao l.length co)→Kd.R (Kd.int .i64) 3 W W3.heap.size (fun _=>True) (.slice Ao l.length co) l→RD W:=fun W h1 h2=>by rw [hRD];exact ⟨h1,h2⟩
 clear hRD
 obtain ⟨IV,hIV⟩:∃ IV:World→ByteArray→Prop,IV=fun W s=>((((((Boxed W w.heap.size 28 (.slice A0_0 l0_0.length c0_0)∧Boxed W (w.heap.size+1) 25 (.slice A1_0 l1_0.length c1_0))∧Boxed W (w1.heap.size) 32 (.slice Ao l.length co))∧Boxed W (w1.heap.size+1) 32 (.slice Ao l.length co))∧Boxed W (w.heap.size+1+1) 9 (.string s))∧Kd.R (Kd.int .i64) 3 W W3.heap.size (fun _=>True) (.slice Ao l.length co) l)∧Below w.heap.size w W):=⟨_,rfl⟩
 have IB:=am (show ∀ (W W':World) (s:ByteArray),IV W s→Below W.heap.size W W'→IV W' s from fun W W' s h hb=>by
  rw [hIV] at h ⊢
  obtain ⟨⟨⟨⟨⟨⟨i0,i1⟩,iL⟩,iS⟩,iO⟩,iR⟩,hB⟩:=h
  exact ⟨⟨⟨⟨⟨⟨Boxed.jxc i0 hb,Boxed.jxc i1 hb⟩,Boxed.jxc iL hb⟩,Boxed.jxc iS hb⟩,Boxed.jxc iO hb⟩,Kd.jM iR hb⟩,hB.trans (hb.mono hB.size)⟩)
 have IS:=am (show ∀ (W:World) (s u:ByteArray),IV W s→IV (W.setCell ⟨w.heap.size+1+1,0,none⟩ (.string u)) u from fun W s u h=>by
  rw [hIV] at h ⊢
  obtain ⟨⟨⟨⟨⟨⟨i0,i1⟩,iL⟩,iS⟩,iO⟩,iR⟩,hB⟩:=h
  exact ⟨⟨⟨⟨⟨⟨i0.other (by omega) _,i1.other (by omega) _⟩,iL.other (by omega) _⟩,iS.other (by omega) _⟩,iO.set _⟩,Kd.R_set iR iO (by decide) 0 (.string u)⟩,hB.setCell (p:=⟨w.heap.size+1+1,0,none⟩) (by simp;omega) _⟩)
 have IR:=am (show ∀ (W:World) (s:ByteArray),IV W s→RD W from fun W s h=>by
  rw [hIV] at h
  obtain ⟨⟨⟨⟨⟨⟨i0,i1⟩,iL⟩,iS⟩,iO⟩,iR⟩,hB⟩:=h
  exact hRDi W iS iR)
 have hOwn:OwnFrom W0.heap.size (fun (pre:List (ChEl l1_0 l0_0 l)) W=>IV W (ChEl.acc pre)):=by
  rw [hIV]
  exact (OwnFrom.and (OwnFrom.and (OwnFrom.and (OwnFrom.and (OwnFrom.and (OwnFrom.and (Own.from (boxed_own _ _ fun _=>_) _) (Own.from (boxed_own _ _ fun _=>_) _)) (Own.from (boxed_own _ _ fun _=>_) _)) (Own.from (boxed_own _ _ fun _=>_) _)) (Own.from (boxed_own _ _ fun pre=>Value.string (ChEl.acc pre)) _)) (Own.from (R_ownC _ _ _) _)) (ownFrom_below (Nat.le_refl _) (by omega)))
 have hI0:IV W0 ⟨#[]⟩:=by rw [hIV];exact ⟨⟨⟨⟨⟨⟨d0,d1⟩,dL⟩,dS⟩,d2⟩,dR⟩,B0⟩

 refine wpIn_rangeFunc_ownH hro (by omega) (gf:=85) (lb:=#[.pointer (some ⟨w1.heap.size+1,0,none⟩)]) rfl trivial (enters_of Tryd.func85 (by kernel_rfl) rfl)
  (encs:=fun x:ChEl l1_0 l0_0 l=>#[.int .i64 x.1.1, .int .i64 x.1.2]) (Kp:=fun W W'=>RD W→RD W')
  (S:=fun ys=>ys=uptoC (ChEl.of l1_0 l0_0 l hz0) l.length) (Sp:=fun pre=>∃ q,q≤l.length∧pre=uptoC (ChEl.of l1_0 l0_0 l hz0) q) (N:=l.length) (w0:=W0)
  (fun lp J Jx W hW _ _ hY h0=>backC1_in Fence.wide _ trivial hro (by omega) lp _ Ao co l (by omega) RD (fun W W'=>RD W→RD W') hRD1 (fun W W' h h2=>h h2) _ (ChEl.of l1_0 l0_0 l hz0) (fun j hj=>ChEl.enc hz0 hall hj) J Jx hY W (hRD2 W hW) h0)
  (fun h k x=>k (h x)) (fun W lp o o' hl ho hc hw hx=>hRD3 W lp o o' ho hc hx) (Below.refl _ _) (fun _=>rfl)
  (fun pre W=>IV W (ChEl.acc pre))
  (fun c pre W=>False)
  hOwn
  (fun c=>ownFrom_pure _ fun _=>False)
  hI0
  (fun x a' W=>a'={ tmps:=#[.agg #[.slice A0_0 l0_0.length c0_0], .agg #[.slice A1_0 l1_0.length c1_0], .int .i64 a2, .pointer (some ⟨w.heap.size,0,none⟩), .pointer (some ⟨w.heap.size+1,0,none⟩),undef, .string ⟨#[]⟩, .pointer (some ⟨w.heap.size+1+1,0,none⟩), .pointer (some ⟨w1.heap.size,0,none⟩), .int .i64 x.1.1, .int .i64 x.1.2,undef,undef, .int .i64 a2, .agg #[.slice A0_0 l0_0.length c0_0], .func (.func 30) #[.agg #[.slice A0_0 l0_0.length c0_0]] #[], .slice Ao l.length co, .slice Ao l.length co, .func (.func 85) #[] #[.pointer (some ⟨w1.heap.size+1,0,none⟩)], .int .i64 x.1.1, .int .i64 x.1.2,undef,undef,undef,undef,undef,undef,undef,undef,undef,undef,undef,undef,undef,undef,undef,undef,undef,undef,undef,undef,undef,undef,undef,undef,undef,undef,undef,undef,undef,undef],defers:=[] })
  (fun x a' _ X Y row hs hg hr=>hs)
  ?assign ?body ?done ?stop

 case assign =>
  rintro lp pre x W K hI hK
  gi_wp2
  exact hK _ _ (KeepsFrom.jOb (Below.refl _ _) _) (fun h=>h) hI rfl
 case body =>
  rintro lp pre ⟨⟨ix,g⟩,hx⟩ a' W hl ⟨rr,hrr⟩ hI rfl hlt
  have hx1:(chAt l1_0 l0_0 l ix g).isSome=true:=by
   rcases hx with h | h
   ·exact h
   ·exact absurd hlt (by omega)
  obtain ⟨g0,g1,tx,htx,htz,hcs⟩:=chAt_inv hx1
  have hsn:=ChEl.acc_snoc pre ⟨(ix,g),hx⟩
  have hsz:=ChEl.acc_size pre
  have hI1:=hI
  rw [hIV] at hI1
  obtain ⟨⟨⟨⟨⟨⟨i0,i1⟩,iL⟩,iS⟩,iO⟩,iR⟩,hB⟩:=hI1
  obtain ⟨ad,rfl,y0,y1,y2,y3,y4⟩:=jsb (Kd.jT hr0_0 hB) g g0 g1
  have KT:=am (fun W' (hb:Below w.heap.size w W')=>jNa.calls A1_0 c1_0 l1_0 _ _ tx W' (Kd.jT hr1_0 hb) hc1_0 htx)
  have hbX:Below W.heap.size W (World.drew (W.alloc (.cells #[.int .i64 (ja l0_0 g).f0, .int .i64 (ja l0_0 g).f1, .int .i64 (ja l0_0 g).f2, .int .i64 (ja l0_0 g).f3, .bool (ja l0_0 g).f4] 66))):=jpb (jr (Below.refl W.heap.size W) _)
  have c0:=i0.cell
  have c1:=i1.cell
  have cL:=iL.cell
  have cO:=iO.cell
  have fO:=iO.frozen
  have hwl:wrap64 ((l.length:Int) - 1)=(l.length:Int) - 1:=xwrC (by omega)
  have hO1:w.heap.size+1+1<W.heap.size:=iO.lt
  have hT1:w.heap.size+1<W.heap.size:=i1.lt
  have hL1:w1.heap.size<W.heap.size:=iL.lt
  have p0:=ezT g0
  have p1:=ezT g1
  have hacc:∃ AC,ChEl.acc pre=AC:=⟨_,rfl⟩
  obtain ⟨AC,hAC⟩:=hacc
  rw [hAC] at hsn hsz hI iO cO
  have hszm:AC.size≤2000003000000000:=by omega
  clear hsz hRD1 hRD2 hRD3
  rcases hcs with ⟨hd,hch⟩ | ⟨hd,hi0,hch⟩
  ·have hdb:=dzF hd
   have hF:ChEl.acc (pre ++ [⟨(ix,g),hx⟩])=AC ++ tx:=by rw [hsn];unfold ChEl.txt;rw [hch];rfl
   clear hch hsn hd
   have z0:AC.size+tx.size≤9223372036854775807:=by first | omega |(rw [ByteArray.size_append];have:(⟨#[32,62,32]⟩:ByteArray).size=3:=rfl;have:(⟨#[32,126,32]⟩:ByteArray).size=3:=rfl;omega)
   have z1:=ezT z0
   have z2:=dzT z0
   have z3:(9223372036854775807<AC.size+tx.size)=False:=eq_false (Nat.not_lt.2 z0)
   gi_wp2
   refine jYb (S:=(fun W':World=>W'.cell? ⟨w.heap.size+1,0,none⟩=some (.slice A1_0 l1_0.length c1_0)∧W'.cell? ⟨W.heap.size,0,none⟩=some (.int .i64 (ja l0_0 g).f0)∧W'.cell? ⟨W.heap.size,1,none⟩=some (.int .i64 (ja l0_0 g).f1))) hmx (by kernel_rfl) ?hL ?_
   case hL=>rintro ⟨_,_,h⟩;exact h
   change wpAnyH _ _ _ _ _ _ _ _ (World.drew (W.alloc (.cells #[.int .i64 (ja l0_0 g).f0, .int .i64 (ja l0_0 g).f1, .int .i64 (ja l0_0 g).f2, .int .i64 (ja l0_0 g).f3, .bool (ja l0_0 g).f4] 66)))
   obtain ⟨V,hVe,hVI,hVK,hVX⟩:∃ V:World,World.drew (W.alloc (.cells #[.int .i64 (ja l0_0 g).f0, .int .i64 (ja l0_0 g).f1, .int .i64 (ja l0_0 g).f2, .int .i64 (ja l0_0 g).f3, .bool (ja l0_0 g).f4] 66))=V∧IV V AC∧KeepsFrom W0.heap.size W V∧V.heap[W.heap.size]?=some (.cells #[.int .i64 (ja l0_0 g).f0, .int .i64 (ja l0_0 g).f1, .int .i64 (ja l0_0 g).f2, .int .i64 (ja l0_0 g).f3, .bool (ja l0_0 g).f4] 66 (0,0)):=⟨_,rfl,IB.out _ _ _ hI hbX,KeepsFrom.jOb hbX _,jf (heap_alloc_new W (.cells #[.int .i64 (ja l0_0 g).f0, .int .i64 (ja l0_0 g).f1, .int .i64 (ja l0_0 g).f2, .int .i64 (ja l0_0 g).f3, .bool (ja l0_0 g).f4] 66))⟩
   rw [hVe]
   clear hVe
   have hVI2:=hVI
   rw [hIV] at hVI2
   obtain ⟨⟨⟨⟨⟨⟨v0,v1⟩,vL⟩,vS⟩,vO⟩,vR⟩,vB⟩:=hVI2
   clear v0 vL vS vR c0 c1 cL cO fO
   have cO:=vO.cell
   have fO:=vO.frozen
   have hS0:(fun W':World=>W'.cell? ⟨w.heap.size+1,0,none⟩=some (.slice A1_0 l1_0.length c1_0)∧W'.cell? ⟨W.heap.size,0,none⟩=some (.int .i64 (ja l0_0 g).f0)∧W'.cell? ⟨W.heap.size,1,none⟩=some (.int .i64 (ja l0_0 g).f1)) V:=⟨v1.cell,(jG hVX 0).trans rfl,(jG hVX 1).trans rfl⟩
   refine wpAnyH_take (i:=1) (v:=?_) rfl (by kernel_rfl) (by kernel_rfl) (by kernel_rfl) (fun _ _ _ h=>h) (Or.inl ⟨by rfl,?_⟩) hS0 ?_
   rotate_left
   ·rintro W' ⟨s1,s2,s3⟩
    go_simp
    with_reducible rfl
   refine wpAnyH_take (i:=2) (v:=?_) rfl (by kernel_rfl) (by kernel_rfl) (by kernel_rfl) (fun _ _ _ h=>h) (Or.inl ⟨by rfl,?_⟩) hS0 ?_
   rotate_left
   ·rintro W' ⟨s1,s2,s3⟩
    go_simp
    with_reducible rfl
   refine wpAnyH_take (i:=3) (v:=?_) rfl (by kernel_rfl) (by kernel_rfl) (by kernel_rfl) (fun _ _ _ h=>h) (Or.inl ⟨by rfl,?_⟩) hS0 ?_
   rotate_left
   ·rintro W' ⟨s1,s2,s3⟩
    go_simp
    with_reducible rfl
   refine wpAnyH_take (i:=4) (v:=?_) rfl (by kernel_rfl) (by kernel_rfl) (by kernel_rfl) (fun _ _ _ h=>h) (Or.inl ⟨by rfl,?_⟩) hS0 ?_
   rotate_left
   ·rintro W' ⟨s1,s2,s3⟩
    go_simp
    with_reducible rfl
   refine wpAnyH_take (i:=5) (v:=?_) rfl (by kernel_rfl) (by kernel_rfl) (by kernel_rfl) (fun _ _ _ h=>h) (Or.inl ⟨by rfl,?_⟩) hS0 ?_
   rotate_left
   ·rintro W' ⟨s1,s2,s3⟩
    go_simp
    with_reducible rfl
   refine wpAnyH_all (rs:=[0,6]) (by kernel_rfl) (by simp) ?_
   intro ii hii
   rcases (by simpa using hii:ii=0∨ii=6) with rfl | rfl
   all_goals clear hii
   ·refine wpOp_step rfl (fun K hK=>?_)
    go_simp
    refine hK _ _ ⟨hS0,?_⟩
    clear hK K
    refine wpAnyH_all (rs:=[6]) (by kernel_rfl) (by simp) ?_
    intro ii hii
    obtain rfl:ii=6:=by simpa using hii
    clear hii
    refine wpOp_step rfl (fun K hK=>?_)
    go_simp
    refine (KT.out _ vB).mono ?_
    rintro e w4 ⟨rfl,hb4⟩
    have hS1:(fun W':World=>W'.cell? ⟨w.heap.size+1,0,none⟩=some (.slice A1_0 l1_0.length c1_0)∧W'.cell? ⟨W.heap.size,0,none⟩=some (.int .i64 (ja l0_0 g).f0)∧W'.cell? ⟨W.heap.size,1,none⟩=some (.int .i64 (ja l0_0 g).f1)) w4:=⟨jQ hb4 hS0.1,jQ hb4 hS0.2.1,jQ hb4 hS0.2.2⟩
    have hO4:=Boxed.jxc vO hb4
    have cO4:=hO4.cell
    have fO4:=hO4.frozen
    refine hK _ _ ⟨hS1,?_⟩
    clear hK K
    refine wpAnyH_take (i:=7) (v:=?_) rfl (by kernel_rfl) (by kernel_rfl) (by kernel_rfl) (fun _ _ _ h=>h) (Or.inl ⟨by rfl,?_⟩) hS1 ?_
    rotate_left
    ·rintro W' ⟨s1,s2,s3⟩
     go_simp
     with_reducible rfl
    refine wpAnyH_all (rs:=[8]) (by kernel_rfl) (by simp) ?_
    intro ii hii
    obtain rfl:ii=8:=by simpa using hii
    clear hii
    refine wpOp_step rfl (fun K hK=>?_)
    go_simp
    have hS2:(fun W':World=>W'.cell? ⟨w.heap.size+1,0,none⟩=some (.slice A1_0 l1_0.length c1_0)∧W'.cell? ⟨W.heap.size,0,none⟩=some (.int .i64 (ja l0_0 g).f0)∧W'.cell? ⟨W.heap.size,1,none⟩=some (.int .i64 (ja l0_0 g).f1)) (w4.setCell ⟨w.heap.size+1+1,0,none⟩ (.string (AC ++ tx))):=⟨(World.cell?_setCell_far _ _ _ _ (by simp)).trans hS1.1,(World.cell?_setCell_far _ _ _ _ (by simp;omega)).trans hS1.2.1,(World.cell?_setCell_far _ _ _ _ (by simp;omega)).trans hS1.2.2⟩
    refine hK _ _ ⟨hS2,?_⟩
    clear hK K
    refine wpAnyH_done (by kernel_rfl) ?_ _
    exact ⟨hVK.trans ((KeepsFrom.jOb hb4 _).trans ((KeepsOthers.setCell _ _ _).from _)),fun _=>IR.out _ _ (IS.out _ _ _ (IB.out _ _ _ hVI hb4)),by show IV _ (ChEl.acc (pre ++ [⟨(ix,g),hx⟩]));rw [hF];exact IS.out _ _ _ (IB.out _ _ _ hVI hb4)⟩
   ·refine wpOp_step rfl (fun K hK=>?_)
    go_simp
    refine (KT.out _ vB).mono ?_
    rintro e w4 ⟨rfl,hb4⟩
    have hS1:(fun W':World=>W'.cell? ⟨w.heap.size+1,0,none⟩=some (.slice A1_0 l1_0.length c1_0)∧W'.cell? ⟨W.heap.size,0,none⟩=some (.int .i64 (ja l0_0 g).f0)∧W'.cell? ⟨W.heap.size,1,none⟩=some (.int .i64 (ja l0_0 g).f1)) w4:=⟨jQ hb4 hS0.1,jQ hb4 hS0.2.1,jQ hb4 hS0.2.2⟩
    have hO4:=Boxed.jxc vO hb4
    have cO4:=hO4.cell
    have fO4:=hO4.frozen
    refine hK _ _ ⟨hS1,?_⟩
    clear hK K
    refine wpAnyH_all (rs:=[0]) (by kernel_rfl) (by simp) ?_
    intro ii hii
    obtain rfl:ii=0:=by simpa using hii
    clear hii
    refine wpOp_step rfl (fun K hK=>?_)
    go_simp
    refine hK _ _ ⟨hS1,?_⟩
    clear hK K
    refine wpAnyH_take (i:=7) (v:=?_) rfl (by kernel_rfl) (by kernel_rfl) (by kernel_rfl) (fun _ _ _ h=>h) (Or.inl ⟨by rfl,?_⟩) hS1 ?_
    rotate_left
    ·rintro W' ⟨s1,s2,s3⟩
     go_simp
     with_reducible rfl
    refine wpAnyH_all (rs:=[8]) (by kernel_rfl) (by simp) ?_
    intro ii hii
    obtain rfl:ii=8:=by simpa using hii
    clear hii
    refine wpOp_step rfl (fun K hK=>?_)
    go_simp
    have hS2:(fun W':World=>W'.cell? ⟨w.heap.size+1,0,none⟩=some (.slice A1_0 l1_0.length c1_0)∧W'.cell? ⟨W.heap.size,0,none⟩=some (.int .i64 (ja l0_0 g).f0)∧W'.cell? ⟨W.heap.size,1,none⟩=some (.int .i64 (ja l0_0 g).f1)) (w4.setCell ⟨w.heap.size+1+1,0,none⟩ (.string (AC ++ tx))):=⟨(World.cell?_setCell_far _ _ _ _ (by simp)).trans hS1.1,(World.cell?_setCell_far _ _ _ _ (by simp;omega)).trans hS1.2.1,(World.cell?_setCell_far _ _ _ _ (by simp;omega)).trans hS1.2.2⟩
    refine hK _ _ ⟨hS2,?_⟩
    clear hK K
    refine wpAnyH_done (by kernel_rfl) ?_ _
    exact ⟨hVK.trans ((KeepsFrom.jOb hb4 _).trans ((KeepsOthers.setCell _ _ _).from _)),fun _=>IR.out _ _ (IS.out _ _ _ (IB.out _ _ _ hVI hb4)),by show IV _ (ChEl.acc (pre ++ [⟨(ix,g),hx⟩]));rw [hF];exact IS.out _ _ _ (IB.out _ _ _ hVI hb4)⟩
  ·have hdb:=dzT hd
   obtain ⟨adl,rfl,hz⟩:=Kd.jLb (Kd.jA iR).2.2 (ix+1) (by omega) (by omega)
   have hwi:wrap64 (ix+1)=ix+1:=xwrC (by omega)
   have hwi2:IntKind.i64.wrap (ix+1)=ix+1:=IntWalk.i64_in _ (by omega)
   have p2:=ezT (show 0≤ix+1 by omega)
   have p3:=ezT (show ix+1<(l.length:Int) by omega)
   rcases hch with ⟨he,hch⟩ | ⟨he,hch⟩
   ·have heb:((ja l0_0 g).f2 == rd l (ix+1))=true:=by simpa using he
    have hF:ChEl.acc (pre ++ [⟨(ix,g),hx⟩])=(AC ++ (⟨#[32,62,32]⟩:ByteArray)) ++ tx:=by rw [hsn];unfold ChEl.txt;rw [hch];show AC ++ ((⟨#[32,62,32]⟩:ByteArray) ++ tx)=_;rw [ByteArray.append_assoc]
    clear hch hsn hd he
    have z0:AC.size+3≤9223372036854775807:=by first | omega |(rw [ByteArray.size_append];have:(⟨#[32,62,32]⟩:ByteArray).size=3:=rfl;have:(⟨#[32,126,32]⟩:ByteArray).size=3:=rfl;omega)
    have z1:=ezT z0
    have z2:=dzT z0
    have z3:(9223372036854775807<AC.size+3)=False:=eq_false (Nat.not_lt.2 z0)
    have y0:AC.size+3+tx.size≤9223372036854775807:=by first | omega |(rw [ByteArray.size_append];have:(⟨#[32,62,32]⟩:ByteArray).size=3:=rfl;have:(⟨#[32,126,32]⟩:ByteArray).size=3:=rfl;omega)
    have y1:=ezT y0
    have y2:=dzT y0
    have y3:(9223372036854775807<AC.size+3+tx.size)=False:=eq_false (Nat.not_lt.2 y0)
    have fO2:=(Boxed.jxc iO hbX).frozen
    have cO2:=(Boxed.jxc iO hbX).cell
    gi_wp2
    refine jYb (S:=(fun W':World=>W'.cell? ⟨W.heap.size,2,none⟩=some (.int .i64 (ja l0_0 g).f2)∧W'.cell? ⟨w1.heap.size,0,none⟩=some (.slice (some adl) l.length co)∧W'.cell? (adl.add (ix+1).toNat)=some (.int .i64 (rd l (ix+1))))) hmx (by kernel_rfl) ?hL ?_
    case hL=>rintro ⟨_,_,h⟩;exact h
    change wpAnyH _ _ _ _ _ _ _ _ (World.drew (W.alloc (.cells #[.int .i64 (ja l0_0 g).f0, .int .i64 (ja l0_0 g).f1, .int .i64 (ja l0_0 g).f2, .int .i64 (ja l0_0 g).f3, .bool (ja l0_0 g).f4] 66)))
    have hS9:(fun W':World=>W'.cell? ⟨W.heap.size,2,none⟩=some (.int .i64 (ja l0_0 g).f2)∧W'.cell? ⟨w1.heap.size,0,none⟩=some (.slice (some adl) l.length co)∧W'.cell? (adl.add (ix+1).toNat)=some (.int .i64 (rd l (ix+1)))) (World.drew (W.alloc (.cells #[.int .i64 (ja l0_0 g).f0, .int .i64 (ja l0_0 g).f1, .int .i64 (ja l0_0 g).f2, .int .i64 (ja l0_0 g).f3, .bool (ja l0_0 g).f4] 66))):=⟨(jG (jf (heap_alloc_new W (.cells #[.int .i64 (ja l0_0 g).f0, .int .i64 (ja l0_0 g).f1, .int .i64 (ja l0_0 g).f2, .int .i64 (ja l0_0 g).f3, .bool (ja l0_0 g).f4] 66))) 2).trans rfl,jQ hbX cL,jQ hbX hz⟩
    refine wpAnyH_take (i:=0) (v:=?_) rfl (by kernel_rfl) (by kernel_rfl) (by kernel_rfl) (fun _ _ _ h=>h) (Or.inl ⟨by rfl,?_⟩) hS9 ?_
    rotate_left
    ·rintro W' ⟨s1,s2,s3⟩
     go_simp
     with_reducible rfl
    refine wpAnyH_take (i:=1) (v:=?_) rfl (by kernel_rfl) (by kernel_rfl) (by kernel_rfl) (fun _ _ _ h=>h) (Or.inl ⟨by rfl,?_⟩) hS9 ?_
    rotate_left
    ·rintro W' ⟨s1,s2,s3⟩
     go_simp
     with_reducible rfl
    refine wpAnyH_take (i:=2) (v:=?_) rfl (by kernel_rfl) (by kernel_rfl) (by kernel_rfl) (fun _ _ _ h=>h) (Or.inl ⟨by rfl,?_⟩) hS9 ?_
    rotate_left
    ·rintro W' ⟨s1,s2,s3⟩
     go_simp
     with_reducible rfl
    refine wpAnyH_take (i:=3) (v:=?_) rfl (by kernel_rfl) (by kernel_rfl) (by kernel_rfl) (fun _ _ _ h=>h) (Or.inl ⟨by rfl,?_⟩) hS9 ?_
    rotate_left
    ·rintro W' ⟨s1,s2,s3⟩
     go_simp
     with_reducible rfl
    refine wpAnyH_take (i:=4) (v:=?_) rfl (by kernel_rfl) (by kernel_rfl) (by kernel_rfl) (fun _ _ _ h=>h) (Or.inl ⟨by rfl,?_⟩) hS9 ?_
    rotate_left
    ·rintro W' ⟨s1,s2,s3⟩
     go_simp
     with_reducible rfl
    refine wpAnyH_take (i:=5) (v:=?_) rfl (by kernel_rfl) (by kernel_rfl) (by kernel_rfl) (fun _ _ _ h=>h) (Or.inl ⟨by rfl,?_⟩) hS9 ?_
    rotate_left
    ·rintro W' ⟨s1,s2,s3⟩
     go_simp
     with_reducible rfl
    refine wpAnyH_take (i:=6) (v:=?_) rfl (by kernel_rfl) (by kernel_rfl) (by kernel_rfl) (fun _ _ _ h=>h) (Or.inl ⟨by rfl,?_⟩) hS9 ?_
    rotate_left
    ·rintro W' ⟨s1,s2,s3⟩
     go_simp
     with_reducible rfl
    refine wpAnyH_take (i:=7) (v:=?_) rfl (by kernel_rfl) (by kernel_rfl) (by kernel_rfl) (fun _ _ _ h=>h) (Or.inl ⟨by rfl,?_⟩) hS9 ?_
    rotate_left
    ·rintro W' ⟨s1,s2,s3⟩
     go_simp
     with_reducible rfl
    refine wpAnyH_done (by kernel_rfl) ?_ _
    rename_i K9 hK9
    refine hK9 _ _ ?_
    clear hK9
    go_simp
    gi_wp2
    refine jYb (S:=(fun W':World=>W'.cell? ⟨w.heap.size+1,0,none⟩=some (.slice A1_0 l1_0.length c1_0)∧W'.cell? ⟨W.heap.size,0,none⟩=some (.int .i64 (ja l0_0 g).f0)∧W'.cell? ⟨W.heap.size,1,none⟩=some (.int .i64 (ja l0_0 g).f1))) hmx (by kernel_rfl) ?hL ?_
    case hL=>rintro ⟨_,_,h⟩;exact h
    change wpAnyH _ _ _ _ _ _ _ _ (World.drew (World.drew ((W.setCell ⟨w.heap.size+1+1,0,none⟩ (.string (AC ++ (⟨#[32,62,32]⟩:ByteArray)))).alloc (.cells #[.int .i64 (ja l0_0 g).f0, .int .i64 (ja l0_0 g).f1, .int .i64 (ja l0_0 g).f2, .int .i64 (ja l0_0 g).f3, .bool (ja l0_0 g).f4] 66))))
    obtain ⟨V,hVe,hVI,hVK,hVX⟩:∃ V:World,World.drew (World.drew ((W.setCell ⟨w.heap.size+1+1,0,none⟩ (.string (AC ++ (⟨#[32,62,32]⟩:ByteArray)))).alloc (.cells #[.int .i64 (ja l0_0 g).f0, .int .i64 (ja l0_0 g).f1, .int .i64 (ja l0_0 g).f2, .int .i64 (ja l0_0 g).f3, .bool (ja l0_0 g).f4] 66)))=V∧IV V (AC ++ (⟨#[32,62,32]⟩:ByteArray))∧KeepsFrom W0.heap.size W V∧V.heap[W.heap.size]?=some (.cells #[.int .i64 (ja l0_0 g).f0, .int .i64 (ja l0_0 g).f1, .int .i64 (ja l0_0 g).f2, .int .i64 (ja l0_0 g).f3, .bool (ja l0_0 g).f4] 66 (0,0)):=⟨_,rfl,IB.out _ _ _ (IS.out _ _ _ hI) (jpb (jpb (jr (Below.refl _ _) _))),((KeepsOthers.setCell _ _ _).from _).trans (KeepsFrom.jOb (jpb (jpb (jr (Below.refl _ _) _))) _),(by have h:=jf (jf (heap_alloc_new (W.setCell ⟨w.heap.size+1+1,0,none⟩ (.string (AC ++ (⟨#[32,62,32]⟩:ByteArray)))) (.cells #[.int .i64 (ja l0_0 g).f0, .int .i64 (ja l0_0 g).f1, .int .i64 (ja l0_0 g).f2, .int .i64 (ja l0_0 g).f3, .bool (ja l0_0 g).f4] 66)));rw [show (W.setCell ⟨w.heap.size+1+1,0,none⟩ (.string (AC ++ (⟨#[32,62,32]⟩:ByteArray)))).heap.size=W.heap.size by simp] at h;exact h)⟩
    rw [hVe]
    clear hVe
    have hVI2:=hVI
    rw [hIV] at hVI2
    obtain ⟨⟨⟨⟨⟨⟨v0,v1⟩,vL⟩,vS⟩,vO⟩,vR⟩,vB⟩:=hVI2
    clear v0 vL vS vR c0 c1 cL cO fO
    have cO:=vO.cell
    have fO:=vO.frozen
    have hS0:(fun W':World=>W'.cell? ⟨w.heap.size+1,0,none⟩=some (.slice A1_0 l1_0.length c1_0)∧W'.cell? ⟨W.heap.size,0,none⟩=some (.int .i64 (ja l0_0 g).f0)∧W'.cell? ⟨W.heap.size,1,none⟩=some (.int .i64 (ja l0_0 g).f1)) V:=⟨v1.cell,(jG hVX 0).trans rfl,(jG hVX 1).trans rfl⟩
    refine wpAnyH_take (i:=1) (v:=?_) rfl (by kernel_rfl) (by kernel_rfl) (by kernel_rfl) (fun _ _ _ h=>h) (Or.inl ⟨by rfl,?_⟩) hS0 ?_
    rotate_left
    ·rintro W' ⟨s1,s2,s3⟩
     go_simp
     with_reducible rfl
    refine wpAnyH_take (i:=2) (v:=?_) rfl (by kernel_rfl) (by kernel_rfl) (by kernel_rfl) (fun _ _ _ h=>h) (Or.inl ⟨by rfl,?_⟩) hS0 ?_
    rotate_left
    ·rintro W' ⟨s1,s2,s3⟩
     go_simp
     with_reducible rfl
    refine wpAnyH_take (i:=3) (v:=?_) rfl (by kernel_rfl) (by kernel_rfl) (by kernel_rfl) (fun _ _ _ h=>h) (Or.inl ⟨by rfl,?_⟩) hS0 ?_
    rotate_left
    ·rintro W' ⟨s1,s2,s3⟩
     go_simp
     with_reducible rfl
    refine wpAnyH_take (i:=4) (v:=?_) rfl (by kernel_rfl) (by kernel_rfl) (by kernel_rfl) (fun _ _ _ h=>h) (Or.inl ⟨by rfl,?_⟩) hS0 ?_
    rotate_left
    ·rintro W' ⟨s1,s2,s3⟩
     go_simp
     with_reducible rfl
    refine wpAnyH_take (i:=5) (v:=?_) rfl (by kernel_rfl) (by kernel_rfl) (by kernel_rfl) (fun _ _ _ h=>h) (Or.inl ⟨by rfl,?_⟩) hS0 ?_
    rotate_left
    ·rintro W' ⟨s1,s2,s3⟩
     go_simp
     with_reducible rfl
    refine wpAnyH_all (rs:=[0,6]) (by kernel_rfl) (by simp) ?_
    intro ii hii
    rcases (by simpa using hii:ii=0∨ii=6) with rfl | rfl
    all_goals clear hii
    ·refine wpOp_step rfl (fun K hK=>?_)
     go_simp
     refine hK _ _ ⟨hS0,?_⟩
     clear hK K
     refine wpAnyH_all (rs:=[6]) (by kernel_rfl) (by simp) ?_
     intro ii hii
     obtain rfl:ii=6:=by simpa using hii
     clear hii
     refine wpOp_step rfl (fun K hK=>?_)
     go_simp
     refine (KT.out _ vB).mono ?_
     rintro e w4 ⟨rfl,hb4⟩
     have hS1:(fun W':World=>W'.cell? ⟨w.heap.size+1,0,none⟩=some (.slice A1_0 l1_0.length c1_0)∧W'.cell? ⟨W.heap.size,0,none⟩=some (.int .i64 (ja l0_0 g).f0)∧W'.cell? ⟨W.heap.size,1,none⟩=some (.int .i64 (ja l0_0 g).f1)) w4:=⟨jQ hb4 hS0.1,jQ hb4 hS0.2.1,jQ hb4 hS0.2.2⟩
     have hO4:=Boxed.jxc vO hb4
     have cO4:=hO4.cell
     have fO4:=hO4.frozen
     refine hK _ _ ⟨hS1,?_⟩
     clear hK K
     refine wpAnyH_take (i:=7) (v:=?_) rfl (by kernel_rfl) (by kernel_rfl) (by kernel_rfl) (fun _ _ _ h=>h) (Or.inl ⟨by rfl,?_⟩) hS1 ?_
     rotate_left
     ·rintro W' ⟨s1,s2,s3⟩
      go_simp
      with_reducible rfl
     refine wpAnyH_all (rs:=[8]) (by kernel_rfl) (by simp) ?_
     intro ii hii
     obtain rfl:ii=8:=by simpa using hii
     clear hii
     refine wpOp_step rfl (fun K hK=>?_)
     go_simp
     have hS2:(fun W':World=>W'.cell? ⟨w.heap.size+1,0,none⟩=some (.slice A1_0 l1_0.length c1_0)∧W'.cell? ⟨W.heap.size,0,none⟩=some (.int .i64 (ja l0_0 g).f0)∧W'.cell? ⟨W.heap.size,1,none⟩=some (.int .i64 (ja l0_0 g).f1)) (w4.setCell ⟨w.heap.size+1+1,0,none⟩ (.string ((AC ++ (⟨#[32,62,32]⟩:ByteArray)) ++ tx))):=⟨(World.cell?_setCell_far _ _ _ _ (by simp)).trans hS1.1,(World.cell?_setCell_far _ _ _ _ (by simp;omega)).trans hS1.2.1,(World.cell?_setCell_far _ _ _ _ (by simp;omega)).trans hS1.2.2⟩
     refine hK _ _ ⟨hS2,?_⟩
     clear hK K
     refine wpAnyH_done (by kernel_rfl) ?_ _
     exact ⟨hVK.trans ((KeepsFrom.jOb hb4 _).trans ((KeepsOthers.setCell _ _ _).from _)),fun _=>IR.out _ _ (IS.out _ _ _ (IB.out _ _ _ hVI hb4)),by show IV _ (ChEl.acc (pre ++ [⟨(ix,g),hx⟩]));rw [hF];exact IS.out _ _ _ (IB.out _ _ _ hVI hb4)⟩
    ·refine wpOp_step rfl (fun K hK=>?_)
     go_simp
     refine (KT.out _ vB).mono ?_
     rintro e w4 ⟨rfl,hb4⟩
     have hS1:(fun W':World=>W'.cell? ⟨w.heap.size+1,0,none⟩=some (.slice A1_0 l1_0.length c1_0)∧W'.cell? ⟨W.heap.size,0,none⟩=some (.int .i64 (ja l0_0 g).f0)∧W'.cell? ⟨W.heap.size,1,none⟩=some (.int .i64 (ja l0_0 g).f1)) w4:=⟨jQ hb4 hS0.1,jQ hb4 hS0.2.1,jQ hb4 hS0.2.2⟩
     have hO4:=Boxed.jxc vO hb4
     have cO4:=hO4.cell
     have fO4:=hO4.frozen
     refine hK _ _ ⟨hS1,?_⟩
     clear hK K
     refine wpAnyH_all (rs:=[0]) (by kernel_rfl) (by simp) ?_
     intro ii hii
     obtain rfl:ii=0:=by simpa using hii
     clear hii
     refine wpOp_step rfl (fun K hK=>?_)
     go_simp
     refine hK _ _ ⟨hS1,?_⟩
     clear hK K
     refine wpAnyH_take (i:=7) (v:=?_) rfl (by kernel_rfl) (by kernel_rfl) (by kernel_rfl) (fun _ _ _ h=>h) (Or.inl ⟨by rfl,?_⟩) hS1 ?_
     rotate_left
     ·rintro W' ⟨s1,s2,s3⟩
      go_simp
      with_reducible rfl
     refine wpAnyH_all (rs:=[8]) (by kernel_rfl) (by simp) ?_
     intro ii hii
     obtain rfl:ii=8:=by simpa using hii
     clear hii
     refine wpOp_step rfl (fun K hK=>?_)
     go_simp
     have hS2:(fun W':World=>W'.cell? ⟨w.heap.size+1,0,none⟩=some (.slice A1_0 l1_0.length c1_0)∧W'.cell? ⟨W.heap.size,0,none⟩=some (.int .i64 (ja l0_0 g).f0)∧W'.cell? ⟨W.heap.size,1,none⟩=some (.int .i64 (ja l0_0 g).f1)) (w4.setCell ⟨w.heap.size+1+1,0,none⟩ (.string ((AC ++ (⟨#[32,62,32]⟩:ByteArray)) ++ tx))):=⟨(World.cell?_setCell_far _ _ _ _ (by simp)).trans hS1.1,(World.cell?_setCell_far _ _ _ _ (by simp;omega)).trans hS1.2.1,(World.cell?_setCell_far _ _ _ _ (by simp;omega)).trans hS1.2.2⟩
     refine hK _ _ ⟨hS2,?_⟩
     clear hK K
     refine wpAnyH_done (by kernel_rfl) ?_ _
     exact ⟨hVK.trans ((KeepsFrom.jOb hb4 _).trans ((KeepsOthers.setCell _ _ _).from _)),fun _=>IR.out _ _ (IS.out _ _ _ (IB.out _ _ _ hVI hb4)),by show IV _ (ChEl.acc (pre ++ [⟨(ix,g),hx⟩]));rw [hF];exact IS.out _ _ _ (IB.out _ _ _ hVI hb4)⟩
   ·have heb:((ja l0_0 g).f2 == rd l (ix+1))=false:=by simpa using he
    have hF:ChEl.acc (pre ++ [⟨(ix,g),hx⟩])=(AC ++ (⟨#[32,126,32]⟩:ByteArray)) ++ tx:=by rw [hsn];unfold ChEl.txt;rw [hch];show AC ++ ((⟨#[32,126,32]⟩:ByteArray) ++ tx)=_;rw [ByteArray.append_assoc]
    clear hch hsn hd he
    have z0:AC.size+3≤9223372036854775807:=by first | omega |(rw [ByteArray.size_append];have:(⟨#[32,62,32]⟩:ByteArray).size=3:=rfl;have:(⟨#[32,126,32]⟩:ByteArray).size=3:=rfl;omega)
    have z1:=ezT z0
    have z2:=dzT z0
    have z3:(9223372036854775807<AC.size+3)=False:=eq_false (Nat.not_lt.2 z0)
    have y0:AC.size+3+tx.size≤9223372036854775807:=by first | omega |(rw [ByteArray.size_append];have:(⟨#[32,62,32]⟩:ByteArray).size=3:=rfl;have:(⟨#[32,126,32]⟩:ByteArray).size=3:=rfl;omega)
    have y1:=ezT y0
    have y2:=dzT y0
    have y3:(9223372036854775807<AC.size+3+tx.size)=False:=eq_false (Nat.not_lt.2 y0)
    have fO2:=(Boxed.jxc iO hbX).frozen
    have cO2:=(Boxed.jxc iO hbX).cell
    gi_wp2
    refine jYb (S:=(fun W':World=>W'.cell? ⟨W.heap.size,2,none⟩=some (.int .i64 (ja l0_0 g).f2)∧W'.cell? ⟨w1.heap.size,0,none⟩=some (.slice (some adl) l.length co)∧W'.cell? (adl.add (ix+1).toNat)=some (.int .i64 (rd l (ix+1))))) hmx (by kernel_rfl) ?hL ?_
    case hL=>rintro ⟨_,_,h⟩;exact h
    change wpAnyH _ _ _ _ _ _ _ _ (World.drew (W.alloc (.cells #[.int .i64 (ja l0_0 g).f0, .int .i64 (ja l0_0 g).f1, .int .i64 (ja l0_0 g).f2, .int .i64 (ja l0_0 g).f3, .bool (ja l0_0 g).f4] 66)))
    have hS9:(fun W':World=>W'.cell? ⟨W.heap.size,2,none⟩=some (.int .i64 (ja l0_0 g).f2)∧W'.cell? ⟨w1.heap.size,0,none⟩=some (.slice (some adl) l.length co)∧W'.cell? (adl.add (ix+1).toNat)=some (.int .i64 (rd l (ix+1)))) (World.drew (W.alloc (.cells #[.int .i64 (ja l0_0 g).f0, .int .i64 (ja l0_0 g).f1, .int .i64 (ja l0_0 g).f2, .int .i64 (ja l0_0 g).f3, .bool (ja l0_0 g).f4] 66))):=⟨(jG (jf (heap_alloc_new W (.cells #[.int .i64 (ja l0_0 g).f0, .int .i64 (ja l0_0 g).f1, .int .i64 (ja l0_0 g).f2, .int .i64 (ja l0_0 g).f3, .bool (ja l0_0 g).f4] 66))) 2).trans rfl,jQ hbX cL,jQ hbX hz⟩
    refine wpAnyH_take (i:=0) (v:=?_) rfl (by kernel_rfl) (by kernel_rfl) (by kernel_rfl) (fun _ _ _ h=>h) (Or.inl ⟨by rfl,?_⟩) hS9 ?_
    rotate_left
    ·rintro W' ⟨s1,s2,s3⟩
     go_simp
     with_reducible rfl
    refine wpAnyH_take (i:=1) (v:=?_) rfl (by kernel_rfl) (by kernel_rfl) (by kernel_rfl) (fun _ _ _ h=>h) (Or.inl ⟨by rfl,?_⟩) hS9 ?_
    rotate_left
    ·rintro W' ⟨s1,s2,s3⟩
     go_simp
     with_reducible rfl
    refine wpAnyH_take (i:=2) (v:=?_) rfl (by kernel_rfl) (by kernel_rfl) (by kernel_rfl) (fun _ _ _ h=>h) (Or.inl ⟨by rfl,?_⟩) hS9 ?_
    rotate_left
    ·rintro W' ⟨s1,s2,s3⟩
     go_simp
     with_reducible rfl
    refine wpAnyH_take (i:=3) (v:=?_) rfl (by kernel_rfl) (by kernel_rfl) (by kernel_rfl) (fun _ _ _ h=>h) (Or.inl ⟨by rfl,?_⟩) hS9 ?_
    rotate_left
    ·rintro W' ⟨s1,s2,s3⟩
     go_simp
     with_reducible rfl
    refine wpAnyH_take (i:=4) (v:=?_) rfl (by kernel_rfl) (by kernel_rfl) (by kernel_rfl) (fun _ _ _ h=>h) (Or.inl ⟨by rfl,?_⟩) hS9 ?_
    rotate_left
    ·rintro W' ⟨s1,s2,s3⟩
     go_simp
     with_reducible rfl
    refine wpAnyH_take (i:=5) (v:=?_) rfl (by kernel_rfl) (by kernel_rfl) (by kernel_rfl) (fun _ _ _ h=>h) (Or.inl ⟨by rfl,?_⟩) hS9 ?_
    rotate_left
    ·rintro W' ⟨s1,s2,s3⟩
     go_simp
     with_reducible rfl
    refine wpAnyH_take (i:=6) (v:=?_) rfl (by kernel_rfl) (by kernel_rfl) (by kernel_rfl) (fun _ _ _ h=>h) (Or.inl ⟨by rfl,?_⟩) hS9 ?_
    rotate_left
    ·rintro W' ⟨s1,s2,s3⟩
     go_simp
     with_reducible rfl
    refine wpAnyH_take (i:=7) (v:=?_) rfl (by kernel_rfl) (by kernel_rfl) (by kernel_rfl) (fun _ _ _ h=>h) (Or.inl ⟨by rfl,?_⟩) hS9 ?_
    rotate_left
    ·rintro W' ⟨s1,s2,s3⟩
     go_simp
     with_reducible rfl
    refine wpAnyH_done (by kernel_rfl) ?_ _
    rename_i K9 hK9
    refine hK9 _ _ ?_
    clear hK9
    go_simp
    gi_wp2
    refine jYb (S:=(fun W':World=>W'.cell? ⟨w.heap.size+1,0,none⟩=some (.slice A1_0 l1_0.length c1_0)∧W'.cell? ⟨W.heap.size,0,none⟩=some (.int .i64 (ja l0_0 g).f0)∧W'.cell? ⟨W.heap.size,1,none⟩=some (.int .i64 (ja l0_0 g).f1))) hmx (by kernel_rfl) ?hL ?_
    case hL=>rintro ⟨_,_,h⟩;exact h
    change wpAnyH _ _ _ _ _ _ _ _ (World.drew (World.drew ((W.setCell ⟨w.heap.size+1+1,0,none⟩ (.string (AC ++ (⟨#[32,126,32]⟩:ByteArray)))).alloc (.cells #[.int .i64 (ja l0_0 g).f0, .int .i64 (ja l0_0 g).f1, .int .i64 (ja l0_0 g).f2, .int .i64 (ja l0_0 g).f3, .bool (ja l0_0 g).f4] 66))))
    obtain ⟨V,hVe,hVI,hVK,hVX⟩:∃ V:World,World.drew (World.drew ((W.setCell ⟨w.heap.size+1+1,0,none⟩ (.string (AC ++ (⟨#[32,126,32]⟩:ByteArray)))).alloc (.cells #[.int .i64 (ja l0_0 g).f0, .int .i64 (ja l0_0 g).f1, .int .i64 (ja l0_0 g).f2, .int .i64 (ja l0_0 g).f3, .bool (ja l0_0 g).f4] 66)))=V∧IV V (AC ++ (⟨#[32,126,32]⟩:ByteArray))∧KeepsFrom W0.heap.size W V∧V.heap[W.heap.size]?=some (.cells #[.int .i64 (ja l0_0 g).f0, .int .i64 (ja l0_0 g).f1, .int .i64 (ja l0_0 g).f2, .int .i64 (ja l0_0 g).f3, .bool (ja l0_0 g).f4] 66 (0,0)):=⟨_,rfl,IB.out _ _ _ (IS.out _ _ _ hI) (jpb (jpb (jr (Below.refl _ _) _))),((KeepsOthers.setCell _ _ _).from _).trans (KeepsFrom.jOb (jpb (jpb (jr (Below.refl _ _) _))) _),(by have h:=jf (jf (heap_alloc_new (W.setCell ⟨w.heap.size+1+1,0,none⟩ (.string (AC ++ (⟨#[32,126,32]⟩:ByteArray)))) (.cells #[.int .i64 (ja l0_0 g).f0, .int .i64 (ja l0_0 g).f1, .int .i64 (ja l0_0 g).f2, .int .i64 (ja l0_0 g).f3, .bool (ja l0_0 g).f4] 66)));rw [show (W.setCell ⟨w.heap.size+1+1,0,none⟩ (.string (AC ++ (⟨#[32,126,32]⟩:ByteArray)))).heap.size=W.heap.size by simp] at h;exact h)⟩
    rw [hVe]
    clear hVe
    have hVI2:=hVI
    rw [hIV] at hVI2
    obtain ⟨⟨⟨⟨⟨⟨v0,v1⟩,vL⟩,vS⟩,vO⟩,vR⟩,vB⟩:=hVI2
    clear v0 vL vS vR c0 c1 cL cO fO
    have cO:=vO.cell
    have fO:=vO.frozen
    have hS0:(fun W':World=>W'.cell? ⟨w.heap.size+1,0,none⟩=some (.slice A1_0 l1_0.length c1_0)∧W'.cell? ⟨W.heap.size,0,none⟩=some (.int .i64 (ja l0_0 g).f0)∧W'.cell? ⟨W.heap.size,1,none⟩=some (.int .i64 (ja l0_0 g).f1)) V:=⟨v1.cell,(jG hVX 0).trans rfl,(jG hVX 1).trans rfl⟩
    refine wpAnyH_take (i:=1) (v:=?_) rfl (by kernel_rfl) (by kernel_rfl) (by kernel_rfl) (fun _ _ _ h=>h) (Or.inl ⟨by rfl,?_⟩) hS0 ?_
    rotate_left
    ·rintro W' ⟨s1,s2,s3⟩
     go_simp
     with_reducible rfl
    refine wpAnyH_take (i:=2) (v:=?_) rfl (by kernel_rfl) (by kernel_rfl) (by kernel_rfl) (fun _ _ _ h=>h) (Or.inl ⟨by rfl,?_⟩) hS0 ?_
    rotate_left
    ·rintro W' ⟨s1,s2,s3⟩
     go_simp
     with_reducible rfl
    refine wpAnyH_take (i:=3) (v:=?_) rfl (by kernel_rfl) (by kernel_rfl) (by kernel_rfl) (fun _ _ _ h=>h) (Or.inl ⟨by rfl,?_⟩) hS0 ?_
    rotate_left
    ·rintro W' ⟨s1,s2,s3⟩
     go_simp
     with_reducible rfl
    refine wpAnyH_take (i:=4) (v:=?_) rfl (by kernel_rfl) (by kernel_rfl) (by kernel_rfl) (fun _ _ _ h=>h) (Or.inl ⟨by rfl,?_⟩) hS0 ?_
    rotate_left
    ·rintro W' ⟨s1,s2,s3⟩
     go_simp
     with_reducible rfl
    refine wpAnyH_take (i:=5) (v:=?_) rfl (by kernel_rfl) (by kernel_rfl) (by kernel_rfl) (fun _ _ _ h=>h) (Or.inl ⟨by rfl,?_⟩) hS0 ?_
    rotate_left
    ·rintro W' ⟨s1,s2,s3⟩
     go_simp
     with_reducible rfl
    refine wpAnyH_all (rs:=[0,6]) (by kernel_rfl) (by simp) ?_
    intro ii hii
    rcases (by simpa using hii:ii=0∨ii=6) with rfl | rfl
    all_goals clear hii
    ·refine wpOp_step rfl (fun K hK=>?_)
     go_simp
     refine hK _ _ ⟨hS0,?_⟩
     clear hK K
     refine wpAnyH_all (rs:=[6]) (by kernel_rfl) (by simp) ?_
     intro ii hii
     obtain rfl:ii=6:=by simpa using hii
     clear hii
     refine wpOp_step rfl (fun K hK=>?_)
     go_simp
     refine (KT.out _ vB).mono ?_
     rintro e w4 ⟨rfl,hb4⟩
     have hS1:(fun W':World=>W'.cell? ⟨w.heap.size+1,0,none⟩=some (.slice A1_0 l1_0.length c1_0)∧W'.cell? ⟨W.heap.size,0,none⟩=some (.int .i64 (ja l0_0 g).f0)∧W'.cell? ⟨W.heap.size,1,none⟩=some (.int .i64 (ja l0_0 g).f1)) w4:=⟨jQ hb4 hS0.1,jQ hb4 hS0.2.1,jQ hb4 hS0.2.2⟩
     have hO4:=Boxed.jxc vO hb4
     have cO4:=hO4.cell
     have fO4:=hO4.frozen
     refine hK _ _ ⟨hS1,?_⟩
     clear hK K
     refine wpAnyH_take (i:=7) (v:=?_) rfl (by kernel_rfl) (by kernel_rfl) (by kernel_rfl) (fun _ _ _ h=>h) (Or.inl ⟨by rfl,?_⟩) hS1 ?_
     rotate_left
     ·rintro W' ⟨s1,s2,s3⟩
      go_simp
      with_reducible rfl
     refine wpAnyH_all (rs:=[8]) (by kernel_rfl) (by simp) ?_
     intro ii hii
     obtain rfl:ii=8:=by simpa using hii
     clear hii
     refine wpOp_step rfl (fun K hK=>?_)
     go_simp
     have hS2:(fun W':World=>W'.cell? ⟨w.heap.size+1,0,none⟩=some (.slice A1_0 l1_0.length c1_0)∧W'.cell? ⟨W.heap.size,0,none⟩=some (.int .i64 (ja l0_0 g).f0)∧W'.cell? ⟨W.heap.size,1,none⟩=some (.int .i64 (ja l0_0 g).f1)) (w4.setCell ⟨w.heap.size+1+1,0,none⟩ (.string ((AC ++ (⟨#[32,126,32]⟩:ByteArray)) ++ tx))):=⟨(World.cell?_setCell_far _ _ _ _ (by simp)).trans hS1.1,(World.cell?_setCell_far _ _ _ _ (by simp;omega)).trans hS1.2.1,(World.cell?_setCell_far _ _ _ _ (by simp;omega)).trans hS1.2.2⟩
     refine hK _ _ ⟨hS2,?_⟩
     clear hK K
     refine wpAnyH_done (by kernel_rfl) ?_ _
     exact ⟨hVK.trans ((KeepsFrom.jOb hb4 _).trans ((KeepsOthers.setCell _ _ _).from _)),fun _=>IR.out _ _ (IS.out _ _ _ (IB.out _ _ _ hVI hb4)),by show IV _ (ChEl.acc (pre ++ [⟨(ix,g),hx⟩]));rw [hF];exact IS.out _ _ _ (IB.out _ _ _ hVI hb4)⟩
    ·refine wpOp_step rfl (fun K hK=>?_)
     go_simp
     refine (KT.out _ vB).mono ?_
     rintro e w4 ⟨rfl,hb4⟩
     have hS1:(fun W':World=>W'.cell? ⟨w.heap.size+1,0,none⟩=some (.slice A1_0 l1_0.length c1_0)∧W'.cell? ⟨W.heap.size,0,none⟩=some (.int .i64 (ja l0_0 g).f0)∧W'.cell? ⟨W.heap.size,1,none⟩=some (.int .i64 (ja l0_0 g).f1)) w4:=⟨jQ hb4 hS0.1,jQ hb4 hS0.2.1,jQ hb4 hS0.2.2⟩
     have hO4:=Boxed.jxc vO hb4
     have cO4:=hO4.cell
     have fO4:=hO4.frozen
     refine hK _ _ ⟨hS1,?_⟩
     clear hK K
     refine wpAnyH_all (rs:=[0]) (by kernel_rfl) (by simp) ?_
     intro ii hii
     obtain rfl:ii=0:=by simpa using hii
     clear hii
     refine wpOp_step rfl (fun K hK=>?_)
     go_simp
     refine hK _ _ ⟨hS1,?_⟩
     clear hK K
     refine wpAnyH_take (i:=7) (v:=?_) rfl (by kernel_rfl) (by kernel_rfl) (by kernel_rfl) (fun _ _ _ h=>h) (Or.inl ⟨by rfl,?_⟩) hS1 ?_
     rotate_left
     ·rintro W' ⟨s1,s2,s3⟩
      go_simp
      with_reducible rfl
     refine wpAnyH_all (rs:=[8]) (by kernel_rfl) (by simp) ?_
     intro ii hii
     obtain rfl:ii=8:=by simpa using hii
     clear hii
     refine wpOp_step rfl (fun K hK=>?_)
     go_simp
     have hS2:(fun W':World=>W'.cell? ⟨w.heap.size+1,0,none⟩=some (.slice A1_0 l1_0.length c1_0)∧W'.cell? ⟨W.heap.size,0,none⟩=some (.int .i64 (ja l0_0 g).f0)∧W'.cell? ⟨W.heap.size,1,none⟩=some (.int .i64 (ja l0_0 g).f1)) (w4.setCell ⟨w.heap.size+1+1,0,none⟩ (.string ((AC ++ (⟨#[32,126,32]⟩:ByteArray)) ++ tx))):=⟨(World.cell?_setCell_far _ _ _ _ (by simp)).trans hS1.1,(World.cell?_setCell_far _ _ _ _ (by simp;omega)).trans hS1.2.1,(World.cell?_setCell_far _ _ _ _ (by simp;omega)).trans hS1.2.2⟩
     refine hK _ _ ⟨hS2,?_⟩
     clear hK K
     refine wpAnyH_done (by kernel_rfl) ?_ _
     exact ⟨hVK.trans ((KeepsFrom.jOb hb4 _).trans ((KeepsOthers.setCell _ _ _).from _)),fun _=>IR.out _ _ (IS.out _ _ _ (IB.out _ _ _ hVI hb4)),by show IV _ (ChEl.acc (pre ++ [⟨(ix,g),hx⟩]));rw [hF];exact IS.out _ _ _ (IB.out _ _ _ hVI hb4)⟩
 case done =>
  rintro D ys W hD rfl hI hK
  have hI1:=hI
  rw [hIV] at hI1
  obtain ⟨⟨⟨⟨⟨⟨i0,i1⟩,iL⟩,iS⟩,iO⟩,iR⟩,hB⟩:=hI1
  have hr2:ChEl.acc (uptoC (ChEl.of l1_0 l0_0 l hz0) l.length)=r:=by
   have h2:=ChEl.acc_all hz0 l.length r (Nat.le_refl _) h
   rw [← h2]
   unfold ChEl.acc uptoC
   rw [List.map_map]
   congr 1
   apply List.map_congr_left
   intro j _
   show (ChEl.of l1_0 l0_0 l hz0 j).txt=_
   rw [show l.length - l.length+j=j by omega]
  rw [hr2] at iO
  have cO:=iO.cell
  gi_wp2
  refine ⟨by simp, .inl ⟨_,_,rfl,run_takeDeferred hK,?_⟩⟩
  refine ⟨.string r,?_,rfl,hB.trans (belowK_b (w:=w) (Nat.le_refl _) W D _ _ (by omega) hK rfl rfl)⟩
  simp [results,Tryd.f33,go_sem]
 case stop =>
  rintro D c pre W hD ⟨q,hq,rfl⟩ h hK
  exact h.elim
end
def jBa.f (k : Nat) (l0_0 : List (S99)) (l1_0 : List (S66)) (a2 : Int) : Option (ByteArray) := (jwa.f k l0_0 l1_0 (([a2] : List Int))).bind fun t415 => (if t415 = true then ((jIa.f k l1_0 l0_0 a2).bind fun t416 => (some t416)) else (some (⟨#[]⟩ : ByteArray)))
set_option maxHeartbeats 8000000 in
set_option maxRecDepth 100000 in
theorem jBa.calls (k : Nat) (A0_0 : Option Addr) (c0_0 : Nat) (l0_0 : List (S99)) (A1_0 : Option Addr) (c1_0 : Nat) (l1_0 : List (S66)) (a2 : Int) (r : ByteArray) (w : World) (hr0_0 : Kd.C k99 w A0_0 l0_0.length l0_0) (hc0_0 : l0_0.length ≤ c0_0) (hr1_0 : Kd.C k66 w A1_0 l1_0.length l1_0) (hc1_0 : l1_0.length ≤ c1_0) (h : jBa.f k l0_0 l1_0 a2 = some r) :
  Calls Tryd.prog 11 #[.agg #[.slice A0_0 l0_0.length c0_0], .agg #[.slice A1_0 l1_0.length c1_0], .int .i64 a2] w fun e w'=>e=.returned (.string r)∧Below w.heap.size w w':=by
 have hu25:=Tryd.underlying25
 have hu28:=Tryd.underlying28
 have HR0_0:=am hr0_0
 have HC0_0:=am hc0_0
 clear hr0_0 hc0_0
 have HR1_0:=am hr1_0
 have HC1_0:=am hc1_0
 clear hr1_0 hc1_0
 have HB:=am (Below.refl w.heap.size w)
 have H:((jwa.f k l0_0 l1_0 (([a2]:List Int))).bind fun t415=>(if t415=true then ((jIa.f k l1_0 l0_0 a2).bind fun t416=>(some t416)) else (some (⟨#[]⟩:ByteArray))))=some r:=h
 clear h
 obtain ⟨y412,hy412⟩:∃ y_:List Int,y_=(([a2]:List Int)):=⟨_,rfl⟩
 replace H:((jwa.f k l0_0 l1_0 y412).bind fun t415=>(if t415=true then ((jIa.f k l1_0 l0_0 a2).bind fun t416=>(some t416)) else (some (⟨#[]⟩:ByteArray))))=some r:=by first |(rw [hy412];with_reducible exact H) |(have H2_:=(Option.bind_some _ _).symm.trans H;rw [hy412];with_reducible exact H2_) |(have H2_:=(Option.bind_some _ _).symm.trans H;with_reducible exact H2_) | with_reducible exact H |(rw [hy412];exact H) | exact H
 have Ny412:=am hy412
 clear hy412
 replace H:=bzS H
 obtain ⟨t415,A40,H⟩:=H
 replace H:(if t415=true then ((jIa.f k l1_0 l0_0 a2).bind fun t416=>(some t416)) else (some (⟨#[]⟩:ByteArray)))=some r:=H
 have A4:=am A40
 clear A40
 by_cases c5:t415=true
 ·subst c5
  have H1:((jIa.f k l1_0 l0_0 a2).bind fun t416=>(some t416))=some r:=by rw [if_pos rfl] at H;exact H
  clear H
  have H:=H1
  clear H1
  replace H:=bzS H
  obtain ⟨t416,A60,H⟩:=H
  replace H:(some t416)=some r:=H
  have A6:=am A60
  clear A60
  obtain rfl:=Option.some.inj H
  go_enter Tryd.func11,Tryd.ntmps11
  go_wp2_with (first |((with_reducible refine jC (N:=3) rfl ?_);refine bE (N:=3) (cs:=#[.slice A0_0 l0_0.length c0_0]) (t:=25) ?_;intro gb410 hg w7 hbox hb;have BK410:=am (hbox);have GW410:=am ((Y0:w.heap.size≤gb410));have GE410:=am ((Y0:w.heap.size≤gb410));replace HB:=am (je (bq) hb);clear hb hbox hg) |((with_reducible refine jC (N:=4) rfl ?_);refine bE (N:=4) (cs:=#[.slice A1_0 l1_0.length c1_0]) (t:=28) ?_;intro gb411 hg w8 hbox hb;have BK411:=am (hbox);have GW411:=am ((Y113:w.heap.size≤gb411));have GE411:=am ((Y113:w.heap.size≤gb411));have NB410_411:=am ((by rw [hg];exact Nat.ne_of_lt (jaa (g:=gb410) (o:=.cells #[.slice A0_0 l0_0.length c0_0] 25 (0,0)) (kq BK410.out)):gb410≠gb411));have NB411_410:=am ((by rw [hg];exact Nat.ne_of_gt (jaa (g:=gb410) (o:=.cells #[.slice A0_0 l0_0.length c0_0] 25 (0,0)) (kq BK410.out)):gb411≠gb410));replace BK410:=am (jc (g:=gb410) (o:=.cells #[.slice A0_0 l0_0.length c0_0] 25 (0,0)) (kq BK410.out) hb);replace HB:=am (je (Y179) hb);clear hb hbox hg;have hnb9:=NB410_411.out;have hnc9:=NB411_410.out;have hcz10_0:=bc0 BK410.out;have hfz10_0:=jb BK410.out 0;have hcz11_0:=bc0 BK411.out;have hfz11_0:=jb BK411.out 0) |((with_reducible refine jC (N:=10) rfl ?_);refine Kd.jrc (Kd.int .i64) _ 3 ?hg (N:=10) ?hd (xs:=([a2]:List Int)) (inner:=[.int .i64 a2]) (ok:=fun _=>True) (okp:=fun _=>True) ?hr ?hp (fun _ hk=>hk) trivial (Below.refl _ _) (Nat.le_refl _) (by simp) ?_;(case hd=>rfl);(case hg=>rfl);(case hr=>exact Y3);(case hp=>exact (Reps.one (show Kd.M (Kd.int .i64) _ _ _ a2 [.int .i64 a2] from rfl) (Reps.none _ _)));intro v413 w12 ho13 hb hg_ hnew_;clear hg_ hnew_;(first | rw [← Ny412.out] at ho13 |(simp only [Int.reduceToNat] at ho13;rw [← Ny412.out] at ho13));have HO414:=am (Kd.jfa ho13 (jI (Y50)));replace BK410:=am (jc (g:=gb410) (o:=.cells #[.slice A0_0 l0_0.length c0_0] 25 (0,0)) (kq BK410.out) hb);replace BK411:=am (jc (g:=gb411) (o:=.cells #[.slice A1_0 l1_0.length c1_0] 28 (0,0)) (kq BK411.out) hb);replace HB:=am (je (Y50) hb);clear hb ho13;obtain ⟨Ao14,co14,eo14⟩:=Kd.jX HO414.out;subst eo14) |((with_reducible refine jw (f:=28) rfl ?_);refine gL (some 11) Tryd.func28 #[.agg #[.slice A0_0 l0_0.length c0_0], .agg #[.slice A1_0 l1_0.length c1_0], .slice Ao14 y412.length co14] ?_;(with_reducible refine (jwa.calls k _ _ l0_0 _ _ l1_0 _ _ y412 true _ ?side1 ?side2 ?side3 ?side4 ?side5 ?side6 A4.out).mono ?_);(case side1=>exact cq (Kd.jT HR0_0.out HB.out));(case side2=>exact HC0_0.out);(case side3=>exact cq (Kd.jT HR1_0.out HB.out));(case side4=>exact HC1_0.out);(case side5=>exact cq (Kd.jA HO414.out).2.2);(case side6=>exact (Kd.jA HO414.out).2.1);rintro e w15 ⟨rfl,hb⟩;refine ⟨_,rfl,?_⟩;replace HO414:=am (Kd.jM (rq HO414.out) hb);replace BK410:=am (jc (g:=gb410) (o:=.cells #[.slice A0_0 l0_0.length c0_0] 25 (0,0)) (kq BK410.out) hb);replace BK411:=am (jc (g:=gb411) (o:=.cells #[.slice A1_0 l1_0.length c1_0] 28 (0,0)) (kq BK411.out) hb);replace HB:=am (je (Y50) hb);(try clear hb);(try clear hb2);(try clear hk);(try clear hi);have hcz16_0:=bc0 BK411.out;have hfz16_0:=jb BK411.out 0;have hcz17_0:=bc0 BK410.out;have hfz17_0:=jb BK410.out 0) |((with_reducible refine jw (f:=33) rfl ?_);refine gL (some 16) Tryd.func33 #[.agg #[.slice A1_0 l1_0.length c1_0], .agg #[.slice A0_0 l0_0.length c0_0], .int .i64 a2] ?_;(with_reducible refine (jIa.calls k _ _ l1_0 _ _ l0_0 a2 t416 _ ?side1 ?side2 ?side3 ?side4 A6.out).mono ?_);(case side1=>exact cq (Kd.jT HR1_0.out HB.out));(case side2=>exact HC1_0.out);(case side3=>exact cq (Kd.jT HR0_0.out HB.out));(case side4=>exact HC0_0.out);rintro e w18 ⟨rfl,hb⟩;refine ⟨_,rfl,?_⟩;replace HO414:=am (Kd.jM (rq HO414.out) hb);replace BK410:=am (jc (g:=gb410) (o:=.cells #[.slice A0_0 l0_0.length c0_0] 25 (0,0)) (kq BK410.out) hb);replace BK411:=am (jc (g:=gb411) (o:=.cells #[.slice A1_0 l1_0.length c1_0] 28 (0,0)) (kq BK411.out) hb);replace HB:=am (je (Y50) hb);(try clear hb);(try clear hb2);(try clear hk);(try clear hi)))
  go_ret
  exact ⟨Y1,Y50⟩
 ·replace c5:=Bool.eq_false_iff.mpr c5
  subst c5
  have H1:(some (⟨#[]⟩:ByteArray))=some r:=by rw [if_neg (show ¬ (false=true) by decide)] at H;exact H
  clear H
  have H:=H1
  clear H1
  obtain rfl:=Option.some.inj H
  go_enter Tryd.func11,Tryd.ntmps11
  go_wp2_with (first |((with_reducible refine jC (N:=3) rfl ?_);refine bE (N:=3) (cs:=#[.slice A0_0 l0_0.length c0_0]) (t:=25) ?_;intro gb410 hg w19 hbox hb;have BK410:=am (hbox);have GW410:=am ((Y0:w.heap.size≤gb410));have GE410:=am ((Y0:w.heap.size≤gb410));replace HB:=am (je (bq) hb);clear hb hbox hg) |((with_reducible refine jC (N:=4) rfl ?_);refine bE (N:=4) (cs:=#[.slice A1_0 l1_0.length c1_0]) (t:=28) ?_;intro gb411 hg w20 hbox hb;have BK411:=am (hbox);have GW411:=am ((Y113:w.heap.size≤gb411));have GE411:=am ((Y113:w.heap.size≤gb411));have NB410_411:=am ((by rw [hg];exact Nat.ne_of_lt (jaa (g:=gb410) (o:=.cells #[.slice A0_0 l0_0.length c0_0] 25 (0,0)) (kq BK410.out)):gb410≠gb411));have NB411_410:=am ((by rw [hg];exact Nat.ne_of_gt (jaa (g:=gb410) (o:=.cells #[.slice A0_0 l0_0.length c0_0] 25 (0,0)) (kq BK410.out)):gb411≠gb410));replace BK410:=am (jc (g:=gb410) (o:=.cells #[.slice A0_0 l0_0.length c0_0] 25 (0,0)) (kq BK410.out) hb);replace HB:=am (je (Y179) hb);clear hb hbox hg;have hnb21:=NB410_411.out;have hnc21:=NB411_410.out;have hcz22_0:=bc0 BK410.out;have hfz22_0:=jb BK410.out 0;have hcz23_0:=bc0 BK411.out;have hfz23_0:=jb BK411.out 0) |((with_reducible refine jC (N:=10) rfl ?_);refine Kd.jrc (Kd.int .i64) _ 3 ?hg (N:=10) ?hd (xs:=([a2]:List Int)) (inner:=[.int .i64 a2]) (ok:=fun _=>True) (okp:=fun _=>True) ?hr ?hp (fun _ hk=>hk) trivial (Below.refl _ _) (Nat.le_refl _) (by simp) ?_;(case hd=>rfl);(case hg=>rfl);(case hr=>exact Y3);(case hp=>exact (Reps.one (show Kd.M (Kd.int .i64) _ _ _ a2 [.int .i64 a2] from rfl) (Reps.none _ _)));intro v413 w24 ho25 hb hg_ hnew_;clear hg_ hnew_;(first | rw [← Ny412.out] at ho25 |(simp only [Int.reduceToNat] at ho25;rw [← Ny412.out] at ho25));have HO414:=am (Kd.jfa ho25 (jI (Y50)));replace BK410:=am (jc (g:=gb410) (o:=.cells #[.slice A0_0 l0_0.length c0_0] 25 (0,0)) (kq BK410.out) hb);replace BK411:=am (jc (g:=gb411) (o:=.cells #[.slice A1_0 l1_0.length c1_0] 28 (0,0)) (kq BK411.out) hb);replace HB:=am (je (Y50) hb);clear hb ho25;obtain ⟨Ao26,co26,eo26⟩:=Kd.jX HO414.out;subst eo26) |((with_reducible refine jw (f:=28) rfl ?_);refine gL (some 11) Tryd.func28 #[.agg #[.slice A0_0 l0_0.length c0_0], .agg #[.slice A1_0 l1_0.length c1_0], .slice Ao26 y412.length co26] ?_;(with_reducible refine (jwa.calls k _ _ l0_0 _ _ l1_0 _ _ y412 false _ ?side1 ?side2 ?side3 ?side4 ?side5 ?side6 A4.out).mono ?_);(case side1=>exact cq (Kd.jT HR0_0.out HB.out));(case side2=>exact HC0_0.out);(case side3=>exact cq (Kd.jT HR1_0.out HB.out));(case side4=>exact HC1_0.out);(case side5=>exact cq (Kd.jA HO414.out).2.2);(case side6=>exact (Kd.jA HO414.out).2.1);rintro e w27 ⟨rfl,hb⟩;refine ⟨_,rfl,?_⟩;replace HO414:=am (Kd.jM (rq HO414.out) hb);replace BK410:=am (jc (g:=gb410) (o:=.cells #[.slice A0_0 l0_0.length c0_0] 25 (0,0)) (kq BK410.out) hb);replace BK411:=am (jc (g:=gb411) (o:=.cells #[.slice A1_0 l1_0.length c1_0] 28 (0,0)) (kq BK411.out) hb);replace HB:=am (je (Y50) hb);(try clear hb);(try clear hb2);(try clear hk);(try clear hi)))
  go_ret
  exact ⟨Y1,Y50⟩
def jVa.f (l0 : List S66) : Option (List S66) := if l0.length < 1099511627776 then some l0 else none
set_option maxHeartbeats 8000000 in
set_option maxRecDepth 100000 in
theorem jVa.calls (A0 : Option Addr) (c0 : Nat) (l0 : List S66) (r : List S66) (w : World) (hr0 : Kd.C k66 w A0 l0.length l0) (hc0 : l0.length ≤ c0) (h : jVa.f l0 = some r) :
  Calls Tryd.prog 46 #[.slice A0 l0.length c0] w fun e w'=>∃ v0_:Value,e=.returned (v0_)∧Kd.R k66 66 w' w.heap.size (fun _=>True) v0_ r∧Below w.heap.size w w':=by
 unfold jVa.f at h
 by_cases hlen:l0.length<1099511627776
 ·rw [if_pos hlen] at h
  obtain rfl:=Option.some.inj h
  have LM:=am hlen
  have q22:∀ (w:World) (a:Option Addr) (n c n' c':Nat),(binOp .eql 26 (.slice a n c) (.slice none n' c')).run Tryd.prog w=.ok (.bool a.isNone) w:=fun w a n c n' c'=>Lib.run_eql_slice_nil w _ _ a n c n' c' Tryd.underlying26
  clear h hlen
  cases A0 with
  | none =>
   have h0:l0=[]:=by
    rcases Nat.eq_zero_or_pos l0.length with h | h
    ·exact List.eq_nil_of_length_eq_zero h
    ·obtain ⟨ad,e,_⟩:=hr0.2.2 h;cases e
   subst h0
   clear hr0
   go_enter Tryd.func46,Tryd.ntmps46
   go_wp2
   go_ret
   exact ⟨_,rfl,Kd.R_nil _ _ _ _ _,Below.refl _ _⟩
  | some ad =>
   have HR:=am hr0
   have HB:=am (Below.refl w.heap.size w)
   clear hr0
   go_enter Tryd.func46,Tryd.ntmps46
   go_wp2_with (first |((with_reducible refine jC (N:=5) rfl ?_);refine Kd.jrc k66 _ 66 ?hg (N:=5) ?hd (xs:=([]:List S66)) (inner:=[]) (ok:=fun _=>True) (okp:=fun _=>True) ?hr ?hp (fun _ hk=>hk) trivial (Below.refl _ _) (Nat.le_refl _) (by simp) ?_;(case hd=>rfl);(case hg=>rfl);(case hr=>exact Y3);(case hp=>exact (Reps.none _ _));intro v111 w4 ho5 hb hg_ hnew_;clear hg_ hnew_;have HO:=am ho5;have HB2:=am hb;clear HB ho5 hb;have HB:=HB2;clear HB2) |(at_builtin;refine Kd.R_append_rows k66 (w0:=w) w.heap.size rfl (.tmp 5) (.tmp 6) 26 66 (.agg #[(.int .i64 0),(.int .i64 0),(.int .i64 0),(.int .i64 0),(.bool false)]) 40 rfl Tryd.underlying26 info66 rfl (by decide) (by omega) v111 ([]:List S66) l0 _ _ _ (fun _=>True) (fun _=>False) rfl rfl HO.out (Kd.jT HR.out HB.out) (fun _ _ h=>h) (fun _ h=>h.elim) (fun _ _=>trivial) HB.out (jI HB.out) (by have:=LM.out;simp only [List.length_nil];omega) ?_;intro v1 w2 ho hb hg hat;have HV2:=am ho;have HB2:=am hb;clear ho hb hg hat))
   go_ret
   exact ⟨_,rfl,by simpa using HV2.out,HB2.out⟩
 ·rw [if_neg hlen] at h;cases h
def jJb.f (l0 : List (S66)) : Option ((List (S66))) := some (l0)
set_option maxHeartbeats 8000000 in
set_option maxRecDepth 100000 in
theorem jJb.calls (P0_ : Nat → Prop) (u9000_ : Value) (l0 : List (S66)) (r : List (S66)) (w0 w : World) (hB : Below w0.heap.size w0 w) (ho0 : Kd.R k66 66 w w0.heap.size P0_ u9000_ l0) (h : jJb.f l0 = some r) :
  Calls Tryd.prog 47 #[u9000_] w fun e w'=>∃ v0_:Value,e=.returned (v0_)∧Kd.R k66 66 w' w0.heap.size (fun k_=>(P0_ k_∨w.heap.size≤k_)) v0_ r∧Below w0.heap.size w0 w'∧Kept w w' (fun k_=>P0_ k_):=by
 have HO0:=am (show Kd.R k66 66 w w0.heap.size (fun k_=>(P0_ k_∨w.heap.size≤k_)) u9000_ l0 from Kd.jH ho0 (fun k_ hk=>(.inl hk)))
 have HK:=am (Kept.refl w (fun k_=>P0_ k_))
 have HW0:=am hB.size
 have HB:=am hB
 clear hB
 have H:(some (l0))=some r:=h
 clear h
 obtain ⟨y417,hy417⟩:∃ y_:List (S66),y_=(l0):=⟨_,rfl⟩
 replace H:(some y417)=some r:=by first |(rw [hy417];with_reducible exact H) |(have H2_:=(Option.bind_some _ _).symm.trans H;rw [hy417];with_reducible exact H2_) |(have H2_:=(Option.bind_some _ _).symm.trans H;with_reducible exact H2_) | with_reducible exact H |(rw [hy417];exact H) | exact H
 have Ny417:=am hy417
 clear hy417
 obtain rfl:=Option.some.inj H
 obtain ⟨Ao2,co2,eo2⟩:=Kd.jX HO0.out
 subst eo2
 obtain ⟨i03,hi03,_,hsz3,_⟩:=info_parts info66
 have hy3:y417.length=l0.length:=(by rw [Ny417.out])
 have hcut3:=cut_clip (P:=Tryd.prog) 26 66 Tryd.underlying26 hi03 Ao2 _ co2 _ (Kd.jA HO0.out).2.1 hy3
 have hr3:=Kd.R_clip HO0.out Ny417.out
 clear hy3 hi03 hsz3 HO0
 have HO419:=am hr3
 clear hr3
 go_enter Tryd.func47,Tryd.ntmps47
 go_wp2
 go_ret
 exact ⟨_,Y1,rq HO419.out,bq,Y174⟩
end Go.Proofs.YteibechlncphnaaDoor.P
end
