/- One part of the proofs on this program: functions of the program as plain functions, that the code comes to them, and facts on them. -/
import Derived.Test.YteibechlncphnaaDoorYAll1
import Derived.Test.YteibechlncphnaaDoorYAll6
import Derived.Test.YteibechlncphnaaDoorYWAuto
section
namespace Go.Proofs.YteibechlncphnaaDoor.P
open Go.RowKit Go.Proofs.YteibechlncphnaaDoorW.PrintWords Go.Proofs.YteibechlncphnaaDoorW.PrintLast Go.Proofs.YteibechlncphnaaDoorW.PrintMore
attribute [local go_sem] jva jta jAa jza jga jfa jua jsa jA
set_option linter.unusedVariables false
set_option linter.unusedSimpArgs false
def jMa.f (l0_0 : List (S99)) (a1 : Int) : Option (Bool) := (jR.f a1 0 (wrap64 ((l0_0.length : Int) - 1))).bind fun t333 => (some t333)
set_option maxHeartbeats 8000000 in
set_option maxRecDepth 100000 in
theorem jMa.calls (A0_0 : Option Addr) (c0_0 : Nat) (l0_0 : List (S99)) (a1 : Int) (r : Bool) (w : World) (hr0_0 : Kd.C k99 w A0_0 l0_0.length l0_0) (hc0_0 : l0_0.length ≤ c0_0) (h : jMa.f l0_0 a1 = some r) :
  Calls Tryd.prog 78 #[.agg #[.slice A0_0 l0_0.length c0_0], .int .i64 a1] w fun e w'=>e=.returned (.bool r)∧Below w.heap.size w w':=by
 have hu25:=Tryd.underlying25
 have HR0_0:=am hr0_0
 have HC0_0:=am hc0_0
 clear hr0_0 hc0_0
 have HB:=am (Below.refl w.heap.size w)
 have H:((jR.f a1 0 (wrap64 ((l0_0.length:Int) - 1))).bind fun t333=>(some t333))=some r:=h
 clear h
 replace H:=bzS H
 obtain ⟨t333,A30,H⟩:=H
 replace H:(some t333)=some r:=H
 have A3:=am A30
 clear A30
 obtain rfl:=Option.some.inj H
 go_enter Tryd.func78,Tryd.ntmps78
 go_wp2_with (first |((with_reducible refine jD (N:=2) rfl ?_);refine bE (N:=2) (cs:=#[.slice A0_0 l0_0.length c0_0]) (t:=25) ?_;intro gb332 hg w4 hbox hb;have BK332:=am (hbox);have GW332:=am ((Y0:w.heap.size≤gb332));have GE332:=am ((Y0:w.heap.size≤gb332));replace HB:=am (je (bq) hb);clear hb hbox hg;have hcz5_0:=bc0 BK332.out;have hfz5_0:=jb BK332.out 0) |((with_reducible refine jw (f:=79) rfl ?_);refine gL (some 10) Tryd.func79 #[.int .i64 a1, .int .i64 0, .int .i64 (wrap64 ((l0_0.length:Int) - 1))] ?_;(with_reducible refine (jR.calls a1 0 (wrap64 ((l0_0.length:Int) - 1)) t333 _ A3.out).mono ?_);rintro e w' ⟨rfl,⟨nd,rfl⟩⟩;refine ⟨_,rfl,?_⟩))
 go_ret
 exact ⟨Y1,by repeat (first |(with_reducible first | exact HB.out | apply jv | apply jo | apply jq | refine jl ?_ GE332.out) | exact HB.out)⟩
def jHa.f (l0_0 : List (S66)) (a1 : Int) : Option (Bool) := if 0 ≤ a1 then (if a1 < (l0_0.length : Int) then ((jR.f ((ja l0_0 a1).f2) (-1) (wrap64 ((l0_0.length : Int) - 1))).bind fun t337 => (if t337 = true then ((jR.f ((ja l0_0 a1).f3) (-1) (wrap64 ((l0_0.length : Int) - 1))).bind fun t338 => (if t338 = true then (if ((ja l0_0 a1).f2) = a1 then (some false) else (some (((ja l0_0 a1).f3) != a1))) else (some false))) else (some false))) else (none)) else (none)
set_option maxHeartbeats 8000000 in
set_option maxRecDepth 100000 in
theorem jHa.calls (A0_0 : Option Addr) (c0_0 : Nat) (l0_0 : List (S66)) (a1 : Int) (r : Bool) (w : World) (hr0_0 : Kd.C k66 w A0_0 l0_0.length l0_0) (hc0_0 : l0_0.length ≤ c0_0) (h : jHa.f l0_0 a1 = some r) :
  Calls Tryd.prog 80 #[.agg #[.slice A0_0 l0_0.length c0_0], .int .i64 a1] w fun e w'=>e=.returned (.bool r)∧Below w.heap.size w w':=by
 have hu28:=Tryd.underlying28
 have hu66:=Tryd.underlying66
 have HR0_0:=am hr0_0
 have HC0_0:=am hc0_0
 clear hr0_0 hc0_0
 have HB:=am (Below.refl w.heap.size w)
 have H:(if 0≤a1 then (if a1<(l0_0.length:Int) then ((jR.f ((ja l0_0 a1).f2) (-1) (wrap64 ((l0_0.length:Int) - 1))).bind fun t337=>(if t337=true then ((jR.f ((ja l0_0 a1).f3) (-1) (wrap64 ((l0_0.length:Int) - 1))).bind fun t338=>(if t338=true then (if ((ja l0_0 a1).f2)=a1 then (some false) else (some (((ja l0_0 a1).f3) != a1))) else (some false))) else (some false))) else (none)) else (none))=some r:=h
 clear h
 by_cases c3:0≤a1
 ·rw [if_pos c3] at H
  have c3b0:decide (0≤a1)=true:=dzT c3
  clear c3
  by_cases c4:a1<(l0_0.length:Int)
  ·rw [if_pos c4] at H
   have c4b0:decide (a1<(l0_0.length:Int))=true:=dzT c4
   clear c4
   replace H:=bzS H
   obtain ⟨t337,A50,H⟩:=H
   replace H:(if t337=true then ((jR.f ((ja l0_0 a1).f3) (-1) (wrap64 ((l0_0.length:Int) - 1))).bind fun t338=>(if t338=true then (if ((ja l0_0 a1).f2)=a1 then (some false) else (some (((ja l0_0 a1).f3) != a1))) else (some false))) else (some false))=some r:=H
   have A5:=am A50
   clear A50
   by_cases c6:t337=true
   ·subst c6
    have H1:((jR.f ((ja l0_0 a1).f3) (-1) (wrap64 ((l0_0.length:Int) - 1))).bind fun t338=>(if t338=true then (if ((ja l0_0 a1).f2)=a1 then (some false) else (some (((ja l0_0 a1).f3) != a1))) else (some false)))=some r:=by rw [if_pos rfl] at H;exact H
    clear H
    have H:=H1
    clear H1
    replace H:=bzS H
    obtain ⟨t338,A70,H⟩:=H
    replace H:(if t338=true then (if ((ja l0_0 a1).f2)=a1 then (some false) else (some (((ja l0_0 a1).f3) != a1))) else (some false))=some r:=H
    have A7:=am A70
    clear A70
    by_cases c8:t338=true
    ·subst c8
     have H1:(if ((ja l0_0 a1).f2)=a1 then (some false) else (some (((ja l0_0 a1).f3) != a1)))=some r:=by rw [if_pos rfl] at H;exact H
     clear H
     have H:=H1
     clear H1
     by_cases c9:((ja l0_0 a1).f2)=a1
     ·rw [if_pos c9] at H
      have c9b0:(((ja l0_0 a1).f2) == a1)=true:=beq_iff_eq.mpr c9
      have c9b1:(((ja l0_0 a1).f2) != a1)=false:=bne_eq_false_iff_eq.mpr c9
      clear c9
      obtain rfl:=Option.some.inj H
      go_enter Tryd.func80,Tryd.ntmps80
      go_wp2_with (first |((with_reducible refine jD (N:=2) rfl ?_);refine bE (N:=2) (cs:=#[.slice A0_0 l0_0.length c0_0]) (t:=28) ?_;intro gb334 hg w10 hbox hb;have BK334:=am (hbox);have GW334:=am ((Y0:w.heap.size≤gb334));have GE334:=am ((Y0:w.heap.size≤gb334));replace HB:=am (je (bq) hb);clear hb hbox hg;have hcz11_0:=bc0 BK334.out;have hfz11_0:=jb BK334.out 0;have p335:0≤(a1:Int):=ozD (uq);have q335:a1<(l0_0.length:Int):=ozD (uq);obtain ⟨ad335,e335,hx335_0,hx335_1,hx335_2,hx335_3,hx335_4⟩:=jlb HR0_0.out a1 p335 q335;cases e335;replace hx335_0:=cb HB.out hx335_0;replace hx335_1:=cb HB.out hx335_1;replace hx335_2:=cb HB.out hx335_2;replace hx335_3:=cb HB.out hx335_3;replace hx335_4:=cb HB.out hx335_4;replace p335:=ezT p335;replace q335:=ezT q335) |((with_reducible refine jD (N:=6) rfl ?_);refine bE (N:=6) (cs:=#[.int .i64 0, .int .i64 0, .int .i64 0, .int .i64 0, .bool false]) (t:=66) ?_;intro gb336 hg w12 hbox hb;have BK336:=am (hbox);have GW336:=am ((Y57:w.heap.size≤gb336));have GE336:=am ((Y57:w.heap.size≤gb336));have NB334_336:=am ((Y114:gb334≠gb336));have NB336_334:=am ((Y115:gb336≠gb334));replace BK334:=am (jc (g:=gb334) (o:=.cells #[.slice (some ad335) l0_0.length c0_0] 28 (0,0)) (kq BK334.out) hb);replace HB:=am (je (Y116) hb);clear hb hbox hg;have hnb13:=NB336_334.out;have hnc13:=NB334_336.out;have hcz14_0:=bc0 BK336.out;have hcz14_1:=bc1 BK336.out;have hcz14_2:=bc2 BK336.out;have hcz14_3:=bc3 BK336.out;have hcz14_4:w12.cell? ⟨gb336,4,none⟩=some (.bool false):=(jH BK336.out 4).trans rfl;have hfz14_0:=jb BK336.out 0;have hfz14_1:=jb BK336.out 1;have hfz14_2:=jb BK336.out 2;have hfz14_3:=jb BK336.out 3;have hfz14_4:=jb BK336.out 4) |((with_reducible refine jw (f:=79) rfl ?_);refine gL (some 19) Tryd.func79 #[.int .i64 ((ja l0_0 a1).f2), .int .i64 (-1), .int .i64 (wrap64 ((l0_0.length:Int) - 1))] ?_;(with_reducible refine (jR.calls ((ja l0_0 a1).f2) (-1) (wrap64 ((l0_0.length:Int) - 1)) true _ A5.out).mono ?_);rintro e w' ⟨rfl,⟨nd,rfl⟩⟩;refine ⟨_,rfl,?_⟩) |(go_at_call 79;(with_reducible refine (jR.calls ((ja l0_0 a1).f3) (-1) (wrap64 ((l0_0.length:Int) - 1)) true _ A7.out).mono ?_);rintro e w' ⟨rfl,⟨nd,rfl⟩⟩))
      go_ret
      exact ⟨Y1,Y117⟩
     ·rw [if_neg c9] at H
      have c9b0:(((ja l0_0 a1).f2) == a1)=false:=beq_eq_false_iff_ne.mpr c9
      have c9b1:(((ja l0_0 a1).f2) != a1)=true:=bne_iff_ne.mpr c9
      obtain rfl:=Option.some.inj H
      go_enter Tryd.func80,Tryd.ntmps80
      go_wp2_with (first |((with_reducible refine jD (N:=2) rfl ?_);refine bE (N:=2) (cs:=#[.slice A0_0 l0_0.length c0_0]) (t:=28) ?_;intro gb334 hg w15 hbox hb;have BK334:=am (hbox);have GW334:=am ((Y0:w.heap.size≤gb334));have GE334:=am ((Y0:w.heap.size≤gb334));replace HB:=am (je (bq) hb);clear hb hbox hg;have hcz16_0:=bc0 BK334.out;have hfz16_0:=jb BK334.out 0;have p335:0≤(a1:Int):=ozD (uq);have q335:a1<(l0_0.length:Int):=ozD (uq);obtain ⟨ad335,e335,hx335_0,hx335_1,hx335_2,hx335_3,hx335_4⟩:=jlb HR0_0.out a1 p335 q335;cases e335;replace hx335_0:=cb HB.out hx335_0;replace hx335_1:=cb HB.out hx335_1;replace hx335_2:=cb HB.out hx335_2;replace hx335_3:=cb HB.out hx335_3;replace hx335_4:=cb HB.out hx335_4;replace p335:=ezT p335;replace q335:=ezT q335) |((with_reducible refine jD (N:=6) rfl ?_);refine bE (N:=6) (cs:=#[.int .i64 0, .int .i64 0, .int .i64 0, .int .i64 0, .bool false]) (t:=66) ?_;intro gb336 hg w17 hbox hb;have BK336:=am (hbox);have GW336:=am ((Y57:w.heap.size≤gb336));have GE336:=am ((Y57:w.heap.size≤gb336));have NB334_336:=am ((Y114:gb334≠gb336));have NB336_334:=am ((Y115:gb336≠gb334));replace BK334:=am (jc (g:=gb334) (o:=.cells #[.slice (some ad335) l0_0.length c0_0] 28 (0,0)) (kq BK334.out) hb);replace HB:=am (je (Y116) hb);clear hb hbox hg;have hnb18:=NB336_334.out;have hnc18:=NB334_336.out;have hcz19_0:=bc0 BK336.out;have hcz19_1:=bc1 BK336.out;have hcz19_2:=bc2 BK336.out;have hcz19_3:=bc3 BK336.out;have hcz19_4:w17.cell? ⟨gb336,4,none⟩=some (.bool false):=(jH BK336.out 4).trans rfl;have hfz19_0:=jb BK336.out 0;have hfz19_1:=jb BK336.out 1;have hfz19_2:=jb BK336.out 2;have hfz19_3:=jb BK336.out 3;have hfz19_4:=jb BK336.out 4) |((with_reducible refine jw (f:=79) rfl ?_);refine gL (some 19) Tryd.func79 #[.int .i64 ((ja l0_0 a1).f2), .int .i64 (-1), .int .i64 (wrap64 ((l0_0.length:Int) - 1))] ?_;(with_reducible refine (jR.calls ((ja l0_0 a1).f2) (-1) (wrap64 ((l0_0.length:Int) - 1)) true _ A5.out).mono ?_);rintro e w' ⟨rfl,⟨nd,rfl⟩⟩;refine ⟨_,rfl,?_⟩) |(go_at_call 79;(with_reducible refine (jR.calls ((ja l0_0 a1).f3) (-1) (wrap64 ((l0_0.length:Int) - 1)) true _ A7.out).mono ?_);rintro e w' ⟨rfl,⟨nd,rfl⟩⟩))
      go_ret
      exact ⟨Y1,Y117⟩
    ·replace c8:=Bool.eq_false_iff.mpr c8
     subst c8
     have H1:(some false)=some r:=by rw [if_neg (show ¬ (false=true) by decide)] at H;exact H
     clear H
     have H:=H1
     clear H1
     obtain rfl:=Option.some.inj H
     go_enter Tryd.func80,Tryd.ntmps80
     go_wp2_with (first |((with_reducible refine jD (N:=2) rfl ?_);refine bE (N:=2) (cs:=#[.slice A0_0 l0_0.length c0_0]) (t:=28) ?_;intro gb334 hg w20 hbox hb;have BK334:=am (hbox);have GW334:=am ((Y0:w.heap.size≤gb334));have GE334:=am ((Y0:w.heap.size≤gb334));replace HB:=am (je (bq) hb);clear hb hbox hg;have hcz21_0:=bc0 BK334.out;have hfz21_0:=jb BK334.out 0;have p335:0≤(a1:Int):=ozD (uq);have q335:a1<(l0_0.length:Int):=ozD (uq);obtain ⟨ad335,e335,hx335_0,hx335_1,hx335_2,hx335_3,hx335_4⟩:=jlb HR0_0.out a1 p335 q335;cases e335;replace hx335_0:=cb HB.out hx335_0;replace hx335_1:=cb HB.out hx335_1;replace hx335_2:=cb HB.out hx335_2;replace hx335_3:=cb HB.out hx335_3;replace hx335_4:=cb HB.out hx335_4;replace p335:=ezT p335;replace q335:=ezT q335) |((with_reducible refine jD (N:=6) rfl ?_);refine bE (N:=6) (cs:=#[.int .i64 0, .int .i64 0, .int .i64 0, .int .i64 0, .bool false]) (t:=66) ?_;intro gb336 hg w22 hbox hb;have BK336:=am (hbox);have GW336:=am ((Y57:w.heap.size≤gb336));have GE336:=am ((Y57:w.heap.size≤gb336));have NB334_336:=am ((Y114:gb334≠gb336));have NB336_334:=am ((Y115:gb336≠gb334));replace BK334:=am (jc (g:=gb334) (o:=.cells #[.slice (some ad335) l0_0.length c0_0] 28 (0,0)) (kq BK334.out) hb);replace HB:=am (je (Y116) hb);clear hb hbox hg;have hnb23:=NB336_334.out;have hnc23:=NB334_336.out;have hcz24_0:=bc0 BK336.out;have hcz24_1:=bc1 BK336.out;have hcz24_2:=bc2 BK336.out;have hcz24_3:=bc3 BK336.out;have hcz24_4:w22.cell? ⟨gb336,4,none⟩=some (.bool false):=(jH BK336.out 4).trans rfl;have hfz24_0:=jb BK336.out 0;have hfz24_1:=jb BK336.out 1;have hfz24_2:=jb BK336.out 2;have hfz24_3:=jb BK336.out 3;have hfz24_4:=jb BK336.out 4) |((with_reducible refine jw (f:=79) rfl ?_);refine gL (some 19) Tryd.func79 #[.int .i64 ((ja l0_0 a1).f2), .int .i64 (-1), .int .i64 (wrap64 ((l0_0.length:Int) - 1))] ?_;(with_reducible refine (jR.calls ((ja l0_0 a1).f2) (-1) (wrap64 ((l0_0.length:Int) - 1)) true _ A5.out).mono ?_);rintro e w' ⟨rfl,⟨nd,rfl⟩⟩;refine ⟨_,rfl,?_⟩) |(go_at_call 79;(with_reducible refine (jR.calls ((ja l0_0 a1).f3) (-1) (wrap64 ((l0_0.length:Int) - 1)) false _ A7.out).mono ?_);rintro e w' ⟨rfl,⟨nd,rfl⟩⟩))
     go_ret
     exact ⟨Y1,Y117⟩
   ·replace c6:=Bool.eq_false_iff.mpr c6
    subst c6
    have H1:(some false)=some r:=by rw [if_neg (show ¬ (false=true) by decide)] at H;exact H
    clear H
    have H:=H1
    clear H1
    obtain rfl:=Option.some.inj H
    go_enter Tryd.func80,Tryd.ntmps80
    go_wp2_with (first |((with_reducible refine jD (N:=2) rfl ?_);refine bE (N:=2) (cs:=#[.slice A0_0 l0_0.length c0_0]) (t:=28) ?_;intro gb334 hg w25 hbox hb;have BK334:=am (hbox);have GW334:=am ((Y0:w.heap.size≤gb334));have GE334:=am ((Y0:w.heap.size≤gb334));replace HB:=am (je (bq) hb);clear hb hbox hg;have hcz26_0:=bc0 BK334.out;have hfz26_0:=jb BK334.out 0;have p335:0≤(a1:Int):=ozD (uq);have q335:a1<(l0_0.length:Int):=ozD (uq);obtain ⟨ad335,e335,hx335_0,hx335_1,hx335_2,hx335_3,hx335_4⟩:=jlb HR0_0.out a1 p335 q335;cases e335;replace hx335_0:=cb HB.out hx335_0;replace hx335_1:=cb HB.out hx335_1;replace hx335_2:=cb HB.out hx335_2;replace hx335_3:=cb HB.out hx335_3;replace hx335_4:=cb HB.out hx335_4;replace p335:=ezT p335;replace q335:=ezT q335) |((with_reducible refine jD (N:=6) rfl ?_);refine bE (N:=6) (cs:=#[.int .i64 0, .int .i64 0, .int .i64 0, .int .i64 0, .bool false]) (t:=66) ?_;intro gb336 hg w27 hbox hb;have BK336:=am (hbox);have GW336:=am ((Y57:w.heap.size≤gb336));have GE336:=am ((Y57:w.heap.size≤gb336));have NB334_336:=am ((Y114:gb334≠gb336));have NB336_334:=am ((Y115:gb336≠gb334));replace BK334:=am (jc (g:=gb334) (o:=.cells #[.slice (some ad335) l0_0.length c0_0] 28 (0,0)) (kq BK334.out) hb);replace HB:=am (je (Y116) hb);clear hb hbox hg;have hnb28:=NB336_334.out;have hnc28:=NB334_336.out;have hcz29_0:=bc0 BK336.out;have hcz29_1:=bc1 BK336.out;have hcz29_2:=bc2 BK336.out;have hcz29_3:=bc3 BK336.out;have hcz29_4:w27.cell? ⟨gb336,4,none⟩=some (.bool false):=(jH BK336.out 4).trans rfl;have hfz29_0:=jb BK336.out 0;have hfz29_1:=jb BK336.out 1;have hfz29_2:=jb BK336.out 2;have hfz29_3:=jb BK336.out 3;have hfz29_4:=jb BK336.out 4) |((with_reducible refine jw (f:=79) rfl ?_);refine gL (some 19) Tryd.func79 #[.int .i64 ((ja l0_0 a1).f2), .int .i64 (-1), .int .i64 (wrap64 ((l0_0.length:Int) - 1))] ?_;(with_reducible refine (jR.calls ((ja l0_0 a1).f2) (-1) (wrap64 ((l0_0.length:Int) - 1)) false _ A5.out).mono ?_);rintro e w' ⟨rfl,⟨nd,rfl⟩⟩;refine ⟨_,rfl,?_⟩))
    go_ret
    exact ⟨Y1,Y117⟩
  ·rw [if_neg c4] at H
   exact absurd H (by simp)
 ·rw [if_neg c3] at H
  exact absurd H (by simp)
def jFa.l0 : Nat → List Int → Int → Int → Option (Bool)
 | 0,_,_,_=>none
 | k+1,x0,x1,x5=>if x5<(x0.length:Int) then (if 0≤x5 then (if (rd x0 x5)=x1 then (some true) else (jFa.l0 k x0 x1 (wrap64 (x5+1)))) else (none)) else (some false)
def jFa.f (k : Nat) (l0 : List Int) (a1 : Int) : Option (Bool) := jFa.l0 k l0 a1 0
set_option maxHeartbeats 8000000 in
set_option maxRecDepth 100000 in
theorem jFa.calls (k : Nat) (A0 : Option Addr) (c0 : Nat) (l0 : List Int) (a1 : Int) (r : Bool) (w : World) (hr0 : Kd.C (Kd.int .i64) w A0 l0.length l0) (hc0 : l0.length ≤ c0) (h : jFa.f k l0 a1 = some r) :
  Calls Tryd.prog 56 #[.slice A0 l0.length c0, .int .i64 a1] w fun e w'=>e=.returned (.bool r)∧jvb w w':=by
 have HR0:=am hr0
 have HC0:=am hc0
 clear hr0 hc0
 have H:(jFa.l0 k l0 a1 0)=some r:=h
 clear h
 have H':=am H
 clear H
 go_enter Tryd.func56,Tryd.ntmps56
 go_wp2
 go_loopg [5] k (fun kq v5 w'=>∃ (x5_1:Int),v5=.int .i64 x5_1∧jB (jFa.l0 kq l0 a1 x5_1=some r)∧jB (kq≤k)∧jvb w w')
 case atStart=>exact ⟨(0),(sq),H',⟨Nat.le_refl _⟩,Y7⟩
 case round =>
  clear H'
  try clear p2
  obtain ⟨x5_1,rfl,HA,HK1,⟨m1,rfl⟩⟩:=hrel
  cases gk with
  | zero=>exact absurd HA.out (by simp [jFa.l0])
  | succ k1 =>
   have H:=HA.out
   clear HA
   simp only [jFa.l0] at H
   by_cases c3:x5_1<(l0.length:Int)
   ·rw [if_pos c3] at H
    have c3b0:decide (x5_1<(l0.length:Int))=true:=dzT c3
    clear c3
    by_cases c4:0≤x5_1
    ·rw [if_pos c4] at H
     have c4b0:decide (0≤x5_1)=true:=dzT c4
     clear c4
     by_cases c5:(rd l0 x5_1)=a1
     ·rw [if_pos c5] at H
      have c5b0:((rd l0 x5_1) == a1)=true:=beq_iff_eq.mpr c5
      have c5b1:((rd l0 x5_1) != a1)=false:=bne_eq_false_iff_eq.mpr c5
      clear c5
      obtain rfl:=Option.some.inj H
      have p339:0≤(x5_1:Int):=ozD (uq)
      have q339:x5_1<(l0.length:Int):=ozD (uq)
      obtain ⟨ad339,e339,hx339_0⟩:=Kd.jNb HR0.out x5_1 p339 q339
      cases e339
      replace p339:=ezT p339
      replace q339:=ezT q339
      go_wp2
      go_ret
      exact ⟨sq,Y7⟩
     ·rw [if_neg c5] at H
      have c5b0:((rd l0 x5_1) == a1)=false:=beq_eq_false_iff_ne.mpr c5
      have c5b1:((rd l0 x5_1) != a1)=true:=bne_iff_ne.mpr c5
      have H':=am H
      clear H
      have p339:0≤(x5_1:Int):=ozD (uq)
      have q339:x5_1<(l0.length:Int):=ozD (uq)
      obtain ⟨ad339,e339,hx339_0⟩:=Kd.jNb HR0.out x5_1 p339 q339
      cases e339
      replace p339:=ezT p339
      replace q339:=ezT q339
      go_wp2
      go_roundg k1
      case measure=>have:=HK1.out;omega
      case rel=>exact ⟨(wrap64 (x5_1+1)),(sq),H',⟨by have:=HK1.out;omega⟩,Y7⟩
    ·rw [if_neg c4] at H
     exact absurd H (by simp)
   ·rw [if_neg c3] at H
    have c3b0:decide (x5_1<(l0.length:Int))=false:=dzF c3
    clear c3
    obtain rfl:=Option.some.inj H
    go_wp2
    go_ret
    exact ⟨sq,Y7⟩
def jna.l0 : Nat → Int → List Int → List (S66) → Option (List Int)
 | 0,_,_,_=>none
 | k+1,x1,x5,x341000=>if x1≥0 then ((jFa.f k x5 x1).bind fun t344=>(if t344=true then (some x5) else (if x5.length<17592186044416 then (if 0≤x1 then (if x1<(x341000.length:Int) then (jna.l0 k ((ja x341000 x1).f3) (x5 ++ [x1]) x341000) else (none)) else (none)) else (none)))) else (some x5)
def jna.f (k : Nat) (l0_0 : List (S66)) (a1 : Int) : Option (List Int) := jna.l0 k a1 (([] : List Int)) l0_0
set_option maxHeartbeats 8000000 in
set_option maxRecDepth 100000 in
theorem jna.calls (k : Nat) (A0_0 : Option Addr) (c0_0 : Nat) (l0_0 : List (S66)) (a1 : Int) (r : List Int) (w : World) (hr0_0 : Kd.C k66 w A0_0 l0_0.length l0_0) (hc0_0 : l0_0.length ≤ c0_0) (h : jna.f k l0_0 a1 = some r) :
  Calls Tryd.prog 81 #[.agg #[.slice A0_0 l0_0.length c0_0], .int .i64 a1] w fun e w'=>∃ v0_:Value,e=.returned (v0_)∧Kd.R (Kd.int .i64) 3 w' w.heap.size (fun _=>True) v0_ r∧Below w.heap.size w w':=by
 have hu28:=Tryd.underlying28
 have HR0_0:=am hr0_0
 have HC0_0:=am hc0_0
 clear hr0_0 hc0_0
 have HB:=am (Below.refl w.heap.size w)
 have H:(jna.l0 k a1 (([]:List Int)) l0_0)=some r:=h
 clear h
 obtain ⟨y341,hy341⟩:∃ y_:List Int,y_=(([]:List Int)):=⟨_,rfl⟩
 replace H:(jna.l0 k a1 y341 l0_0)=some r:=by first |(rw [hy341];with_reducible exact H) |(have H2_:=(Option.bind_some _ _).symm.trans H;rw [hy341];with_reducible exact H2_) |(have H2_:=(Option.bind_some _ _).symm.trans H;with_reducible exact H2_) | with_reducible exact H |(rw [hy341];exact H) | exact H
 have Ny341:=am hy341
 clear hy341
 have H':=am H
 clear H
 go_enter Tryd.func81,Tryd.ntmps81
 go_wp2_with (first |((with_reducible refine jD (N:=2) rfl ?_);refine bE (N:=2) (cs:=#[.slice A0_0 l0_0.length c0_0]) (t:=28) ?_;intro gb340 hg w3 hbox hb;have BK340:=am (hbox);have GW340:=am ((Y0:w.heap.size≤gb340));have GE340:=am ((Y0:w.heap.size≤gb340));replace HB:=am (je (bq) hb);clear hb hbox hg) |((with_reducible refine jD (N:=6) rfl ?_);refine Kd.R_lit (Kd.int .i64) _ 3 ?hg (N:=6) ?hd (xs:=([]:List Int)) (inner:=[]) (ok:=fun _=>True) (okp:=fun _=>True) ?hr ?hp (fun _ hk=>hk) trivial (Below.refl _ _) (Nat.le_refl _) (by simp) ?_;(case hd=>rfl);(case hg=>rfl);(case hr=>exact Y4);(case hp=>exact (Reps.none _ _));intro v342 w4 ho5 hb hg_ hnew_;clear hg_ hnew_;(first | rw [← Ny341.out] at ho5 |(simp only [Int.reduceToNat] at ho5;rw [← Ny341.out] at ho5));have HO343:=am (Kd.jia ho5 (jM (Y58)));replace BK340:=am (jc (g:=gb340) (o:=.cells #[.slice A0_0 l0_0.length c0_0] 28 (0,0)) (kq BK340.out) hb);replace HB:=am (je (Y58) hb);clear hb ho5))
 go_loopg [1,5] k (fun kq v1 v5 w'=>∃ (x1_1:Int) (x5_1:List Int),v1=.int .i64 x1_1∧jB (jna.l0 kq x1_1 x5_1 l0_0=some r)∧jB (kq≤k)∧jB (Kd.R (Kd.int .i64) 3 w' w.heap.size (fun _=>True) v5 x5_1)∧jB (w'.heap[gb340]?=some (.cells #[(.slice A0_0 l0_0.length c0_0)] 28 (0,0)))∧jB (Below w.heap.size w w'))
 case atStart=>exact ⟨(a1),(y341),(sq),H',⟨Nat.le_refl _⟩,⟨rq HO343.out⟩,⟨kq BK340.out⟩,⟨Y58⟩⟩
 case round =>
  clear H'
  try clear p2
  obtain ⟨x1_1,x5_1,rfl,HA,HK1,HO_5,BK340,HB⟩:=hrel
  cases gk with
  | zero=>exact absurd HA.out (by simp [jna.l0])
  | succ k1 =>
   have H:=HA.out
   clear HA
   simp only [jna.l0] at H
   by_cases c6:x1_1≥0
   ·rw [if_pos c6] at H
    have c6b0:decide (0≤x1_1)=true:=dzT c6
    clear c6
    replace H:=bzS H
    obtain ⟨t344,A70,H⟩:=H
    replace H:(if t344=true then (some x5_1) else (if x5_1.length<17592186044416 then (if 0≤x1_1 then (if x1_1<(l0_0.length:Int) then (jna.l0 k1 ((ja l0_0 x1_1).f3) (x5_1 ++ [x1_1]) l0_0) else (none)) else (none)) else (none)))=some r:=H
    have A7:=am A70
    clear A70
    by_cases c8:t344=true
    ·subst c8
     have H1:(some x5_1)=some r:=by rw [if_pos rfl] at H;exact H
     clear H
     have H:=H1
     clear H1
     obtain rfl:=Option.some.inj H
     obtain ⟨Ao9,co9,eo9⟩:=Kd.jZ HO_5.out
     subst eo9
     go_wp2_with (first |(go_at_call 56;(with_reducible refine (jFa.calls k1 _ _ x5_1 x1_1 true _ ?side1 ?side2 A7.out).mono ?_);(case side1=>exact cq (Kd.jC HO_5.out).2.2);(case side2=>exact (Kd.jC HO_5.out).2.1);rintro e w' ⟨rfl,⟨nd,rfl⟩⟩))
     go_ret
     exact ⟨_,Y1,rq HO_5.out,Y58⟩
    ·replace c8:=Bool.eq_false_iff.mpr c8
     subst c8
     have H1:(if x5_1.length<17592186044416 then (if 0≤x1_1 then (if x1_1<(l0_0.length:Int) then (jna.l0 k1 ((ja l0_0 x1_1).f3) (x5_1 ++ [x1_1]) l0_0) else (none)) else (none)) else (none))=some r:=by rw [if_neg (show ¬ (false=true) by decide)] at H;exact H
     clear H
     have H:=H1
     clear H1
     by_cases c10:x5_1.length<17592186044416
     ·rw [if_pos c10] at H
      have LMc10:=am c10
      clear c10
      obtain ⟨y345,hy345⟩:∃ y_:List Int,y_=(x5_1 ++ [x1_1]):=⟨_,rfl⟩
      replace H:(if 0≤x1_1 then (if x1_1<(l0_0.length:Int) then (jna.l0 k1 ((ja l0_0 x1_1).f3) y345 l0_0) else (none)) else (none))=some r:=by first |(rw [hy345];with_reducible exact H) |(have H2_:=(Option.bind_some _ _).symm.trans H;rw [hy345];with_reducible exact H2_) |(have H2_:=(Option.bind_some _ _).symm.trans H;with_reducible exact H2_) | with_reducible exact H |(rw [hy345];exact H) | exact H
      have Ny345:=am hy345
      clear hy345
      by_cases c11:0≤x1_1
      ·rw [if_pos c11] at H
       have c11b0:decide (0≤x1_1)=true:=dzT c11
       clear c11
       by_cases c12:x1_1<(l0_0.length:Int)
       ·rw [if_pos c12] at H
        have c12b0:decide (x1_1<(l0_0.length:Int))=true:=dzT c12
        clear c12
        have H':=am H
        clear H
        obtain ⟨Ao13,co13,eo13⟩:=Kd.jZ HO_5.out
        subst eo13
        go_wp2_with (first |(go_at_call 56;(with_reducible refine (jFa.calls k1 _ _ x5_1 x1_1 false _ ?side1 ?side2 A7.out).mono ?_);(case side1=>exact cq (Kd.jC HO_5.out).2.2);(case side2=>exact (Kd.jC HO_5.out).2.1);rintro e w' ⟨rfl,⟨nd,rfl⟩⟩) |((with_reducible refine jHb (b:=.append) (xs:=#[.tmp 15, .tmp 17]) rfl ?_);at_builtin;refine Kd.R_append (Kd.int .i64) (w0:=w) w.heap.size rfl (.tmp 15) (.tmp 17) 32 3 (.int .i64 0) 8 rfl Tryd.underlying32 info3 rfl (by decide) (by omega) (.slice Ao13 x5_1.length co13) x5_1 x1_1 [.int .i64 x1_1] (fun _=>True) (fun _=>False) rfl rfl ?aP (fun _ hk=>hk.elim) ?aF ?aO ?aB ?aS ?aL ?_;(case aP=>exact rfl);(case aB=>exact (Y58));(case aF=>exact (fun _ _=>trivial));(case aO=>exact (rq HO_5.out));(case aS=>exact (jM (Y58)));(case aL=>have:=LMc10.out;omega);intro v346 w14 ho hb hg hat;rw [← Ny345.out] at ho;have n0_:=am (jKa (g:=gb340) (o:=.cells #[.slice A0_0 l0_0.length c0_0] 28 (0,0)) (kq BK340.out) hg (Kd.R_ne HO_5.out BK340.out (by decide)));have n1_:=am (hb);have n2_:=am (ho);clear BK340 HB HO_5;have BK340:=n0_;have HB:=n1_;have HO347:=n2_;clear n0_ n1_ n2_ ho hb hg hat;have hcz15_0:=bc0 BK340.out;have hfz15_0:=jb BK340.out 0;have p348:0≤(x1_1:Int):=ozD (uq);have q348:x1_1<(l0_0.length:Int):=ozD (uq);obtain ⟨ad348,e348,hx348_0,hx348_1,hx348_2,hx348_3,hx348_4⟩:=jlb HR0_0.out x1_1 p348 q348;cases e348;replace hx348_0:=cb HB.out hx348_0;replace hx348_1:=cb HB.out hx348_1;replace hx348_2:=cb HB.out hx348_2;replace hx348_3:=cb HB.out hx348_3;replace hx348_4:=cb HB.out hx348_4;replace p348:=ezT p348;replace q348:=ezT q348))
        go_roundg k1
        case measure=>have:=HK1.out;omega
        case rel=>exact ⟨((ja l0_0 x1_1).f3),(y345),(sq),H',⟨by have:=HK1.out;omega⟩,⟨rq HO347.out⟩,⟨kq BK340.out⟩,⟨Y58⟩⟩
       ·rw [if_neg c12] at H
        exact absurd H (by simp)
      ·rw [if_neg c11] at H
       exact absurd H (by simp)
     ·rw [if_neg c10] at H
      exact absurd H (by simp)
   ·rw [if_neg c6] at H
    have c6b0:decide (0≤x1_1)=false:=dzF c6
    clear c6
    obtain rfl:=Option.some.inj H
    go_wp2
    go_ret
    exact ⟨_,Y1,rq HO_5.out,Y58⟩
def jBa.l0 : Nat → ByteArray → Int → Option (Bool)
 | 0,_,_=>none
 | k+1,x0,x3=>if x3<(x0.size:Int) then (if 0≤x3 then (if (bt x0 x3)<97 then (some false) else (if (bt x0 x3) > 122 then (some false) else (jBa.l0 k x0 (wrap64 (x3+1))))) else (none)) else ((jR.f (x0.size:Int) 1 6).bind fun t349=>(some t349))
def jBa.f (k : Nat) (a0 : ByteArray) : Option (Bool) := jBa.l0 k a0 0
set_option maxHeartbeats 8000000 in
set_option maxRecDepth 100000 in
theorem jBa.calls (k : Nat) (a0 : ByteArray) (r : Bool) (w : World) (h : jBa.f k a0 = some r) :
  Calls Tryd.prog 93 #[.string a0] w fun e w'=>e=.returned (.bool r)∧jvb w w':=by
 have H:(jBa.l0 k a0 0)=some r:=h
 clear h
 have H':=am H
 clear H
 go_enter Tryd.func93,Tryd.ntmps93
 go_wp2
 go_loopg [3] k (fun kq v3 w'=>∃ (x3_1:Int),v3=.int .i64 x3_1∧jB (jBa.l0 kq a0 x3_1=some r)∧jB (kq≤k)∧jvb w w')
 case atStart=>exact ⟨(0),(sq),H',⟨Nat.le_refl _⟩,Y7⟩
 case round =>
  clear H'
  obtain ⟨x3_1,rfl,HA,HK1,⟨m1,rfl⟩⟩:=hrel
  cases gk with
  | zero=>exact absurd HA.out (by simp [jBa.l0])
  | succ k1 =>
   have H:=HA.out
   clear HA
   simp only [jBa.l0] at H
   by_cases c2:x3_1<(a0.size:Int)
   ·rw [if_pos c2] at H
    have c2b0:decide (x3_1<(a0.size:Int))=true:=dzT c2
    clear c2
    by_cases c3:0≤x3_1
    ·rw [if_pos c3] at H
     have c3b0:decide (0≤x3_1)=true:=dzT c3
     clear c3
     by_cases c5:(bt a0 x3_1)<97
     ·rw [if_pos c5] at H
      have c5b0:decide ((bt a0 x3_1)<97)=true:=dzT c5
      clear c5
      obtain rfl:=Option.some.inj H
      have p4:0≤(x3_1:Int):=ozD (uq)
      have q4:x3_1<(a0.size:Int):=ozD (uq)
      have hx4:=bt_at a0 x3_1
      replace p4:=ezT p4
      replace q4:=ezT q4
      go_wp2
      go_ret
      exact ⟨sq,Y7⟩
     ·rw [if_neg c5] at H
      have c5b0:decide ((bt a0 x3_1)<97)=false:=dzF c5
      clear c5
      by_cases c7:(bt a0 x3_1) > 122
      ·rw [if_pos c7] at H
       have c7b0:decide (122<(bt a0 x3_1))=true:=dzT c7
       clear c7
       obtain rfl:=Option.some.inj H
       have p4:0≤(x3_1:Int):=ozD (uq)
       have q4:x3_1<(a0.size:Int):=ozD (uq)
       have hx4:=bt_at a0 x3_1
       replace p4:=ezT p4
       replace q4:=ezT q4
       have p6:0≤(x3_1:Int):=ozD (uq)
       have q6:x3_1<(a0.size:Int):=ozD (uq)
       have hx6:=bt_at a0 x3_1
       replace p6:=ezT p6
       replace q6:=ezT q6
       go_wp2
       go_ret
       exact ⟨sq,Y7⟩
      ·rw [if_neg c7] at H
       have c7b0:decide (122<(bt a0 x3_1))=false:=dzF c7
       clear c7
       have H':=am H
       clear H
       have p4:0≤(x3_1:Int):=ozD (uq)
       have q4:x3_1<(a0.size:Int):=ozD (uq)
       have hx4:=bt_at a0 x3_1
       replace p4:=ezT p4
       replace q4:=ezT q4
       have p6:0≤(x3_1:Int):=ozD (uq)
       have q6:x3_1<(a0.size:Int):=ozD (uq)
       have hx6:=bt_at a0 x3_1
       replace p6:=ezT p6
       replace q6:=ezT q6
       go_wp2
       go_roundg k1
       case measure=>have:=HK1.out;omega
       case rel=>exact ⟨(wrap64 (x3_1+1)),(sq),H',⟨by have:=HK1.out;omega⟩,Y7⟩
    ·rw [if_neg c3] at H
     exact absurd H (by simp)
   ·rw [if_neg c2] at H
    have c2b0:decide (x3_1<(a0.size:Int))=false:=dzF c2
    clear c2
    replace H:=bzS H
    obtain ⟨t349,A80,H⟩:=H
    replace H:(some t349)=some r:=H
    have A8:=am A80
    clear A80
    obtain rfl:=Option.some.inj H
    go_wp2_with (first |((with_reducible refine jw (f:=79) rfl ?_);refine gL (some 22) Tryd.func79 #[.int .i64 (a0.size:Int), .int .i64 1, .int .i64 6] ?_;(with_reducible refine (jR.calls (a0.size:Int) 1 6 t349 _ A8.out).mono ?_);rintro e w' ⟨rfl,⟨nd,rfl⟩⟩;refine ⟨_,rfl,?_⟩))
    go_ret
    exact ⟨sq,Y7⟩
def jxa.l0 : Nat → List (S99) → ByteArray → Int → Option (Int)
 | 0,_,_,_=>none
 | k+1,x0,x1,x5=>if x5<(x0.length:Int) then (if 0≤x5 then (if ((jL x0 x5).f0).toList=x1.toList then (some x5) else (jxa.l0 k x0 x1 (wrap64 (x5+1)))) else (none)) else (some (-1))
def jxa.f (k : Nat) (l0 : List (S99)) (a1 : ByteArray) : Option (Int) := jxa.l0 k l0 a1 0
set_option maxHeartbeats 8000000 in
set_option maxRecDepth 100000 in
theorem jxa.calls (k : Nat) (A0 : Option Addr) (c0 : Nat) (l0 : List (S99)) (a1 : ByteArray) (r : Int) (w : World) (hr0 : Kd.C k99 w A0 l0.length l0) (hc0 : l0.length ≤ c0) (h : jxa.f k l0 a1 = some r) :
  Calls Tryd.prog 94 #[.slice A0 l0.length c0, .string a1] w fun e w'=>e=.returned (.int .i64 r)∧jvb w w':=by
 have HR0:=am hr0
 have HC0:=am hc0
 clear hr0 hc0
 have H:(jxa.l0 k l0 a1 0)=some r:=h
 clear h
 have H':=am H
 clear H
 go_enter Tryd.func94,Tryd.ntmps94
 go_wp2
 go_loopg [5] k (fun kq v5 w'=>∃ (x5_1:Int),v5=.int .i64 x5_1∧jB (jxa.l0 kq l0 a1 x5_1=some r)∧jB (kq≤k)∧jvb w w')
 case atStart=>exact ⟨(0),(sq),H',⟨Nat.le_refl _⟩,Y7⟩
 case round =>
  clear H'
  try clear p2
  obtain ⟨x5_1,rfl,HA,HK1,⟨m1,rfl⟩⟩:=hrel
  cases gk with
  | zero=>exact absurd HA.out (by simp [jxa.l0])
  | succ k1 =>
   have H:=HA.out
   clear HA
   simp only [jxa.l0] at H
   by_cases c3:x5_1<(l0.length:Int)
   ·rw [if_pos c3] at H
    have c3b0:decide (x5_1<(l0.length:Int))=true:=dzT c3
    clear c3
    by_cases c4:0≤x5_1
    ·rw [if_pos c4] at H
     have c4b0:decide (0≤x5_1)=true:=dzT c4
     clear c4
     by_cases c5:((jL l0 x5_1).f0).toList=a1.toList
     ·rw [if_pos c5] at H
      have c5b0:(((jL l0 x5_1).f0).toList == a1.toList)=true:=beq_iff_eq.mpr c5
      have c5b1:(((jL l0 x5_1).f0).toList != a1.toList)=false:=bne_eq_false_iff_eq.mpr c5
      clear c5
      obtain rfl:=Option.some.inj H
      have p350:0≤(x5_1:Int):=ozD (uq)
      have q350:x5_1<(l0.length:Int):=ozD (uq)
      obtain ⟨ad350,e350,hx350_0,hx350_1⟩:=at_T99 HR0.out x5_1 p350 q350
      cases e350
      replace p350:=ezT p350
      replace q350:=ezT q350
      go_wp2
      go_ret
      exact ⟨sq,Y7⟩
     ·rw [if_neg c5] at H
      have c5b0:(((jL l0 x5_1).f0).toList == a1.toList)=false:=beq_eq_false_iff_ne.mpr c5
      have c5b1:(((jL l0 x5_1).f0).toList != a1.toList)=true:=bne_iff_ne.mpr c5
      have H':=am H
      clear H
      have p350:0≤(x5_1:Int):=ozD (uq)
      have q350:x5_1<(l0.length:Int):=ozD (uq)
      obtain ⟨ad350,e350,hx350_0,hx350_1⟩:=at_T99 HR0.out x5_1 p350 q350
      cases e350
      replace p350:=ezT p350
      replace q350:=ezT q350
      go_wp2
      go_roundg k1
      case measure=>have:=HK1.out;omega
      case rel=>exact ⟨(wrap64 (x5_1+1)),(sq),H',⟨by have:=HK1.out;omega⟩,Y7⟩
    ·rw [if_neg c4] at H
     exact absurd H (by simp)
   ·rw [if_neg c3] at H
    have c3b0:decide (x5_1<(l0.length:Int))=false:=dzF c3
    clear c3
    obtain rfl:=Option.some.inj H
    go_wp2
    go_ret
    exact ⟨sq,Y7⟩
mutual
def jK.l0 : Nat → Int → List (S99) → Option (Bool)
 | 0,_,_=>none
 | k+1,x3,x155000=>if x3<(x155000.length:Int) then (if 0≤x3 then ((jBa.f k ((jL x155000 x3).f0)).bind fun t158=>(if t158=true then (if x3≤(x155000.length:Int) then ((jxa.f k (x155000.take (x3:Int).toNat) ((jL x155000 x3).f0)).bind fun t163=>(if t163≥0 then (jK.j1 k x3 true x155000) else (if x3=0 then (if ((jL x155000 x3).f1)=(-1) then (if x3 > 0 then ((jR.f ((jL x155000 x3).f1) 0 (wrap64 (x3 - 1))).bind fun t164=>(jK.j1 k x3 (!t164) x155000)) else (jK.j1 k x3 false x155000)) else (jK.j1 k x3 true x155000)) else (if x3 > 0 then ((jR.f ((jL x155000 x3).f1) 0 (wrap64 (x3 - 1))).bind fun t165=>(jK.j1 k x3 (!t165) x155000)) else (jK.j1 k x3 false x155000))))) else (none)) else (jK.j1 k x3 true x155000))) else (none)) else ((jR.f (x155000.length:Int) 1 8).bind fun t155=>(some t155))
def jK.j1 : Nat → Int → Bool → List (S99) → Option (Bool)
 | 0,_,_,_=>none
 | k+1,x3,x51,x155000=>if x51=true then (some false) else (jK.l0 k (wrap64 (x3+1)) x155000)
end
def jK.f (k : Nat) (l0_0 : List (S99)) : Option (Bool) := jK.l0 k 0 l0_0
set_option maxHeartbeats 8000000 in
set_option maxRecDepth 100000 in
theorem jK.calls (k : Nat) (A0_0 : Option Addr) (c0_0 : Nat) (l0_0 : List (S99)) (r : Bool) (w : World) (hr0_0 : Kd.C k99 w A0_0 l0_0.length l0_0) (hc0_0 : l0_0.length ≤ c0_0) (h : jK.f k l0_0 = some r) :
  Calls Tryd.prog 82 #[.agg #[.slice A0_0 l0_0.length c0_0]] w fun e w'=>e=.returned (.bool r)∧Below w.heap.size w w':=by
 have hu25:=Tryd.underlying25
 have hu99:=Tryd.underlying99
 have HR0_0:=am hr0_0
 have HC0_0:=am hc0_0
 clear hr0_0 hc0_0
 have HB:=am (Below.refl w.heap.size w)
 have H:(jK.l0 k 0 l0_0)=some r:=h
 clear h
 have H':=am H
 clear H
 go_enter Tryd.func82,Tryd.ntmps82
 go_wp2_with (first |((with_reducible refine jD (N:=1) rfl ?_);refine bE (N:=1) (cs:=#[.slice A0_0 l0_0.length c0_0]) (t:=25) ?_;intro gb154 hg w2 hbox hb;have BK154:=am (hbox);have GW154:=am ((Y0:w.heap.size≤gb154));have GE154:=am ((Y0:w.heap.size≤gb154));replace HB:=am (je (bq) hb);clear hb hbox hg))
 go_loopg [3] k (fun kq v3 w'=>∃ (x3_1:Int),v3=.int .i64 x3_1∧jB (jK.l0 kq x3_1 l0_0=some r)∧jB (kq≤k)∧jB (w'.heap[gb154]?=some (.cells #[(.slice A0_0 l0_0.length c0_0)] 25 (0,0)))∧jB (Below w.heap.size w w'))
 case atStart=>exact ⟨(0),(sq),H',⟨Nat.le_refl _⟩,⟨kq BK154.out⟩,⟨Y139⟩⟩
 case round =>
  clear H'
  try clear c1
  try clear p2
  obtain ⟨x3_1,rfl,HA,HK1,BK154,HB⟩:=hrel
  cases gk with
  | zero=>exact absurd HA.out (by simp [jK.l0])
  | succ k1 =>
   have H:=HA.out
   clear HA
   simp only [jK.l0] at H
   by_cases c3:x3_1<(l0_0.length:Int)
   ·rw [if_pos c3] at H
    have c3b0:decide (x3_1<(l0_0.length:Int))=true:=dzT c3
    clear c3
    by_cases c4:0≤x3_1
    ·rw [if_pos c4] at H
     have c4b0:decide (0≤x3_1)=true:=dzT c4
     clear c4
     have HC5:=am H
     clear H
     have hcz6_0:=bc0 BK154.out
     have hfz6_0:=jb BK154.out 0
     have p156:0≤(x3_1:Int):=ozD (uq)
     have q156:x3_1<(l0_0.length:Int):=ozD (uq)
     obtain ⟨ad156,e156,hx156_0,hx156_1⟩:=at_T99 HR0_0.out x3_1 p156 q156
     cases e156
     replace hx156_0:=cb HB.out hx156_0
     replace hx156_1:=cb HB.out hx156_1
     replace p156:=ezT p156
     replace q156:=ezT q156
     go_upto_region 5 with (first |((with_reducible refine jD (N:=4) rfl ?_);refine bE (N:=4) (cs:=#[.string (⟨#[]⟩:ByteArray), .int .i64 0]) (t:=99) ?_;intro gb157 hg w7 hbox hb;have BK157:=am (hbox);have GW157:=am ((Y177:w.heap.size≤gb157));have GE157:=am ((Y177:w.heap.size≤gb157));have NB154_157:=am ((by rw [hg];exact Nat.ne_of_lt (jda (g:=gb154) (o:=.cells #[.slice (some ad156) l0_0.length c0_0] 25 (0,0)) (kq BK154.out)):gb154≠gb157));have NB157_154:=am ((by rw [hg];exact Nat.ne_of_gt (jda (g:=gb154) (o:=.cells #[.slice (some ad156) l0_0.length c0_0] 25 (0,0)) (kq BK154.out)):gb157≠gb154));replace BK154:=am (jc (g:=gb154) (o:=.cells #[.slice (some ad156) l0_0.length c0_0] 25 (0,0)) (kq BK154.out) hb);replace HB:=am (je (Y139) hb);clear hb hbox hg;have hnb8:=NB157_154.out;have hnc8:=NB154_157.out;have hcz9_0:=bc0 BK157.out;have hcz9_1:=bc1 BK157.out;have hfz9_0:=jb BK157.out 0;have hfz9_1:=jb BK157.out 1))
     (try simp only [Act.put,List.setIfInBounds_toArray,List.set_cons_zero,List.set_cons_succ])
     go_cut [51] (fun v51 wc=>∃ (kq:Nat) (x51_4:Bool),v51=.bool x51_4∧jB (jK.j1 kq x3_1 x51_4 l0_0=some r)∧jB (kq≤k1)∧jB (wc.heap[gb154]?=some (.cells #[(.slice (some ad156) l0_0.length c0_0)] 25 (0,0)))∧jB (wc.heap[gb157]?=some (.cells #[.string ((jL l0_0 x3_1).f0), .int .i64 ((jL l0_0 x3_1).f1)] 99 (0,0)))∧jB (Below w.heap.size w wc))
     case first =>
      have n0_:jB (((w7.setCell ⟨gb157,0,none⟩ (.string ((jL l0_0 x3_1).f0))).setCell ⟨gb157,1,none⟩ (.int .i64 ((jL l0_0 x3_1).f1))).heap[gb154]?=some (.cells #[.slice (some ad156) l0_0.length c0_0] 25 (0,0))):=⟨by (with_reducible repeat (first | refine jg ?_ _ | refine jf ?_ | refine jh ?_ _));refine jT ?_ NB154_157.out _;(with_reducible repeat (first | refine jg ?_ _ | refine jf ?_ | refine jh ?_ _));refine jT ?_ NB154_157.out _;(with_reducible repeat (first | refine jg ?_ _ | refine jf ?_ | refine jh ?_ _));exact BK154.out⟩
      have n1_:jB (((w7.setCell ⟨gb157,0,none⟩ (.string ((jL l0_0 x3_1).f0))).setCell ⟨gb157,1,none⟩ (.int .i64 ((jL l0_0 x3_1).f1))).heap[gb157]?=some (.cells #[.string ((jL l0_0 x3_1).f0), .int .i64 ((jL l0_0 x3_1).f1)] 99 (0,0))):=⟨by (with_reducible repeat (first | refine jg ?_ _ | refine jf ?_ | refine jh ?_ _));refine jya (cs:=#[.string ((jL l0_0 x3_1).f0), .int .i64 0]) ?_ 1 _ rfl;(with_reducible repeat (first | refine jg ?_ _ | refine jf ?_ | refine jh ?_ _));refine jya (cs:=#[.string (⟨#[]⟩:ByteArray), .int .i64 0]) ?_ 0 _ rfl;(with_reducible repeat (first | refine jg ?_ _ | refine jf ?_ | refine jh ?_ _));exact BK157.out⟩
      have n2_:jB (Below w.heap.size w ((w7.setCell ⟨gb157,0,none⟩ (.string ((jL l0_0 x3_1).f0))).setCell ⟨gb157,1,none⟩ (.int .i64 ((jL l0_0 x3_1).f1)))):=⟨Y140⟩
      clear BK154 BK157 HB hcz9_0 hcz9_1 hfz9_0 hfz9_1
      generalize ((w7.setCell ⟨gb157,0,none⟩ (.string ((jL l0_0 x3_1).f0))).setCell ⟨gb157,1,none⟩ (.int .i64 ((jL l0_0 x3_1).f1)))=w16 at n0_ n1_ n2_ ⊢
      have BK154:=n0_
      have BK157:=n1_
      have HB:=n2_
      clear n0_ n1_ n2_
      have HRW:=am (Kd.jU HR0_0.out HB.out)
      have e0:w16.cell? ⟨gb157,0,none⟩=some (.string ((jL l0_0 x3_1).f0)):=(jH BK157.out 0).trans rfl
      have e1:w16.cell? ⟨gb157,1,none⟩=some (.int .i64 ((jL l0_0 x3_1).f1)):=(jH BK157.out 1).trans rfl
      have e2:w16.cell? ⟨gb154,0,none⟩=some (.slice (some ad156) l0_0.length c0_0):=(jH BK154.out 0).trans rfl
      have H:=HC5.out
      clear HC5
      obtain ⟨v,hv,H⟩:=bzS H
      have HN:=am (fun W=>(jBa.calls k1 _ v W hv).mono fun e w' h=>(⟨h.1,h.2.out⟩:e=.returned (.bool v)∧∃ m,w'=W.drewN m))
      clear hv hx156_0 hx156_1
      generalize hgx:jL l0_0 x3_1=x at H e0 e1 HN BK157
      have HGX:=am hgx
      clear hgx
      cases v with
      | false =>
       have H':=am (show jK.j1 k1 x3_1 true l0_0=some r from H)
       clear H
       go_big_quiet ((go_at_call 93;exact Calls.quiet_of (HN.out _)))
       go_wp2
       go_meet
       case rel=>exact ⟨_,_,rfl,H',⟨by have:=HK1.out;omega⟩,⟨jg BK154.out _⟩,⟨by rw [HGX.out];exact jg BK157.out _⟩,⟨jo HB.out _⟩⟩
      | true =>
       replace H:(if x3_1≤(l0_0.length:Int) then ((jxa.f k1 (l0_0.take (x3_1:Int).toNat) x.f0).bind fun t163=>(if t163≥0 then (jK.j1 k1 x3_1 true l0_0) else (if x3_1=0 then (if x.f1=(-1) then (if x3_1 > 0 then ((jR.f x.f1 0 (wrap64 (x3_1 - 1))).bind fun t164=>(jK.j1 k1 x3_1 (!t164) l0_0)) else (jK.j1 k1 x3_1 false l0_0)) else (jK.j1 k1 x3_1 true l0_0)) else (if x3_1 > 0 then ((jR.f x.f1 0 (wrap64 (x3_1 - 1))).bind fun t165=>(jK.j1 k1 x3_1 (!t165) l0_0)) else (jK.j1 k1 x3_1 false l0_0))))) else (none))=some r:=H
       have hle:x3_1≤(l0_0.length:Int):=by have:=ozD c3b0;omega
       have h0:0≤x3_1:=ozD c4b0
       rw [if_pos hle] at H
       obtain ⟨c,hc,H⟩:=bzS H
       obtain ⟨i0,hi0,_,_,_⟩:=info_parts info99
       have hcut:=cut_to (P:=Tryd.prog) 23 99 .i64 Tryd.underlying23 hi0 (some ad156) l0_0.length c0_0 x3_1 h0 hle HC0_0.out
       have hr18:=Kd.C_take (m:=(x3_1:Int).toNat) HRW.out (by omega)
       obtain ⟨y,hy⟩:∃ y:List S99,y=l0_0.take (x3_1:Int).toNat:=⟨_,rfl⟩
       have hyl:y.length=(x3_1:Int).toNat:=by rw [hy,List.length_take];omega
       have hyc:y.length≤c0_0:=by have:=HC0_0.out;omega
       rw [← hy] at hr18
       rw [← hyl] at hcut
       rw [← hy] at hc
       have HCN:=am (fun m=>(jxa.calls k1 _ _ y x.f0 c (w16.drewN m) (Kd.C_drewN hr18 m) hyc hc).mono fun e w' h=>(⟨h.1,h.2.out⟩:e=.returned (.int .i64 c)∧∃ m',w'=(w16.drewN m).drewN m'))
       clear hr18 hc hy hyl hyc
       have b0:=ezT h0
       have b1:=ezT hle
       by_cases hc0:c≥0
       ·rw [if_pos hc0] at H
        have b2:decide (0≤c)=true:=dzT hc0
        have H':=am H
        clear H hc0 h0 hle
        go_big_quiet (first |(go_at_call 93;exact Calls.quiet_of (HN.out _)) |(go_at_call 94;exact Calls.quiet_of (HCN.out _)))
        go_wp2
        go_meet
        case rel=>exact ⟨_,_,rfl,H',⟨by have:=HK1.out;omega⟩,⟨jg BK154.out _⟩,⟨by rw [HGX.out];exact jg BK157.out _⟩,⟨jo HB.out _⟩⟩
       ·rw [if_neg hc0] at H
        have b2:decide (0≤c)=false:=dzF hc0
        clear hc0
        by_cases hz:x3_1=0
        ·rw [if_pos hz] at H
         have b3:(x3_1 == 0)=true:=beq_iff_eq.2 hz
         have b4:decide (0<x3_1)=false:=dzF (by omega)
         by_cases hf:x.f1 = -1
         ·rw [if_pos hf,if_neg (by omega)] at H
          have b5:(x.f1 != -1)=false:=by simpa using hf
          have H':=am H
          clear H hf h0 hle hz
          go_big_quiet (first |(go_at_call 93;exact Calls.quiet_of (HN.out _)) |(go_at_call 94;exact Calls.quiet_of (HCN.out _)))
          go_wp2
          go_meet
          case rel=>exact ⟨_,_,rfl,H',⟨by have:=HK1.out;omega⟩,⟨jg BK154.out _⟩,⟨by rw [HGX.out];exact jg BK157.out _⟩,⟨jo HB.out _⟩⟩
         ·rw [if_neg hf] at H
          have b5:(x.f1 != -1)=true:=by simpa using hf
          have H':=am H
          clear H hf h0 hle hz
          go_big_quiet (first |(go_at_call 93;exact Calls.quiet_of (HN.out _)) |(go_at_call 94;exact Calls.quiet_of (HCN.out _)))
          go_wp2
          go_meet
          case rel=>exact ⟨_,_,rfl,H',⟨by have:=HK1.out;omega⟩,⟨jg BK154.out _⟩,⟨by rw [HGX.out];exact jg BK157.out _⟩,⟨jo HB.out _⟩⟩
        ·rw [if_neg hz,if_pos (by omega)] at H
         have b3:(x3_1 == 0)=false:=beq_eq_false_iff_ne.2 hz
         have b4:decide (0<x3_1)=true:=dzT (by omega)
         obtain ⟨t,ht,H⟩:=bzS H
         have H':=am H
         have HI:=am (fun W=>(jR.calls _ _ _ t W ht).mono fun e w' h=>(⟨h.1,h.2.out⟩:e=.returned (.bool t)∧∃ m,w'=W.drewN m))
         clear H ht h0 hle hz
         go_big_quiet (first |(go_at_call 93;exact Calls.quiet_of (HN.out _)) |(go_at_call 94;exact Calls.quiet_of (HCN.out _)) |(go_at_call 79;exact Calls.quiet_of (HI.out _)))
         go_wp2
         go_meet
         case rel=>exact ⟨_,_,rfl,H',⟨by have:=HK1.out;omega⟩,⟨jg BK154.out _⟩,⟨by rw [HGX.out];exact jg BK157.out _⟩,⟨jo HB.out _⟩⟩
     case rest =>
      clear HC5
      try clear c1
      try clear c2
      try clear p2
      try clear c3
      try clear q3
      try clear p6
      try clear c11
      try clear c12
      try clear c13
      try clear c21
      try clear c32
      try clear c32b0
      try clear q39
      try clear q39
      obtain ⟨kq,x51_4,rfl,HA,HJ4,BK154,BK157,HB⟩:=hcut
      cases kq with
      | zero=>exact absurd HA.out (by simp [jK.j1])
      | succ kj4 =>
       have H:=HA.out
       clear HA
       simp only [jK.j1] at H
       by_cases c42:x51_4=true
       ·subst c42
        have H1:(some false)=some r:=by rw [if_pos rfl] at H;exact H
        clear H
        have H:=H1
        clear H1
        obtain rfl:=Option.some.inj H
        go_wp2
        go_ret
        exact ⟨Y1,Y140⟩
       ·replace c42:=Bool.eq_false_iff.mpr c42
        subst c42
        have H1:(jK.l0 kj4 (wrap64 (x3_1+1)) l0_0)=some r:=by rw [if_neg (show ¬ (false=true) by decide)] at H;exact H
        clear H
        have H:=H1
        clear H1
        have H':=am H
        clear H
        go_wp2
        go_roundg kj4
        case measure=>have:=HK1.out;have:=HJ4.out;omega
        case rel=>exact ⟨(wrap64 (x3_1+1)),(sq),H',⟨by have:=HK1.out;have:=HJ4.out;omega⟩,⟨kq BK154.out⟩,⟨Y140⟩⟩
    ·rw [if_neg c4] at H
     exact absurd H (by simp)
   ·rw [if_neg c3] at H
    have c3b0:decide (x3_1<(l0_0.length:Int))=false:=dzF c3
    clear c3
    replace H:=bzS H
    obtain ⟨t155,A430,H⟩:=H
    replace H:(some t155)=some r:=H
    have A43:=am A430
    clear A430
    obtain rfl:=Option.some.inj H
    have hcz44_0:=bc0 BK154.out
    have hfz44_0:=jb BK154.out 0
    go_wp2_with (first |((with_reducible refine jw (f:=79) rfl ?_);refine gL (some 55) Tryd.func79 #[.int .i64 (l0_0.length:Int), .int .i64 1, .int .i64 8] ?_;(with_reducible refine (jR.calls (l0_0.length:Int) 1 8 t155 _ A43.out).mono ?_);rintro e w' ⟨rfl,⟨nd,rfl⟩⟩;refine ⟨_,rfl,?_⟩))
    go_ret
    exact ⟨Y1,Y139⟩
mutual
def jF.l0 : Nat → Int → List (S99) → List (S66) → Option (Bool)
 | 0,_,_,_=>none
 | k+1,x5,x352000,x353000=>if x5<(x353000.length:Int) then (if 0≤x5 then ((jMa.f x352000 ((ja x353000 x5).f0)).bind fun t355=>(if t355=true then ((jR.f ((ja x353000 x5).f1) 0 99).bind fun t356=>(if t356=true then ((jHa.f x353000 x5).bind fun t357=>(jF.j1 k x5 (!t357) x352000 x353000)) else (jF.j1 k x5 true x352000 x353000))) else (jF.j1 k x5 true x352000 x353000))) else (none)) else (jF.l1 k 0 x352000 x353000)
def jF.j1 : Nat → Int → Bool → List (S99) → List (S66) → Option (Bool)
 | 0,_,_,_,_=>none
 | k+1,x5,x37,x352000,x353000=>if x37=true then (some false) else (jF.l0 k (wrap64 (x5+1)) x352000 x353000)
def jF.l1 : Nat → Int → List (S99) → List (S66) → Option (Bool)
 | 0,_,_,_=>none
 | k+1,x7,x352000,x353000=>if x7<(x353000.length:Int) then ((jna.f k x353000 x7).bind fun t359=>(if 0≤(wrap64 ((t359.length:Int) - 1)) then (if (wrap64 ((t359.length:Int) - 1))<(t359.length:Int) then (if 0≤(rd t359 (wrap64 ((t359.length:Int) - 1))) then (if (rd t359 (wrap64 ((t359.length:Int) - 1)))<(x353000.length:Int) then (if ((ja x353000 (rd t359 (wrap64 ((t359.length:Int) - 1)))).f3)≥0 then (some false) else (jF.l1 k (wrap64 (x7+1)) x352000 x353000)) else (none)) else (none)) else (none)) else (none))) else ((jK.f k x352000).bind fun t358=>(if t358=true then (some (decide ((x353000.length:Int)≤24))) else (some false)))
end
def jF.f (k : Nat) (l0_0 : List (S99)) (l1_0 : List (S66)) : Option (Bool) := jF.l0 k 0 l0_0 l1_0
set_option maxHeartbeats 8000000 in
set_option maxRecDepth 100000 in
theorem jF.calls (k : Nat) (A0_0 : Option Addr) (c0_0 : Nat) (l0_0 : List (S99)) (A1_0 : Option Addr) (c1_0 : Nat) (l1_0 : List (S66)) (r : Bool) (w : World) (hr0_0 : Kd.C k99 w A0_0 l0_0.length l0_0) (hc0_0 : l0_0.length ≤ c0_0) (hr1_0 : Kd.C k66 w A1_0 l1_0.length l1_0) (hc1_0 : l1_0.length ≤ c1_0) (h : jF.f k l0_0 l1_0 = some r) :
  Calls Tryd.prog 48 #[.agg #[.slice A0_0 l0_0.length c0_0], .agg #[.slice A1_0 l1_0.length c1_0]] w fun e w'=>e=.returned (.bool r)∧Below w.heap.size w w':=by
 have hu25:=Tryd.underlying25
 have hu28:=Tryd.underlying28
 have hu66:=Tryd.underlying66
 have HR0_0:=am hr0_0
 have HC0_0:=am hc0_0
 clear hr0_0 hc0_0
 have HR1_0:=am hr1_0
 have HC1_0:=am hc1_0
 clear hr1_0 hc1_0
 have HB:=am (Below.refl w.heap.size w)
 have H:(jF.l0 k 0 l0_0 l1_0)=some r:=h
 clear h
 have H':=am H
 clear H
 go_enter Tryd.func48,Tryd.ntmps48
 go_wp2_with (first |((with_reducible refine jD (N:=2) rfl ?_);(try (refine jTa (by rfl) ?_;dsimp only));refine jgb ?hg (N:=2) ?hd (cs:=#[.slice A0_0 l0_0.length c0_0]) (t:=25) ?hr ?_;(case hd=>rfl);(case hg=>rfl);(case hr=>exact Y4);intro gb351 hg w3 hbox hb;have BK351:=am (hbox);have GW351:=am ((Y0:w.heap.size≤gb351));have GE351:=am ((Y0:w.heap.size≤gb351));replace HB:=am (je (bq) hb);clear hb hbox hg) |((with_reducible refine jD (N:=3) rfl ?_);(try (refine jTa (by rfl) ?_;dsimp only));refine jgb ?hg (N:=3) ?hd (cs:=#[.slice A1_0 l1_0.length c1_0]) (t:=28) ?hr ?_;(case hd=>rfl);(case hg=>rfl);(case hr=>exact Y4);intro gb352 hg w4 hbox hb;have BK352:=am (hbox);have GW352:=am ((Y82:w.heap.size≤gb352));have GE352:=am ((Y82:w.heap.size≤gb352));have NB351_352:=am ((Y83:gb351≠gb352));have NB352_351:=am ((Y84:gb352≠gb351));replace BK351:=am (jc (g:=gb351) (o:=.cells #[.slice A0_0 l0_0.length c0_0] 25 (0,0)) (kq BK351.out) hb);replace HB:=am (je (Y141) hb);clear hb hbox hg))
 repeat (go_quiet (first |((with_reducible refine jD (N:=2) rfl ?_);(try (refine jTa (by rfl) ?_;dsimp only));refine jgb ?hg (N:=2) ?hd (cs:=#[.slice A0_0 l0_0.length c0_0]) (t:=25) ?hr ?_;(case hd=>rfl);(case hg=>rfl);(case hr=>exact Y4);intro gb351 hg w3 hbox hb;have BK351:=am (hbox);have GW351:=am ((Y0:w.heap.size≤gb351));have GE351:=am ((Y0:w.heap.size≤gb351));replace HB:=am (je (bq) hb);clear hb hbox hg) |((with_reducible refine jD (N:=3) rfl ?_);(try (refine jTa (by rfl) ?_;dsimp only));refine jgb ?hg (N:=3) ?hd (cs:=#[.slice A1_0 l1_0.length c1_0]) (t:=28) ?hr ?_;(case hd=>rfl);(case hg=>rfl);(case hr=>exact Y4);intro gb352 hg w4 hbox hb;have BK352:=am (hbox);have GW352:=am ((Y82:w.heap.size≤gb352));have GE352:=am ((Y82:w.heap.size≤gb352));have NB351_352:=am ((Y83:gb351≠gb352));have NB352_351:=am ((Y84:gb352≠gb351));replace BK351:=am (jc (g:=gb351) (o:=.cells #[.slice A0_0 l0_0.length c0_0] 25 (0,0)) (kq BK351.out) hb);replace HB:=am (je (Y141) hb);clear hb hbox hg));try go_wp2_with (first |((with_reducible refine jD (N:=2) rfl ?_);(try (refine jTa (by rfl) ?_;dsimp only));refine jgb ?hg (N:=2) ?hd (cs:=#[.slice A0_0 l0_0.length c0_0]) (t:=25) ?hr ?_;(case hd=>rfl);(case hg=>rfl);(case hr=>exact Y4);intro gb351 hg w3 hbox hb;have BK351:=am (hbox);have GW351:=am ((Y0:w.heap.size≤gb351));have GE351:=am ((Y0:w.heap.size≤gb351));replace HB:=am (je (bq) hb);clear hb hbox hg) |((with_reducible refine jD (N:=3) rfl ?_);(try (refine jTa (by rfl) ?_;dsimp only));refine jgb ?hg (N:=3) ?hd (cs:=#[.slice A1_0 l1_0.length c1_0]) (t:=28) ?hr ?_;(case hd=>rfl);(case hg=>rfl);(case hr=>exact Y4);intro gb352 hg w4 hbox hb;have BK352:=am (hbox);have GW352:=am ((Y82:w.heap.size≤gb352));have GE352:=am ((Y82:w.heap.size≤gb352));have NB351_352:=am ((Y83:gb351≠gb352));have NB352_351:=am ((Y84:gb352≠gb351));replace BK351:=am (jc (g:=gb351) (o:=.cells #[.slice A0_0 l0_0.length c0_0] 25 (0,0)) (kq BK351.out) hb);replace HB:=am (je (Y141) hb);clear hb hbox hg)))
 go_loopg [5] k (fun kq v5 w'=>∃ (x5_1:Int),v5=.int .i64 x5_1∧jB (jF.l0 kq x5_1 l0_0 l1_0=some r)∧jB (kq≤k)∧jB (w'.heap[gb351]?=some (.cells #[(.slice A0_0 l0_0.length c0_0)] 25 (0,0)))∧jB (w'.heap[gb352]?=some (.cells #[(.slice A1_0 l1_0.length c1_0)] 28 (0,0)))∧jB (Below w.heap.size w w'))
 case atStart=>exact ⟨(0),(sq),H',⟨Nat.le_refl _⟩,⟨kq BK351.out⟩,⟨kq BK352.out⟩,⟨Y11⟩⟩
 case round =>
  clear H'
  try clear c1
  try clear p2
  try clear c4
  obtain ⟨x5_1,rfl,HA,HK1,BK351,BK352,HB⟩:=hrel
  cases gk with
  | zero=>exact absurd HA.out (by simp [jF.l0])
  | succ k1 =>
   have H:=HA.out
   clear HA
   simp only [jF.l0] at H
   by_cases c5:x5_1<(l1_0.length:Int)
   ·rw [if_pos c5] at H
    have c5b0:decide (x5_1<(l1_0.length:Int))=true:=dzT c5
    clear c5
    by_cases c6:0≤x5_1
    ·rw [if_pos c6] at H
     have c6b0:decide (0≤x5_1)=true:=dzT c6
     clear c6
     have HC7:=am H
     clear H
     have hnb8:=NB352_351.out
     have hnc8:=NB351_352.out
     have hcz9_0:=bc0 BK352.out
     have hfz9_0:=jb BK352.out 0
     have p353:0≤(x5_1:Int):=ozD (uq)
     have q353:x5_1<(l1_0.length:Int):=ozD (uq)
     obtain ⟨ad353,e353,hx353_0,hx353_1,hx353_2,hx353_3,hx353_4⟩:=jlb HR1_0.out x5_1 p353 q353
     cases e353
     replace hx353_0:=cb HB.out hx353_0
     replace hx353_1:=cb HB.out hx353_1
     replace hx353_2:=cb HB.out hx353_2
     replace hx353_3:=cb HB.out hx353_3
     replace hx353_4:=cb HB.out hx353_4
     replace p353:=ezT p353
     replace q353:=ezT q353
     go_upto_region 5 with (first |((with_reducible refine jD (N:=6) rfl ?_);(try (refine jTa (by rfl) ?_;dsimp only));refine jgb ?hg (N:=6) ?hd (cs:=#[.int .i64 0, .int .i64 0, .int .i64 0, .int .i64 0, .bool false]) (t:=66) ?hr ?_;(case hd=>rfl);(case hg=>rfl);(case hr=>exact Y4);intro gb354 hg w10 hbox hb;have BK354:=am (hbox);have GW354:=am ((Y85:w.heap.size≤gb354));have GE354:=am ((Y85:w.heap.size≤gb354));have NB351_354:=am ((Y83:gb351≠gb354));have NB354_351:=am ((Y84:gb354≠gb351));have NB352_354:=am ((Y142:gb352≠gb354));have NB354_352:=am ((Y143:gb354≠gb352));replace BK351:=am (jc (g:=gb351) (o:=.cells #[.slice A0_0 l0_0.length c0_0] 25 (0,0)) (kq BK351.out) hb);replace BK352:=am (jc (g:=gb352) (o:=.cells #[.slice (some ad353) l1_0.length c1_0] 28 (0,0)) (kq BK352.out) hb);replace HB:=am (je (Y11) hb);clear hb hbox hg;have hnb11:=NB354_351.out;have hnc11:=NB351_354.out;have hnb12:=NB354_352.out;have hnc12:=NB352_354.out;have hcz13_0:=bc0 BK354.out;have hcz13_1:=bc1 BK354.out;have hcz13_2:=bc2 BK354.out;have hcz13_3:=bc3 BK354.out;have hcz13_4:w10.cell? ⟨gb354,4,none⟩=some (.bool false):=(jH BK354.out 4).trans rfl;have hfz13_0:=jb BK354.out 0;have hfz13_1:=jb BK354.out 1;have hfz13_2:=jb BK354.out 2;have hfz13_3:=jb BK354.out 3;have hfz13_4:=jb BK354.out 4))
     repeat (go_quiet (first |((with_reducible refine jD (N:=6) rfl ?_);(try (refine jTa (by rfl) ?_;dsimp only));refine jgb ?hg (N:=6) ?hd (cs:=#[.int .i64 0, .int .i64 0, .int .i64 0, .int .i64 0, .bool false]) (t:=66) ?hr ?_;(case hd=>rfl);(case hg=>rfl);(case hr=>exact Y4);intro gb354 hg w10 hbox hb;have BK354:=am (hbox);have GW354:=am ((Y85:w.heap.size≤gb354));have GE354:=am ((Y85:w.heap.size≤gb354));have NB351_354:=am ((Y83:gb351≠gb354));have NB354_351:=am ((Y84:gb354≠gb351));have NB352_354:=am ((Y142:gb352≠gb354));have NB354_352:=am ((Y143:gb354≠gb352));replace BK351:=am (jc (g:=gb351) (o:=.cells #[.slice A0_0 l0_0.length c0_0] 25 (0,0)) (kq BK351.out) hb);replace BK352:=am (jc (g:=gb352) (o:=.cells #[.slice (some ad353) l1_0.length c1_0] 28 (0,0)) (kq BK352.out) hb);replace HB:=am (je (Y11) hb);clear hb hbox hg;have hnb11:=NB354_351.out;have hnc11:=NB351_354.out;have hnb12:=NB354_352.out;have hnc12:=NB352_354.out;have hcz13_0:=bc0 BK354.out;have hcz13_1:=bc1 BK354.out;have hcz13_2:=bc2 BK354.out;have hcz13_3:=bc3 BK354.out;have hcz13_4:w10.cell? ⟨gb354,4,none⟩=some (.bool false):=(jH BK354.out 4).trans rfl;have hfz13_0:=jb BK354.out 0;have hfz13_1:=jb BK354.out 1;have hfz13_2:=jb BK354.out 2;have hfz13_3:=jb BK354.out 3;have hfz13_4:=jb BK354.out 4));go_upto_region 5 with (first |((with_reducible refine jD (N:=6) rfl ?_);(try (refine jTa (by rfl) ?_;dsimp only));refine jgb ?hg (N:=6) ?hd (cs:=#[.int .i64 0, .int .i64 0, .int .i64 0, .int .i64 0, .bool false]) (t:=66) ?hr ?_;(case hd=>rfl);(case hg=>rfl);(case hr=>exact Y4);intro gb354 hg w10 hbox hb;have BK354:=am (hbox);have GW354:=am ((Y85:w.heap.size≤gb354));have GE354:=am ((Y85:w.heap.size≤gb354));have NB351_354:=am ((Y83:gb351≠gb354));have NB354_351:=am ((Y84:gb354≠gb351));have NB352_354:=am ((Y142:gb352≠gb354));have NB354_352:=am ((Y143:gb354≠gb352));replace BK351:=am (jc (g:=gb351) (o:=.cells #[.slice A0_0 l0_0.length c0_0] 25 (0,0)) (kq BK351.out) hb);replace BK352:=am (jc (g:=gb352) (o:=.cells #[.slice (some ad353) l1_0.length c1_0] 28 (0,0)) (kq BK352.out) hb);replace HB:=am (je (Y11) hb);clear hb hbox hg;have hnb11:=NB354_351.out;have hnc11:=NB351_354.out;have hnb12:=NB354_352.out;have hnc12:=NB352_354.out;have hcz13_0:=bc0 BK354.out;have hcz13_1:=bc1 BK354.out;have hcz13_2:=bc2 BK354.out;have hcz13_3:=bc3 BK354.out;have hcz13_4:w10.cell? ⟨gb354,4,none⟩=some (.bool false):=(jH BK354.out 4).trans rfl;have hfz13_0:=jb BK354.out 0;have hfz13_1:=jb BK354.out 1;have hfz13_2:=jb BK354.out 2;have hfz13_3:=jb BK354.out 3;have hfz13_4:=jb BK354.out 4)))
     (try simp only [Act.put,List.setIfInBounds_toArray,List.set_cons_zero,List.set_cons_succ])
     go_cut [37] (fun v37 wc=>∃ (kq:Nat) (x37_6:Bool),v37=.bool x37_6∧jB (jF.j1 kq x5_1 x37_6 l0_0 l1_0=some r)∧jB (kq≤k1)∧jB (wc.heap[gb351]?=some (.cells #[(.slice A0_0 l0_0.length c0_0)] 25 (0,0)))∧jB (wc.heap[gb352]?=some (.cells #[(.slice (some ad353) l1_0.length c1_0)] 28 (0,0)))∧jB (wc.heap[gb354]?=some (.cells #[.int .i64 ((ja l1_0 x5_1).f0), .int .i64 ((ja l1_0 x5_1).f1), .int .i64 ((ja l1_0 x5_1).f2), .int .i64 ((ja l1_0 x5_1).f3), .bool ((ja l1_0 x5_1).f4)] 66 (0,0)))∧jB (Below w.heap.size w wc))
     case first =>
      have H:=HC7.out
      clear HC7
      replace H:=bzS H
      obtain ⟨t355,A140,H⟩:=H
      replace H:(if t355=true then ((jR.f ((ja l1_0 x5_1).f1) 0 99).bind fun t356=>(if t356=true then ((jHa.f l1_0 x5_1).bind fun t357=>(jF.j1 k1 x5_1 (!t357) l0_0 l1_0)) else (jF.j1 k1 x5_1 true l0_0 l1_0))) else (jF.j1 k1 x5_1 true l0_0 l1_0))=some r:=H
      have A14:=am A140
      clear A140
      by_cases c15:t355=true
      ·subst c15
       have H1:((jR.f ((ja l1_0 x5_1).f1) 0 99).bind fun t356=>(if t356=true then ((jHa.f l1_0 x5_1).bind fun t357=>(jF.j1 k1 x5_1 (!t357) l0_0 l1_0)) else (jF.j1 k1 x5_1 true l0_0 l1_0)))=some r:=by rw [if_pos rfl] at H;exact H
       clear H
       have H:=H1
       clear H1
       replace H:=bzS H
       obtain ⟨t356,A160,H⟩:=H
       replace H:(if t356=true then ((jHa.f l1_0 x5_1).bind fun t357=>(jF.j1 k1 x5_1 (!t357) l0_0 l1_0)) else (jF.j1 k1 x5_1 true l0_0 l1_0))=some r:=H
       have A16:=am A160
       clear A160
       by_cases c17:t356=true
       ·subst c17
        have H1:((jHa.f l1_0 x5_1).bind fun t357=>(jF.j1 k1 x5_1 (!t357) l0_0 l1_0))=some r:=by rw [if_pos rfl] at H;exact H
        clear H
        have H:=H1
        clear H1
        replace H:=bzS H
        obtain ⟨t357,A180,H⟩:=H
        replace H:(jF.j1 k1 x5_1 (!t357) l0_0 l1_0)=some r:=H
        have A18:=am A180
        clear A180
        have H':=am H
        clear H
        have hnb19:=NB351_352.out
        have hnc19:=NB352_351.out
        have hnb20:=NB351_354.out
        have hnc20:=NB354_351.out
        have hcz21_0:=bc0 BK351.out
        have hfz21_0:=jb BK351.out 0
        have hnb22:=NB354_352.out
        have hnc22:=NB352_354.out
        have hcz23_0:=bc0 BK354.out
        have hcz23_1:=bc1 BK354.out
        have hcz23_2:=bc2 BK354.out
        have hcz23_3:=bc3 BK354.out
        have hcz23_4:w10.cell? ⟨gb354,4,none⟩=some (.bool false):=(jH BK354.out 4).trans rfl
        have hfz23_0:=jb BK354.out 0
        have hfz23_1:=jb BK354.out 1
        have hfz23_2:=jb BK354.out 2
        have hfz23_3:=jb BK354.out 3
        have hfz23_4:=jb BK354.out 4
        go_wp2_with (first |(go_at_call 78;(with_reducible refine (jMa.calls _ _ l0_0 ((ja l1_0 x5_1).f0) true _ ?side1 ?side2 A14.out).mono ?_);(case side1=>exact Kd.jU HR0_0.out (Y15));(case side2=>exact HC0_0.out);rintro e w24 ⟨rfl,hb⟩;replace BK351:=am (jc (g:=gb351) (o:=.cells #[.slice A0_0 l0_0.length c0_0] 25 (0,0)) (Y46) hb);replace BK352:=am (jc (g:=gb352) (o:=.cells #[.slice (some ad353) l1_0.length c1_0] 28 (0,0)) (Y47) hb);replace BK354:=am (jc (g:=gb354) (o:=.cells #[.int .i64 ((ja l1_0 x5_1).f0), .int .i64 ((ja l1_0 x5_1).f1), .int .i64 ((ja l1_0 x5_1).f2), .int .i64 ((ja l1_0 x5_1).f3), .bool ((ja l1_0 x5_1).f4)] 66 (0,0)) (Y48) hb);replace HB:=am (je (Y15) hb);(try clear hb);(try clear hb2);(try clear hk);(try clear hi);have hcz25_0:=bc0 BK354.out;have hcz25_1:=bc1 BK354.out;have hcz25_2:=bc2 BK354.out;have hcz25_3:=bc3 BK354.out;have hcz25_4:w24.cell? ⟨gb354,4,none⟩=some (.bool ((ja l1_0 x5_1).f4)):=(jH BK354.out 4).trans rfl;have hfz25_0:=jb BK354.out 0;have hfz25_1:=jb BK354.out 1;have hfz25_2:=jb BK354.out 2;have hfz25_3:=jb BK354.out 3;have hfz25_4:=jb BK354.out 4) |(go_at_call 79;(with_reducible refine (jR.calls ((ja l1_0 x5_1).f1) 0 99 true _ A16.out).mono ?_);rintro e w' ⟨rfl,⟨nd,rfl⟩⟩;(try first | exact ⟨rfl,_,World.drewN_drewN _ _ _⟩ | exact ⟨rfl,_,Eq.trans (World.drewN_drewN _ _ _) (congrArg (World.drewN _) (Nat.add_assoc _ _ _))⟩);have hcz26_0:=bc0 BK352.out;have hfz26_0:=jb BK352.out 0) |(go_at_call 80;(with_reducible refine (jHa.calls _ _ l1_0 x5_1 t357 _ ?side1 ?side2 A18.out).mono ?_);(case side1=>exact Y144);(case side2=>exact HC1_0.out);rintro e w27 ⟨rfl,hb⟩;replace BK351:=am (jc (g:=gb351) (o:=.cells #[.slice A0_0 l0_0.length c0_0] 25 (0,0)) (kq BK351.out) hb);replace BK352:=am (jc (g:=gb352) (o:=.cells #[.slice (some ad353) l1_0.length c1_0] 28 (0,0)) (kq BK352.out) hb);replace BK354:=am (jc (g:=gb354) (o:=.cells #[.int .i64 ((ja l1_0 x5_1).f0), .int .i64 ((ja l1_0 x5_1).f1), .int .i64 ((ja l1_0 x5_1).f2), .int .i64 ((ja l1_0 x5_1).f3), .bool ((ja l1_0 x5_1).f4)] 66 (0,0)) (kq BK354.out) hb);replace HB:=am (je (Y15) hb);(try clear hb);(try clear hb2);(try clear hk);(try clear hi)))
        repeat (go_quiet (first |(go_at_call 78;(with_reducible refine (jMa.calls _ _ l0_0 ((ja l1_0 x5_1).f0) true _ ?side1 ?side2 A14.out).mono ?_);(case side1=>exact Kd.jU HR0_0.out (Y15));(case side2=>exact HC0_0.out);rintro e w24 ⟨rfl,hb⟩;replace BK351:=am (jc (g:=gb351) (o:=.cells #[.slice A0_0 l0_0.length c0_0] 25 (0,0)) (Y46) hb);replace BK352:=am (jc (g:=gb352) (o:=.cells #[.slice (some ad353) l1_0.length c1_0] 28 (0,0)) (Y47) hb);replace BK354:=am (jc (g:=gb354) (o:=.cells #[.int .i64 ((ja l1_0 x5_1).f0), .int .i64 ((ja l1_0 x5_1).f1), .int .i64 ((ja l1_0 x5_1).f2), .int .i64 ((ja l1_0 x5_1).f3), .bool ((ja l1_0 x5_1).f4)] 66 (0,0)) (Y48) hb);replace HB:=am (je (Y15) hb);(try clear hb);(try clear hb2);(try clear hk);(try clear hi);have hcz25_0:=bc0 BK354.out;have hcz25_1:=bc1 BK354.out;have hcz25_2:=bc2 BK354.out;have hcz25_3:=bc3 BK354.out;have hcz25_4:w24.cell? ⟨gb354,4,none⟩=some (.bool ((ja l1_0 x5_1).f4)):=(jH BK354.out 4).trans rfl;have hfz25_0:=jb BK354.out 0;have hfz25_1:=jb BK354.out 1;have hfz25_2:=jb BK354.out 2;have hfz25_3:=jb BK354.out 3;have hfz25_4:=jb BK354.out 4) |(go_at_call 79;(with_reducible refine (jR.calls ((ja l1_0 x5_1).f1) 0 99 true _ A16.out).mono ?_);rintro e w' ⟨rfl,⟨nd,rfl⟩⟩;(try first | exact ⟨rfl,_,World.drewN_drewN _ _ _⟩ | exact ⟨rfl,_,Eq.trans (World.drewN_drewN _ _ _) (congrArg (World.drewN _) (Nat.add_assoc _ _ _))⟩);have hcz26_0:=bc0 BK352.out;have hfz26_0:=jb BK352.out 0) |(go_at_call 80;(with_reducible refine (jHa.calls _ _ l1_0 x5_1 t357 _ ?side1 ?side2 A18.out).mono ?_);(case side1=>exact Y144);(case side2=>exact HC1_0.out);rintro e w27 ⟨rfl,hb⟩;replace BK351:=am (jc (g:=gb351) (o:=.cells #[.slice A0_0 l0_0.length c0_0] 25 (0,0)) (kq BK351.out) hb);replace BK352:=am (jc (g:=gb352) (o:=.cells #[.slice (some ad353) l1_0.length c1_0] 28 (0,0)) (kq BK352.out) hb);replace BK354:=am (jc (g:=gb354) (o:=.cells #[.int .i64 ((ja l1_0 x5_1).f0), .int .i64 ((ja l1_0 x5_1).f1), .int .i64 ((ja l1_0 x5_1).f2), .int .i64 ((ja l1_0 x5_1).f3), .bool ((ja l1_0 x5_1).f4)] 66 (0,0)) (kq BK354.out) hb);replace HB:=am (je (Y15) hb);(try clear hb);(try clear hb2);(try clear hk);(try clear hi)));try go_wp2_with (first |(go_at_call 78;(with_reducible refine (jMa.calls _ _ l0_0 ((ja l1_0 x5_1).f0) true _ ?side1 ?side2 A14.out).mono ?_);(case side1=>exact Kd.jU HR0_0.out (Y15));(case side2=>exact HC0_0.out);rintro e w24 ⟨rfl,hb⟩;replace BK351:=am (jc (g:=gb351) (o:=.cells #[.slice A0_0 l0_0.length c0_0] 25 (0,0)) (Y46) hb);replace BK352:=am (jc (g:=gb352) (o:=.cells #[.slice (some ad353) l1_0.length c1_0] 28 (0,0)) (Y47) hb);replace BK354:=am (jc (g:=gb354) (o:=.cells #[.int .i64 ((ja l1_0 x5_1).f0), .int .i64 ((ja l1_0 x5_1).f1), .int .i64 ((ja l1_0 x5_1).f2), .int .i64 ((ja l1_0 x5_1).f3), .bool ((ja l1_0 x5_1).f4)] 66 (0,0)) (Y48) hb);replace HB:=am (je (Y15) hb);(try clear hb);(try clear hb2);(try clear hk);(try clear hi);have hcz25_0:=bc0 BK354.out;have hcz25_1:=bc1 BK354.out;have hcz25_2:=bc2 BK354.out;have hcz25_3:=bc3 BK354.out;have hcz25_4:w24.cell? ⟨gb354,4,none⟩=some (.bool ((ja l1_0 x5_1).f4)):=(jH BK354.out 4).trans rfl;have hfz25_0:=jb BK354.out 0;have hfz25_1:=jb BK354.out 1;have hfz25_2:=jb BK354.out 2;have hfz25_3:=jb BK354.out 3;have hfz25_4:=jb BK354.out 4) |(go_at_call 79;(with_reducible refine (jR.calls ((ja l1_0 x5_1).f1) 0 99 true _ A16.out).mono ?_);rintro e w' ⟨rfl,⟨nd,rfl⟩⟩;(try first | exact ⟨rfl,_,World.drewN_drewN _ _ _⟩ | exact ⟨rfl,_,Eq.trans (World.drewN_drewN _ _ _) (congrArg (World.drewN _) (Nat.add_assoc _ _ _))⟩);have hcz26_0:=bc0 BK352.out;have hfz26_0:=jb BK352.out 0) |(go_at_call 80;(with_reducible refine (jHa.calls _ _ l1_0 x5_1 t357 _ ?side1 ?side2 A18.out).mono ?_);(case side1=>exact Y144);(case side2=>exact HC1_0.out);rintro e w27 ⟨rfl,hb⟩;replace BK351:=am (jc (g:=gb351) (o:=.cells #[.slice A0_0 l0_0.length c0_0] 25 (0,0)) (kq BK351.out) hb);replace BK352:=am (jc (g:=gb352) (o:=.cells #[.slice (some ad353) l1_0.length c1_0] 28 (0,0)) (kq BK352.out) hb);replace BK354:=am (jc (g:=gb354) (o:=.cells #[.int .i64 ((ja l1_0 x5_1).f0), .int .i64 ((ja l1_0 x5_1).f1), .int .i64 ((ja l1_0 x5_1).f2), .int .i64 ((ja l1_0 x5_1).f3), .bool ((ja l1_0 x5_1).f4)] 66 (0,0)) (kq BK354.out) hb);replace HB:=am (je (Y15) hb);(try clear hb);(try clear hb2);(try clear hk);(try clear hi))))
        go_meet
        case rel=>exact ⟨_,(!t357),(sq),H',⟨by have:=HK1.out;first | omega | exact Nat.le_refl _⟩,⟨kq BK351.out⟩,⟨kq BK352.out⟩,⟨kq BK354.out⟩,⟨Y15⟩⟩
       ·replace c17:=Bool.eq_false_iff.mpr c17
        subst c17
        have H1:(jF.j1 k1 x5_1 true l0_0 l1_0)=some r:=by rw [if_neg (show ¬ (false=true) by decide)] at H;exact H
        clear H
        have H:=H1
        clear H1
        have H':=am H
        clear H
        have hnb28:=NB351_352.out
        have hnc28:=NB352_351.out
        have hnb29:=NB351_354.out
        have hnc29:=NB354_351.out
        have hcz30_0:=bc0 BK351.out
        have hfz30_0:=jb BK351.out 0
        have hnb31:=NB354_352.out
        have hnc31:=NB352_354.out
        have hcz32_0:=bc0 BK354.out
        have hcz32_1:=bc1 BK354.out
        have hcz32_2:=bc2 BK354.out
        have hcz32_3:=bc3 BK354.out
        have hcz32_4:w10.cell? ⟨gb354,4,none⟩=some (.bool false):=(jH BK354.out 4).trans rfl
        have hfz32_0:=jb BK354.out 0
        have hfz32_1:=jb BK354.out 1
        have hfz32_2:=jb BK354.out 2
        have hfz32_3:=jb BK354.out 3
        have hfz32_4:=jb BK354.out 4
        go_wp2_with (first |(go_at_call 78;(with_reducible refine (jMa.calls _ _ l0_0 ((ja l1_0 x5_1).f0) true _ ?side1 ?side2 A14.out).mono ?_);(case side1=>exact Kd.jU HR0_0.out (Y15));(case side2=>exact HC0_0.out);rintro e w33 ⟨rfl,hb⟩;replace BK351:=am (jc (g:=gb351) (o:=.cells #[.slice A0_0 l0_0.length c0_0] 25 (0,0)) (Y46) hb);replace BK352:=am (jc (g:=gb352) (o:=.cells #[.slice (some ad353) l1_0.length c1_0] 28 (0,0)) (Y47) hb);replace BK354:=am (jc (g:=gb354) (o:=.cells #[.int .i64 ((ja l1_0 x5_1).f0), .int .i64 ((ja l1_0 x5_1).f1), .int .i64 ((ja l1_0 x5_1).f2), .int .i64 ((ja l1_0 x5_1).f3), .bool ((ja l1_0 x5_1).f4)] 66 (0,0)) (Y48) hb);replace HB:=am (je (Y15) hb);(try clear hb);(try clear hb2);(try clear hk);(try clear hi);have hcz34_0:=bc0 BK354.out;have hcz34_1:=bc1 BK354.out;have hcz34_2:=bc2 BK354.out;have hcz34_3:=bc3 BK354.out;have hcz34_4:w33.cell? ⟨gb354,4,none⟩=some (.bool ((ja l1_0 x5_1).f4)):=(jH BK354.out 4).trans rfl;have hfz34_0:=jb BK354.out 0;have hfz34_1:=jb BK354.out 1;have hfz34_2:=jb BK354.out 2;have hfz34_3:=jb BK354.out 3;have hfz34_4:=jb BK354.out 4) |(go_at_call 79;(with_reducible refine (jR.calls ((ja l1_0 x5_1).f1) 0 99 false _ A16.out).mono ?_);rintro e w' ⟨rfl,⟨nd,rfl⟩⟩;(try first | exact ⟨rfl,_,World.drewN_drewN _ _ _⟩ | exact ⟨rfl,_,Eq.trans (World.drewN_drewN _ _ _) (congrArg (World.drewN _) (Nat.add_assoc _ _ _))⟩)))
        repeat (go_quiet (first |(go_at_call 78;(with_reducible refine (jMa.calls _ _ l0_0 ((ja l1_0 x5_1).f0) true _ ?side1 ?side2 A14.out).mono ?_);(case side1=>exact Kd.jU HR0_0.out (Y15));(case side2=>exact HC0_0.out);rintro e w33 ⟨rfl,hb⟩;replace BK351:=am (jc (g:=gb351) (o:=.cells #[.slice A0_0 l0_0.length c0_0] 25 (0,0)) (Y46) hb);replace BK352:=am (jc (g:=gb352) (o:=.cells #[.slice (some ad353) l1_0.length c1_0] 28 (0,0)) (Y47) hb);replace BK354:=am (jc (g:=gb354) (o:=.cells #[.int .i64 ((ja l1_0 x5_1).f0), .int .i64 ((ja l1_0 x5_1).f1), .int .i64 ((ja l1_0 x5_1).f2), .int .i64 ((ja l1_0 x5_1).f3), .bool ((ja l1_0 x5_1).f4)] 66 (0,0)) (Y48) hb);replace HB:=am (je (Y15) hb);(try clear hb);(try clear hb2);(try clear hk);(try clear hi);have hcz34_0:=bc0 BK354.out;have hcz34_1:=bc1 BK354.out;have hcz34_2:=bc2 BK354.out;have hcz34_3:=bc3 BK354.out;have hcz34_4:w33.cell? ⟨gb354,4,none⟩=some (.bool ((ja l1_0 x5_1).f4)):=(jH BK354.out 4).trans rfl;have hfz34_0:=jb BK354.out 0;have hfz34_1:=jb BK354.out 1;have hfz34_2:=jb BK354.out 2;have hfz34_3:=jb BK354.out 3;have hfz34_4:=jb BK354.out 4) |(go_at_call 79;(with_reducible refine (jR.calls ((ja l1_0 x5_1).f1) 0 99 false _ A16.out).mono ?_);rintro e w' ⟨rfl,⟨nd,rfl⟩⟩;(try first | exact ⟨rfl,_,World.drewN_drewN _ _ _⟩ | exact ⟨rfl,_,Eq.trans (World.drewN_drewN _ _ _) (congrArg (World.drewN _) (Nat.add_assoc _ _ _))⟩)));try go_wp2_with (first |(go_at_call 78;(with_reducible refine (jMa.calls _ _ l0_0 ((ja l1_0 x5_1).f0) true _ ?side1 ?side2 A14.out).mono ?_);(case side1=>exact Kd.jU HR0_0.out (Y15));(case side2=>exact HC0_0.out);rintro e w33 ⟨rfl,hb⟩;replace BK351:=am (jc (g:=gb351) (o:=.cells #[.slice A0_0 l0_0.length c0_0] 25 (0,0)) (Y46) hb);replace BK352:=am (jc (g:=gb352) (o:=.cells #[.slice (some ad353) l1_0.length c1_0] 28 (0,0)) (Y47) hb);replace BK354:=am (jc (g:=gb354) (o:=.cells #[.int .i64 ((ja l1_0 x5_1).f0), .int .i64 ((ja l1_0 x5_1).f1), .int .i64 ((ja l1_0 x5_1).f2), .int .i64 ((ja l1_0 x5_1).f3), .bool ((ja l1_0 x5_1).f4)] 66 (0,0)) (Y48) hb);replace HB:=am (je (Y15) hb);(try clear hb);(try clear hb2);(try clear hk);(try clear hi);have hcz34_0:=bc0 BK354.out;have hcz34_1:=bc1 BK354.out;have hcz34_2:=bc2 BK354.out;have hcz34_3:=bc3 BK354.out;have hcz34_4:w33.cell? ⟨gb354,4,none⟩=some (.bool ((ja l1_0 x5_1).f4)):=(jH BK354.out 4).trans rfl;have hfz34_0:=jb BK354.out 0;have hfz34_1:=jb BK354.out 1;have hfz34_2:=jb BK354.out 2;have hfz34_3:=jb BK354.out 3;have hfz34_4:=jb BK354.out 4) |(go_at_call 79;(with_reducible refine (jR.calls ((ja l1_0 x5_1).f1) 0 99 false _ A16.out).mono ?_);rintro e w' ⟨rfl,⟨nd,rfl⟩⟩;(try first | exact ⟨rfl,_,World.drewN_drewN _ _ _⟩ | exact ⟨rfl,_,Eq.trans (World.drewN_drewN _ _ _) (congrArg (World.drewN _) (Nat.add_assoc _ _ _))⟩))))
        go_meet
        case rel=>exact ⟨_,(true),(sq),H',⟨by have:=HK1.out;first | omega | exact Nat.le_refl _⟩,⟨kq BK351.out⟩,⟨kq BK352.out⟩,⟨kq BK354.out⟩,⟨Y15⟩⟩
      ·replace c15:=Bool.eq_false_iff.mpr c15
       subst c15
       have H1:(jF.j1 k1 x5_1 true l0_0 l1_0)=some r:=by rw [if_neg (show ¬ (false=true) by decide)] at H;exact H
       clear H
       have H:=H1
       clear H1
       have H':=am H
       clear H
       have hnb35:=NB351_352.out
       have hnc35:=NB352_351.out
       have hnb36:=NB351_354.out
       have hnc36:=NB354_351.out
       have hcz37_0:=bc0 BK351.out
       have hfz37_0:=jb BK351.out 0
       have hnb38:=NB354_352.out
       have hnc38:=NB352_354.out
       have hcz39_0:=bc0 BK354.out
       have hcz39_1:=bc1 BK354.out
       have hcz39_2:=bc2 BK354.out
       have hcz39_3:=bc3 BK354.out
       have hcz39_4:w10.cell? ⟨gb354,4,none⟩=some (.bool false):=(jH BK354.out 4).trans rfl
       have hfz39_0:=jb BK354.out 0
       have hfz39_1:=jb BK354.out 1
       have hfz39_2:=jb BK354.out 2
       have hfz39_3:=jb BK354.out 3
       have hfz39_4:=jb BK354.out 4
       go_wp2_with (first |(go_at_call 78;(with_reducible refine (jMa.calls _ _ l0_0 ((ja l1_0 x5_1).f0) false _ ?side1 ?side2 A14.out).mono ?_);(case side1=>exact Kd.jU HR0_0.out (Y15));(case side2=>exact HC0_0.out);rintro e w40 ⟨rfl,hb⟩;replace BK351:=am (jc (g:=gb351) (o:=.cells #[.slice A0_0 l0_0.length c0_0] 25 (0,0)) (Y46) hb);replace BK352:=am (jc (g:=gb352) (o:=.cells #[.slice (some ad353) l1_0.length c1_0] 28 (0,0)) (Y47) hb);replace BK354:=am (jc (g:=gb354) (o:=.cells #[.int .i64 ((ja l1_0 x5_1).f0), .int .i64 ((ja l1_0 x5_1).f1), .int .i64 ((ja l1_0 x5_1).f2), .int .i64 ((ja l1_0 x5_1).f3), .bool ((ja l1_0 x5_1).f4)] 66 (0,0)) (Y48) hb);replace HB:=am (je (Y15) hb);(try clear hb);(try clear hb2);(try clear hk);(try clear hi)))
       repeat (go_quiet (first |(go_at_call 78;(with_reducible refine (jMa.calls _ _ l0_0 ((ja l1_0 x5_1).f0) false _ ?side1 ?side2 A14.out).mono ?_);(case side1=>exact Kd.jU HR0_0.out (Y15));(case side2=>exact HC0_0.out);rintro e w40 ⟨rfl,hb⟩;replace BK351:=am (jc (g:=gb351) (o:=.cells #[.slice A0_0 l0_0.length c0_0] 25 (0,0)) (Y46) hb);replace BK352:=am (jc (g:=gb352) (o:=.cells #[.slice (some ad353) l1_0.length c1_0] 28 (0,0)) (Y47) hb);replace BK354:=am (jc (g:=gb354) (o:=.cells #[.int .i64 ((ja l1_0 x5_1).f0), .int .i64 ((ja l1_0 x5_1).f1), .int .i64 ((ja l1_0 x5_1).f2), .int .i64 ((ja l1_0 x5_1).f3), .bool ((ja l1_0 x5_1).f4)] 66 (0,0)) (Y48) hb);replace HB:=am (je (Y15) hb);(try clear hb);(try clear hb2);(try clear hk);(try clear hi)));try go_wp2_with (first |(go_at_call 78;(with_reducible refine (jMa.calls _ _ l0_0 ((ja l1_0 x5_1).f0) false _ ?side1 ?side2 A14.out).mono ?_);(case side1=>exact Kd.jU HR0_0.out (Y15));(case side2=>exact HC0_0.out);rintro e w40 ⟨rfl,hb⟩;replace BK351:=am (jc (g:=gb351) (o:=.cells #[.slice A0_0 l0_0.length c0_0] 25 (0,0)) (Y46) hb);replace BK352:=am (jc (g:=gb352) (o:=.cells #[.slice (some ad353) l1_0.length c1_0] 28 (0,0)) (Y47) hb);replace BK354:=am (jc (g:=gb354) (o:=.cells #[.int .i64 ((ja l1_0 x5_1).f0), .int .i64 ((ja l1_0 x5_1).f1), .int .i64 ((ja l1_0 x5_1).f2), .int .i64 ((ja l1_0 x5_1).f3), .bool ((ja l1_0 x5_1).f4)] 66 (0,0)) (Y48) hb);replace HB:=am (je (Y15) hb);(try clear hb);(try clear hb2);(try clear hk);(try clear hi))))
       go_meet
       case rel=>exact ⟨_,(true),(sq),H',⟨by have:=HK1.out;first | omega | exact Nat.le_refl _⟩,⟨kq BK351.out⟩,⟨kq BK352.out⟩,⟨kq BK354.out⟩,⟨Y15⟩⟩
     case rest =>
      clear HC7
      try clear c1
      try clear c2
      try clear p2
      try clear c3
      try clear p3
      try clear q3
      try clear hx3
      try clear c4
      try clear c5
      try clear c5b0
      try clear c6
      try clear c6b0
      try clear c8
      try clear c11
      try clear c12
      try clear c15
      try clear c17
      try clear c19
      try clear c20
      try clear c22
      try clear c28
      try clear c29
      try clear c31
      try clear c35
      try clear p35
      try clear q35
      try clear hx35
      try clear c36
      try clear c38
      try clear hcz13_0
      try clear hcz13_1
      try clear hcz13_2
      try clear hcz13_3
      try clear hcz13_4
      try clear hcz21_0
      try clear hcz23_0
      try clear hcz23_1
      try clear hcz23_2
      try clear hcz23_3
      try clear hcz23_4
      try clear hcz25_0
      try clear hcz25_1
      try clear hcz25_2
      try clear hcz25_3
      try clear hcz25_4
      try clear hcz26_0
      try clear hcz30_0
      try clear hcz32_0
      try clear hcz32_1
      try clear hcz32_2
      try clear hcz32_3
      try clear hcz32_4
      try clear hcz34_0
      try clear hcz34_1
      try clear hcz34_2
      try clear hcz34_3
      try clear hcz34_4
      try clear hcz37_0
      try clear hcz39_0
      try clear hcz39_1
      try clear hcz39_2
      try clear hcz39_3
      try clear hcz39_4
      try clear hcz9_0
      try clear hfz13_0
      try clear hfz13_1
      try clear hfz13_2
      try clear hfz13_3
      try clear hfz13_4
      try clear hfz21_0
      try clear hfz23_0
      try clear hfz23_1
      try clear hfz23_2
      try clear hfz23_3
      try clear hfz23_4
      try clear hfz25_0
      try clear hfz25_1
      try clear hfz25_2
      try clear hfz25_3
      try clear hfz25_4
      try clear hfz26_0
      try clear hfz30_0
      try clear hfz32_0
      try clear hfz32_1
      try clear hfz32_2
      try clear hfz32_3
      try clear hfz32_4
      try clear hfz34_0
      try clear hfz34_1
      try clear hfz34_2
      try clear hfz34_3
      try clear hfz34_4
      try clear hfz37_0
      try clear hfz39_0
      try clear hfz39_1
      try clear hfz39_2
      try clear hfz39_3
      try clear hfz39_4
      try clear hfz9_0
      try clear hx353_0
      try clear hx353_1
      try clear hx353_2
      try clear hx353_3
      try clear hx353_4
      try clear p2
      try clear p353
      try clear q353
      obtain ⟨kq,x37_6,rfl,HA,HJ6,BK351,BK352,BK354,HB⟩:=hcut
      cases kq with
      | zero=>exact absurd HA.out (by simp [jF.j1])
      | succ kj6 =>
       have H:=HA.out
       clear HA
       simp only [jF.j1] at H
       by_cases c41:x37_6=true
       ·subst c41
        have H1:(some false)=some r:=by rw [if_pos rfl] at H;exact H
        clear H
        have H:=H1
        clear H1
        obtain rfl:=Option.some.inj H
        go_wp2
        repeat (go_quiet (fail);try go_wp2)
        go_ret
        exact ⟨Y1,Y15⟩
       ·replace c41:=Bool.eq_false_iff.mpr c41
        subst c41
        have H1:(jF.l0 kj6 (wrap64 (x5_1+1)) l0_0 l1_0)=some r:=by rw [if_neg (show ¬ (false=true) by decide)] at H;exact H
        clear H
        have H:=H1
        clear H1
        have H':=am H
        clear H
        go_wp2
        repeat (go_quiet (fail);try go_wp2)
        go_roundg kj6
        case measure=>have:=HK1.out;have:=HJ6.out;omega
        case rel=>exact ⟨(wrap64 (x5_1+1)),(sq),H',⟨by have:=HK1.out;have:=HJ6.out;omega⟩,⟨kq BK351.out⟩,⟨kq BK352.out⟩,⟨Y15⟩⟩
    ·rw [if_neg c6] at H
     exact absurd H (by simp)
   ·rw [if_neg c5] at H
    have c5b0:decide (x5_1<(l1_0.length:Int))=false:=dzF c5
    clear c5
    have H':=am H
    clear H
    have hnb42:=NB352_351.out
    have hnc42:=NB351_352.out
    have hcz43_0:=bc0 BK352.out
    have hfz43_0:=jb BK352.out 0
    go_wp2
    repeat (go_quiet (fail);try go_wp2)
    go_loopg [7] k1 (fun kq v7 w'=>∃ (x7_2:Int),v7=.int .i64 x7_2∧jB (jF.l1 kq x7_2 l0_0 l1_0=some r)∧jB (kq≤k1)∧jB (w'.heap[gb351]?=some (.cells #[(.slice A0_0 l0_0.length c0_0)] 25 (0,0)))∧jB (w'.heap[gb352]?=some (.cells #[(.slice A1_0 l1_0.length c1_0)] 28 (0,0)))∧jB (Below w.heap.size w w'))
    case atStart=>exact ⟨(0),(sq),H',⟨Nat.le_refl _⟩,⟨kq BK351.out⟩,⟨kq BK352.out⟩,⟨Y11⟩⟩
    case round =>
     clear H'
     try clear c1
     try clear c2
     try clear p2
     try clear c3
     try clear p3
     try clear q3
     try clear hx3
     try clear c4
     try clear c5
     try clear c5b0
     try clear c6
     try clear c6b0
     try clear p6
     try clear c8
     try clear c11
     try clear c12
     try clear c15
     try clear c17
     try clear c19
     try clear c20
     try clear c22
     try clear c28
     try clear c29
     try clear c31
     try clear c35
     try clear p35
     try clear q35
     try clear hx35
     try clear c36
     try clear c38
     try clear c41
     try clear c42
     try clear hcz13_0
     try clear hcz13_1
     try clear hcz13_2
     try clear hcz13_3
     try clear hcz13_4
     try clear hcz21_0
     try clear hcz23_0
     try clear hcz23_1
     try clear hcz23_2
     try clear hcz23_3
     try clear hcz23_4
     try clear hcz25_0
     try clear hcz25_1
     try clear hcz25_2
     try clear hcz25_3
     try clear hcz25_4
     try clear hcz26_0
     try clear hcz30_0
     try clear hcz32_0
     try clear hcz32_1
     try clear hcz32_2
     try clear hcz32_3
     try clear hcz32_4
     try clear hcz34_0
     try clear hcz34_1
     try clear hcz34_2
     try clear hcz34_3
     try clear hcz34_4
     try clear hcz37_0
     try clear hcz39_0
     try clear hcz39_1
     try clear hcz39_2
     try clear hcz39_3
     try clear hcz39_4
     try clear hcz43_0
     try clear hcz9_0
     try clear hfz13_0
     try clear hfz13_1
     try clear hfz13_2
     try clear hfz13_3
     try clear hfz13_4
     try clear hfz21_0
     try clear hfz23_0
     try clear hfz23_1
     try clear hfz23_2
     try clear hfz23_3
     try clear hfz23_4
     try clear hfz25_0
     try clear hfz25_1
     try clear hfz25_2
     try clear hfz25_3
     try clear hfz25_4
     try clear hfz26_0
     try clear hfz30_0
     try clear hfz32_0
     try clear hfz32_1
     try clear hfz32_2
     try clear hfz32_3
     try clear hfz32_4
     try clear hfz34_0
     try clear hfz34_1
     try clear hfz34_2
     try clear hfz34_3
     try clear hfz34_4
     try clear hfz37_0
     try clear hfz39_0
     try clear hfz39_1
     try clear hfz39_2
     try clear hfz39_3
     try clear hfz39_4
     try clear hfz43_0
     try clear hfz9_0
     try clear hx353_0
     try clear hx353_1
     try clear hx353_2
     try clear hx353_3
     try clear hx353_4
     try clear p2
     try clear p3
     try clear p35
     try clear p353
     try clear q3
     try clear q35
     try clear q353
     obtain ⟨x7_2,rfl,HA,HK2,BK351,BK352,HB⟩:=hrel
     cases gk with
     | zero=>exact absurd HA.out (by simp [jF.l1])
     | succ k2 =>
      have H:=HA.out
      clear HA
      simp only [jF.l1] at H
      by_cases c44:x7_2<(l1_0.length:Int)
      ·rw [if_pos c44] at H
       have c44b0:decide (x7_2<(l1_0.length:Int))=true:=dzT c44
       clear c44
       replace H:=bzS H
       obtain ⟨t359,A450,H⟩:=H
       replace H:(if 0≤(wrap64 ((t359.length:Int) - 1)) then (if (wrap64 ((t359.length:Int) - 1))<(t359.length:Int) then (if 0≤(rd t359 (wrap64 ((t359.length:Int) - 1))) then (if (rd t359 (wrap64 ((t359.length:Int) - 1)))<(l1_0.length:Int) then (if ((ja l1_0 (rd t359 (wrap64 ((t359.length:Int) - 1)))).f3)≥0 then (some false) else (jF.l1 k2 (wrap64 (x7_2+1)) l0_0 l1_0)) else (none)) else (none)) else (none)) else (none))=some r:=H
       have A45:=am A450
       clear A450
       obtain ⟨ji46,hji46⟩:∃ j_:Int,(wrap64 ((t359.length:Int) - 1))=j_:=⟨_,rfl⟩
       replace H:(if 0≤(ji46) then (if (ji46)<(t359.length:Int) then (if 0≤(rd t359 (ji46)) then (if (rd t359 (ji46))<(l1_0.length:Int) then (if ((ja l1_0 (rd t359 (ji46))).f3)≥0 then (some false) else (jF.l1 k2 (wrap64 (x7_2+1)) l0_0 l1_0)) else (none)) else (none)) else (none)) else (none))=some r:=by first |(rw [hji46] at H;exact H) |(simp only [hji46] at H ⊢;exact H)
       (try rw [hji46] at A45)
       have hji46w:(IntKind.i64.wrap ((t359.length:Int) - 1))=ji46:=(jwb _).trans hji46
       by_cases c47:0≤(ji46)
       ·rw [if_pos c47] at H
        have c47b0:decide (0≤(ji46))=true:=dzT c47
        clear c47
        by_cases c48:(ji46)<(t359.length:Int)
        ·rw [if_pos c48] at H
         have c48b0:decide ((ji46)<(t359.length:Int))=true:=dzT c48
         clear c48
         by_cases c49:0≤(rd t359 (ji46))
         ·rw [if_pos c49] at H
          have c49b0:decide (0≤(rd t359 (ji46)))=true:=dzT c49
          clear c49
          by_cases c50:(rd t359 (ji46))<(l1_0.length:Int)
          ·rw [if_pos c50] at H
           have c50b0:decide ((rd t359 (ji46))<(l1_0.length:Int))=true:=dzT c50
           clear c50
           by_cases c51:((ja l1_0 (rd t359 (ji46))).f3)≥0
           ·rw [if_pos c51] at H
            have c51b0:decide (0≤((ja l1_0 (rd t359 (ji46))).f3))=true:=dzT c51
            clear c51
            obtain rfl:=Option.some.inj H
            have hnb52:=NB352_351.out
            have hnc52:=NB351_352.out
            have hcz53_0:=bc0 BK352.out
            have hfz53_0:=jb BK352.out 0
            go_wp2_with (first |(go_at_call 81;(with_reducible refine (jna.calls k2 _ _ l1_0 x7_2 t359 _ ?side1 ?side2 A45.out).mono ?_);(case side1=>exact cq (Kd.jU HR1_0.out HB.out));(case side2=>exact HC1_0.out);rintro e w54 ⟨v360,rfl,ho0,hb⟩;have HO361:=am (Kd.jia ho0 (jM (Y11)));replace BK351:=am (jc (g:=gb351) (o:=.cells #[.slice A0_0 l0_0.length c0_0] 25 (0,0)) (kq BK351.out) hb);replace BK352:=am (jc (g:=gb352) (o:=.cells #[.slice A1_0 l1_0.length c1_0] 28 (0,0)) (kq BK352.out) hb);replace HB:=am (je (Y11) hb);(try clear hb);(try clear hb2);(try clear hk);(try clear hi);(try clear ho0);have hcz55_0:=bc0 BK352.out;have hfz55_0:=jb BK352.out 0;obtain ⟨Ao56,co56,eo56⟩:=Kd.jZ HO361.out;subst eo56;have p362:0≤((ji46):Int):=ozD (uq);have q362:(ji46)<(t359.length:Int):=ozD (uq);obtain ⟨ad362,e362,hx362_0⟩:=Kd.jNb (Kd.jC HO361.out).2.2 (ji46) p362 q362;cases e362;replace p362:=ezT p362;replace q362:=ezT q362;have p363:0≤((rd t359 (ji46)):Int):=ozD (uq);have q363:(rd t359 (ji46))<(l1_0.length:Int):=ozD (uq);obtain ⟨ad363,e363,hx363_0,hx363_1,hx363_2,hx363_3,hx363_4⟩:=jlb HR1_0.out (rd t359 (ji46)) p363 q363;cases e363;replace hx363_0:=cb HB.out hx363_0;replace hx363_1:=cb HB.out hx363_1;replace hx363_2:=cb HB.out hx363_2;replace hx363_3:=cb HB.out hx363_3;replace hx363_4:=cb HB.out hx363_4;replace p363:=ezT p363;replace q363:=ezT q363))
            repeat (go_quiet (first |(go_at_call 81;(with_reducible refine (jna.calls k2 _ _ l1_0 x7_2 t359 _ ?side1 ?side2 A45.out).mono ?_);(case side1=>exact cq (Kd.jU HR1_0.out HB.out));(case side2=>exact HC1_0.out);rintro e w54 ⟨v360,rfl,ho0,hb⟩;have HO361:=am (Kd.jia ho0 (jM (Y11)));replace BK351:=am (jc (g:=gb351) (o:=.cells #[.slice A0_0 l0_0.length c0_0] 25 (0,0)) (kq BK351.out) hb);replace BK352:=am (jc (g:=gb352) (o:=.cells #[.slice A1_0 l1_0.length c1_0] 28 (0,0)) (kq BK352.out) hb);replace HB:=am (je (Y11) hb);(try clear hb);(try clear hb2);(try clear hk);(try clear hi);(try clear ho0);have hcz55_0:=bc0 BK352.out;have hfz55_0:=jb BK352.out 0;obtain ⟨Ao56,co56,eo56⟩:=Kd.jZ HO361.out;subst eo56;have p362:0≤((ji46):Int):=ozD (uq);have q362:(ji46)<(t359.length:Int):=ozD (uq);obtain ⟨ad362,e362,hx362_0⟩:=Kd.jNb (Kd.jC HO361.out).2.2 (ji46) p362 q362;cases e362;replace p362:=ezT p362;replace q362:=ezT q362;have p363:0≤((rd t359 (ji46)):Int):=ozD (uq);have q363:(rd t359 (ji46))<(l1_0.length:Int):=ozD (uq);obtain ⟨ad363,e363,hx363_0,hx363_1,hx363_2,hx363_3,hx363_4⟩:=jlb HR1_0.out (rd t359 (ji46)) p363 q363;cases e363;replace hx363_0:=cb HB.out hx363_0;replace hx363_1:=cb HB.out hx363_1;replace hx363_2:=cb HB.out hx363_2;replace hx363_3:=cb HB.out hx363_3;replace hx363_4:=cb HB.out hx363_4;replace p363:=ezT p363;replace q363:=ezT q363));try go_wp2_with (first |(go_at_call 81;(with_reducible refine (jna.calls k2 _ _ l1_0 x7_2 t359 _ ?side1 ?side2 A45.out).mono ?_);(case side1=>exact cq (Kd.jU HR1_0.out HB.out));(case side2=>exact HC1_0.out);rintro e w54 ⟨v360,rfl,ho0,hb⟩;have HO361:=am (Kd.jia ho0 (jM (Y11)));replace BK351:=am (jc (g:=gb351) (o:=.cells #[.slice A0_0 l0_0.length c0_0] 25 (0,0)) (kq BK351.out) hb);replace BK352:=am (jc (g:=gb352) (o:=.cells #[.slice A1_0 l1_0.length c1_0] 28 (0,0)) (kq BK352.out) hb);replace HB:=am (je (Y11) hb);(try clear hb);(try clear hb2);(try clear hk);(try clear hi);(try clear ho0);have hcz55_0:=bc0 BK352.out;have hfz55_0:=jb BK352.out 0;obtain ⟨Ao56,co56,eo56⟩:=Kd.jZ HO361.out;subst eo56;have p362:0≤((ji46):Int):=ozD (uq);have q362:(ji46)<(t359.length:Int):=ozD (uq);obtain ⟨ad362,e362,hx362_0⟩:=Kd.jNb (Kd.jC HO361.out).2.2 (ji46) p362 q362;cases e362;replace p362:=ezT p362;replace q362:=ezT q362;have p363:0≤((rd t359 (ji46)):Int):=ozD (uq);have q363:(rd t359 (ji46))<(l1_0.length:Int):=ozD (uq);obtain ⟨ad363,e363,hx363_0,hx363_1,hx363_2,hx363_3,hx363_4⟩:=jlb HR1_0.out (rd t359 (ji46)) p363 q363;cases e363;replace hx363_0:=cb HB.out hx363_0;replace hx363_1:=cb HB.out hx363_1;replace hx363_2:=cb HB.out hx363_2;replace hx363_3:=cb HB.out hx363_3;replace hx363_4:=cb HB.out hx363_4;replace p363:=ezT p363;replace q363:=ezT q363)))
            go_ret
            exact ⟨by first | rfl |(simp [jrb,jqb] <;> rfl) |(simp only [← hji46];first | rfl |(simp [jrb,jqb] <;> rfl)) |(simp [*,jrb,jqb] <;> rfl),Y11⟩
           ·rw [if_neg c51] at H
            have c51b0:decide (0≤((ja l1_0 (rd t359 (ji46))).f3))=false:=dzF c51
            clear c51
            have H':=am H
            clear H
            have hnb57:=NB352_351.out
            have hnc57:=NB351_352.out
            have hcz58_0:=bc0 BK352.out
            have hfz58_0:=jb BK352.out 0
            go_wp2_with (first |(go_at_call 81;(with_reducible refine (jna.calls k2 _ _ l1_0 x7_2 t359 _ ?side1 ?side2 A45.out).mono ?_);(case side1=>exact cq (Kd.jU HR1_0.out HB.out));(case side2=>exact HC1_0.out);rintro e w59 ⟨v360,rfl,ho0,hb⟩;have HO361:=am (Kd.jia ho0 (jM (Y11)));replace BK351:=am (jc (g:=gb351) (o:=.cells #[.slice A0_0 l0_0.length c0_0] 25 (0,0)) (kq BK351.out) hb);replace BK352:=am (jc (g:=gb352) (o:=.cells #[.slice A1_0 l1_0.length c1_0] 28 (0,0)) (kq BK352.out) hb);replace HB:=am (je (Y11) hb);(try clear hb);(try clear hb2);(try clear hk);(try clear hi);(try clear ho0);have hcz60_0:=bc0 BK352.out;have hfz60_0:=jb BK352.out 0;obtain ⟨Ao61,co61,eo61⟩:=Kd.jZ HO361.out;subst eo61;have p362:0≤((ji46):Int):=ozD (uq);have q362:(ji46)<(t359.length:Int):=ozD (uq);obtain ⟨ad362,e362,hx362_0⟩:=Kd.jNb (Kd.jC HO361.out).2.2 (ji46) p362 q362;cases e362;replace p362:=ezT p362;replace q362:=ezT q362;have p363:0≤((rd t359 (ji46)):Int):=ozD (uq);have q363:(rd t359 (ji46))<(l1_0.length:Int):=ozD (uq);obtain ⟨ad363,e363,hx363_0,hx363_1,hx363_2,hx363_3,hx363_4⟩:=jlb HR1_0.out (rd t359 (ji46)) p363 q363;cases e363;replace hx363_0:=cb HB.out hx363_0;replace hx363_1:=cb HB.out hx363_1;replace hx363_2:=cb HB.out hx363_2;replace hx363_3:=cb HB.out hx363_3;replace hx363_4:=cb HB.out hx363_4;replace p363:=ezT p363;replace q363:=ezT q363))
            repeat (go_quiet (first |(go_at_call 81;(with_reducible refine (jna.calls k2 _ _ l1_0 x7_2 t359 _ ?side1 ?side2 A45.out).mono ?_);(case side1=>exact cq (Kd.jU HR1_0.out HB.out));(case side2=>exact HC1_0.out);rintro e w59 ⟨v360,rfl,ho0,hb⟩;have HO361:=am (Kd.jia ho0 (jM (Y11)));replace BK351:=am (jc (g:=gb351) (o:=.cells #[.slice A0_0 l0_0.length c0_0] 25 (0,0)) (kq BK351.out) hb);replace BK352:=am (jc (g:=gb352) (o:=.cells #[.slice A1_0 l1_0.length c1_0] 28 (0,0)) (kq BK352.out) hb);replace HB:=am (je (Y11) hb);(try clear hb);(try clear hb2);(try clear hk);(try clear hi);(try clear ho0);have hcz60_0:=bc0 BK352.out;have hfz60_0:=jb BK352.out 0;obtain ⟨Ao61,co61,eo61⟩:=Kd.jZ HO361.out;subst eo61;have p362:0≤((ji46):Int):=ozD (uq);have q362:(ji46)<(t359.length:Int):=ozD (uq);obtain ⟨ad362,e362,hx362_0⟩:=Kd.jNb (Kd.jC HO361.out).2.2 (ji46) p362 q362;cases e362;replace p362:=ezT p362;replace q362:=ezT q362;have p363:0≤((rd t359 (ji46)):Int):=ozD (uq);have q363:(rd t359 (ji46))<(l1_0.length:Int):=ozD (uq);obtain ⟨ad363,e363,hx363_0,hx363_1,hx363_2,hx363_3,hx363_4⟩:=jlb HR1_0.out (rd t359 (ji46)) p363 q363;cases e363;replace hx363_0:=cb HB.out hx363_0;replace hx363_1:=cb HB.out hx363_1;replace hx363_2:=cb HB.out hx363_2;replace hx363_3:=cb HB.out hx363_3;replace hx363_4:=cb HB.out hx363_4;replace p363:=ezT p363;replace q363:=ezT q363));try go_wp2_with (first |(go_at_call 81;(with_reducible refine (jna.calls k2 _ _ l1_0 x7_2 t359 _ ?side1 ?side2 A45.out).mono ?_);(case side1=>exact cq (Kd.jU HR1_0.out HB.out));(case side2=>exact HC1_0.out);rintro e w59 ⟨v360,rfl,ho0,hb⟩;have HO361:=am (Kd.jia ho0 (jM (Y11)));replace BK351:=am (jc (g:=gb351) (o:=.cells #[.slice A0_0 l0_0.length c0_0] 25 (0,0)) (kq BK351.out) hb);replace BK352:=am (jc (g:=gb352) (o:=.cells #[.slice A1_0 l1_0.length c1_0] 28 (0,0)) (kq BK352.out) hb);replace HB:=am (je (Y11) hb);(try clear hb);(try clear hb2);(try clear hk);(try clear hi);(try clear ho0);have hcz60_0:=bc0 BK352.out;have hfz60_0:=jb BK352.out 0;obtain ⟨Ao61,co61,eo61⟩:=Kd.jZ HO361.out;subst eo61;have p362:0≤((ji46):Int):=ozD (uq);have q362:(ji46)<(t359.length:Int):=ozD (uq);obtain ⟨ad362,e362,hx362_0⟩:=Kd.jNb (Kd.jC HO361.out).2.2 (ji46) p362 q362;cases e362;replace p362:=ezT p362;replace q362:=ezT q362;have p363:0≤((rd t359 (ji46)):Int):=ozD (uq);have q363:(rd t359 (ji46))<(l1_0.length:Int):=ozD (uq);obtain ⟨ad363,e363,hx363_0,hx363_1,hx363_2,hx363_3,hx363_4⟩:=jlb HR1_0.out (rd t359 (ji46)) p363 q363;cases e363;replace hx363_0:=cb HB.out hx363_0;replace hx363_1:=cb HB.out hx363_1;replace hx363_2:=cb HB.out hx363_2;replace hx363_3:=cb HB.out hx363_3;replace hx363_4:=cb HB.out hx363_4;replace p363:=ezT p363;replace q363:=ezT q363)))
            go_roundg k2
            case measure=>have:=HK1.out;have:=HK2.out;omega
            case rel=>exact ⟨(wrap64 (x7_2+1)),(sq),H',⟨by have:=HK1.out;have:=HK2.out;omega⟩,⟨kq BK351.out⟩,⟨kq BK352.out⟩,⟨Y11⟩⟩
          ·rw [if_neg c50] at H
           exact absurd H (by simp)
         ·rw [if_neg c49] at H
          exact absurd H (by simp)
        ·rw [if_neg c48] at H
         exact absurd H (by simp)
       ·rw [if_neg c47] at H
        exact absurd H (by simp)
      ·rw [if_neg c44] at H
       have c44b0:decide (x7_2<(l1_0.length:Int))=false:=dzF c44
       clear c44
       replace H:=bzS H
       obtain ⟨t358,A620,H⟩:=H
       replace H:(if t358=true then (some (decide ((l1_0.length:Int)≤24))) else (some false))=some r:=H
       have A62:=am A620
       clear A620
       by_cases c63:t358=true
       ·subst c63
        have H1:(some (decide ((l1_0.length:Int)≤24)))=some r:=by rw [if_pos rfl] at H;exact H
        clear H
        have H:=H1
        clear H1
        obtain rfl:=Option.some.inj H
        have hnb64:=NB352_351.out
        have hnc64:=NB351_352.out
        have hcz65_0:=bc0 BK352.out
        have hfz65_0:=jb BK352.out 0
        have hcz66_0:=bc0 BK351.out
        have hfz66_0:=jb BK351.out 0
        go_wp2_with (first |(go_at_call 82;(with_reducible refine (jK.calls k2 _ _ l0_0 true _ ?side1 ?side2 A62.out).mono ?_);(case side1=>exact cq (Kd.jU HR0_0.out HB.out));(case side2=>exact HC0_0.out);rintro e w67 ⟨rfl,hb⟩;replace BK351:=am (jc (g:=gb351) (o:=.cells #[.slice A0_0 l0_0.length c0_0] 25 (0,0)) (kq BK351.out) hb);replace BK352:=am (jc (g:=gb352) (o:=.cells #[.slice A1_0 l1_0.length c1_0] 28 (0,0)) (kq BK352.out) hb);replace HB:=am (je (Y11) hb);(try clear hb);(try clear hb2);(try clear hk);(try clear hi);have hcz68_0:=bc0 BK352.out;have hfz68_0:=jb BK352.out 0))
        repeat (go_quiet (first |(go_at_call 82;(with_reducible refine (jK.calls k2 _ _ l0_0 true _ ?side1 ?side2 A62.out).mono ?_);(case side1=>exact cq (Kd.jU HR0_0.out HB.out));(case side2=>exact HC0_0.out);rintro e w67 ⟨rfl,hb⟩;replace BK351:=am (jc (g:=gb351) (o:=.cells #[.slice A0_0 l0_0.length c0_0] 25 (0,0)) (kq BK351.out) hb);replace BK352:=am (jc (g:=gb352) (o:=.cells #[.slice A1_0 l1_0.length c1_0] 28 (0,0)) (kq BK352.out) hb);replace HB:=am (je (Y11) hb);(try clear hb);(try clear hb2);(try clear hk);(try clear hi);have hcz68_0:=bc0 BK352.out;have hfz68_0:=jb BK352.out 0));try go_wp2_with (first |(go_at_call 82;(with_reducible refine (jK.calls k2 _ _ l0_0 true _ ?side1 ?side2 A62.out).mono ?_);(case side1=>exact cq (Kd.jU HR0_0.out HB.out));(case side2=>exact HC0_0.out);rintro e w67 ⟨rfl,hb⟩;replace BK351:=am (jc (g:=gb351) (o:=.cells #[.slice A0_0 l0_0.length c0_0] 25 (0,0)) (kq BK351.out) hb);replace BK352:=am (jc (g:=gb352) (o:=.cells #[.slice A1_0 l1_0.length c1_0] 28 (0,0)) (kq BK352.out) hb);replace HB:=am (je (Y11) hb);(try clear hb);(try clear hb2);(try clear hk);(try clear hi);have hcz68_0:=bc0 BK352.out;have hfz68_0:=jb BK352.out 0)))
        go_ret
        exact ⟨Y1,Y11⟩
       ·replace c63:=Bool.eq_false_iff.mpr c63
        subst c63
        have H1:(some false)=some r:=by rw [if_neg (show ¬ (false=true) by decide)] at H;exact H
        clear H
        have H:=H1
        clear H1
        obtain rfl:=Option.some.inj H
        have hnb69:=NB352_351.out
        have hnc69:=NB351_352.out
        have hcz70_0:=bc0 BK352.out
        have hfz70_0:=jb BK352.out 0
        have hcz71_0:=bc0 BK351.out
        have hfz71_0:=jb BK351.out 0
        go_wp2_with (first |(go_at_call 82;(with_reducible refine (jK.calls k2 _ _ l0_0 false _ ?side1 ?side2 A62.out).mono ?_);(case side1=>exact cq (Kd.jU HR0_0.out HB.out));(case side2=>exact HC0_0.out);rintro e w72 ⟨rfl,hb⟩;replace BK351:=am (jc (g:=gb351) (o:=.cells #[.slice A0_0 l0_0.length c0_0] 25 (0,0)) (kq BK351.out) hb);replace BK352:=am (jc (g:=gb352) (o:=.cells #[.slice A1_0 l1_0.length c1_0] 28 (0,0)) (kq BK352.out) hb);replace HB:=am (je (Y11) hb);(try clear hb);(try clear hb2);(try clear hk);(try clear hi)))
        repeat (go_quiet (first |(go_at_call 82;(with_reducible refine (jK.calls k2 _ _ l0_0 false _ ?side1 ?side2 A62.out).mono ?_);(case side1=>exact cq (Kd.jU HR0_0.out HB.out));(case side2=>exact HC0_0.out);rintro e w72 ⟨rfl,hb⟩;replace BK351:=am (jc (g:=gb351) (o:=.cells #[.slice A0_0 l0_0.length c0_0] 25 (0,0)) (kq BK351.out) hb);replace BK352:=am (jc (g:=gb352) (o:=.cells #[.slice A1_0 l1_0.length c1_0] 28 (0,0)) (kq BK352.out) hb);replace HB:=am (je (Y11) hb);(try clear hb);(try clear hb2);(try clear hk);(try clear hi)));try go_wp2_with (first |(go_at_call 82;(with_reducible refine (jK.calls k2 _ _ l0_0 false _ ?side1 ?side2 A62.out).mono ?_);(case side1=>exact cq (Kd.jU HR0_0.out HB.out));(case side2=>exact HC0_0.out);rintro e w72 ⟨rfl,hb⟩;replace BK351:=am (jc (g:=gb351) (o:=.cells #[.slice A0_0 l0_0.length c0_0] 25 (0,0)) (kq BK351.out) hb);replace BK352:=am (jc (g:=gb352) (o:=.cells #[.slice A1_0 l1_0.length c1_0] 28 (0,0)) (kq BK352.out) hb);replace HB:=am (je (Y11) hb);(try clear hb);(try clear hb2);(try clear hk);(try clear hi))))
        go_ret
        exact ⟨Y1,Y11⟩
def jpb.f (l0_0 : List (S66)) (a1 : Int) : Option (Bool) := (jR.f a1 0 (wrap64 ((l0_0.length : Int) - 1))).bind fun t365 => (some t365)
set_option maxHeartbeats 8000000 in
set_option maxRecDepth 100000 in
theorem jpb.calls (A0_0 : Option Addr) (c0_0 : Nat) (l0_0 : List (S66)) (a1 : Int) (r : Bool) (w : World) (hr0_0 : Kd.C k66 w A0_0 l0_0.length l0_0) (hc0_0 : l0_0.length ≤ c0_0) (h : jpb.f l0_0 a1 = some r) :
  Calls Tryd.prog 55 #[.agg #[.slice A0_0 l0_0.length c0_0], .int .i64 a1] w fun e w'=>e=.returned (.bool r)∧Below w.heap.size w w':=by
 have hu28:=Tryd.underlying28
 have HR0_0:=am hr0_0
 have HC0_0:=am hc0_0
 clear hr0_0 hc0_0
 have HB:=am (Below.refl w.heap.size w)
 have H:((jR.f a1 0 (wrap64 ((l0_0.length:Int) - 1))).bind fun t365=>(some t365))=some r:=h
 clear h
 replace H:=bzS H
 obtain ⟨t365,A30,H⟩:=H
 replace H:(some t365)=some r:=H
 have A3:=am A30
 clear A30
 obtain rfl:=Option.some.inj H
 go_enter Tryd.func55,Tryd.ntmps55
 go_wp2_with (first |((with_reducible refine jD (N:=2) rfl ?_);refine bE (N:=2) (cs:=#[.slice A0_0 l0_0.length c0_0]) (t:=28) ?_;intro gb364 hg w4 hbox hb;have BK364:=am (hbox);have GW364:=am ((Y0:w.heap.size≤gb364));have GE364:=am ((Y0:w.heap.size≤gb364));replace HB:=am (je (bq) hb);clear hb hbox hg;have hcz5_0:=bc0 BK364.out;have hfz5_0:=jb BK364.out 0) |((with_reducible refine jw (f:=79) rfl ?_);refine gL (some 10) Tryd.func79 #[.int .i64 a1, .int .i64 0, .int .i64 (wrap64 ((l0_0.length:Int) - 1))] ?_;(with_reducible refine (jR.calls a1 0 (wrap64 ((l0_0.length:Int) - 1)) t365 _ A3.out).mono ?_);rintro e w' ⟨rfl,⟨nd,rfl⟩⟩;refine ⟨_,rfl,?_⟩))
 go_ret
 exact ⟨Y1,by repeat (first |(with_reducible first | exact HB.out | apply jv | apply jo | apply jq | refine jl ?_ GE364.out) | exact HB.out)⟩
def jkb.f (k : Nat) (l0_0 : List (S99)) (l1_0 : List (S66)) (a2 : Int) : Option (Bool) := (jF.f k l0_0 l1_0).bind fun t368 => (if t368 = true then ((jpb.f l1_0 a2).bind fun t369 => (some t369)) else (some false))
set_option maxHeartbeats 8000000 in
set_option maxRecDepth 100000 in
theorem jkb.calls (k : Nat) (A0_0 : Option Addr) (c0_0 : Nat) (l0_0 : List (S99)) (A1_0 : Option Addr) (c1_0 : Nat) (l1_0 : List (S66)) (a2 : Int) (r : Bool) (w : World) (hr0_0 : Kd.C k99 w A0_0 l0_0.length l0_0) (hc0_0 : l0_0.length ≤ c0_0) (hr1_0 : Kd.C k66 w A1_0 l1_0.length l1_0) (hc1_0 : l1_0.length ≤ c1_0) (h : jkb.f k l0_0 l1_0 a2 = some r) :
  Calls Tryd.prog 31 #[.agg #[.slice A0_0 l0_0.length c0_0], .agg #[.slice A1_0 l1_0.length c1_0], .int .i64 a2] w fun e w'=>e=.returned (.bool r)∧Below w.heap.size w w':=by
 have hu25:=Tryd.underlying25
 have hu28:=Tryd.underlying28
 have HR0_0:=am hr0_0
 have HC0_0:=am hc0_0
 clear hr0_0 hc0_0
 have HR1_0:=am hr1_0
 have HC1_0:=am hc1_0
 clear hr1_0 hc1_0
 have HB:=am (Below.refl w.heap.size w)
 have H:((jF.f k l0_0 l1_0).bind fun t368=>(if t368=true then ((jpb.f l1_0 a2).bind fun t369=>(some t369)) else (some false)))=some r:=h
 clear h
 replace H:=bzS H
 obtain ⟨t368,A40,H⟩:=H
 replace H:(if t368=true then ((jpb.f l1_0 a2).bind fun t369=>(some t369)) else (some false))=some r:=H
 have A4:=am A40
 clear A40
 by_cases c5:t368=true
 ·subst c5
  have H1:((jpb.f l1_0 a2).bind fun t369=>(some t369))=some r:=by rw [if_pos rfl] at H;exact H
  clear H
  have H:=H1
  clear H1
  replace H:=bzS H
  obtain ⟨t369,A60,H⟩:=H
  replace H:(some t369)=some r:=H
  have A6:=am A60
  clear A60
  obtain rfl:=Option.some.inj H
  go_enter Tryd.func31,Tryd.ntmps31
  go_wp2_with (first |((with_reducible refine jD (N:=3) rfl ?_);refine bE (N:=3) (cs:=#[.slice A0_0 l0_0.length c0_0]) (t:=25) ?_;intro gb366 hg w7 hbox hb;have BK366:=am (hbox);have GW366:=am ((Y0:w.heap.size≤gb366));have GE366:=am ((Y0:w.heap.size≤gb366));replace HB:=am (je (bq) hb);clear hb hbox hg) |((with_reducible refine jD (N:=4) rfl ?_);refine bE (N:=4) (cs:=#[.slice A1_0 l1_0.length c1_0]) (t:=28) ?_;intro gb367 hg w8 hbox hb;have BK367:=am (hbox);have GW367:=am ((Y118:w.heap.size≤gb367));have GE367:=am ((Y118:w.heap.size≤gb367));have NB366_367:=am ((by rw [hg];exact Nat.ne_of_lt (jda (g:=gb366) (o:=.cells #[.slice A0_0 l0_0.length c0_0] 25 (0,0)) (kq BK366.out)):gb366≠gb367));have NB367_366:=am ((by rw [hg];exact Nat.ne_of_gt (jda (g:=gb366) (o:=.cells #[.slice A0_0 l0_0.length c0_0] 25 (0,0)) (kq BK366.out)):gb367≠gb366));replace BK366:=am (jc (g:=gb366) (o:=.cells #[.slice A0_0 l0_0.length c0_0] 25 (0,0)) (kq BK366.out) hb);replace HB:=am (je (Y178) hb);clear hb hbox hg;have hnb9:=NB366_367.out;have hnc9:=NB367_366.out;have hcz10_0:=bc0 BK366.out;have hfz10_0:=jb BK366.out 0;have hcz11_0:=bc0 BK367.out;have hfz11_0:=jb BK367.out 0) |((with_reducible refine jw (f:=48) rfl ?_);refine gL (some 9) Tryd.func48 #[.agg #[.slice A0_0 l0_0.length c0_0], .agg #[.slice A1_0 l1_0.length c1_0]] ?_;(with_reducible refine (jF.calls k _ _ l0_0 _ _ l1_0 true _ ?side1 ?side2 ?side3 ?side4 A4.out).mono ?_);(case side1=>exact cq (Kd.jU HR0_0.out HB.out));(case side2=>exact HC0_0.out);(case side3=>exact cq (Kd.jU HR1_0.out HB.out));(case side4=>exact HC1_0.out);rintro e w12 ⟨rfl,hb⟩;refine ⟨_,rfl,?_⟩;replace BK366:=am (jc (g:=gb366) (o:=.cells #[.slice A0_0 l0_0.length c0_0] 25 (0,0)) (kq BK366.out) hb);replace BK367:=am (jc (g:=gb367) (o:=.cells #[.slice A1_0 l1_0.length c1_0] 28 (0,0)) (kq BK367.out) hb);replace HB:=am (je (Y93) hb);(try clear hb);(try clear hb2);(try clear hk);(try clear hi);have hcz13_0:=bc0 BK367.out;have hfz13_0:=jb BK367.out 0) |(go_at_call 55;(with_reducible refine (jpb.calls _ _ l1_0 a2 t369 _ ?side1 ?side2 A6.out).mono ?_);(case side1=>exact cq (Kd.jU HR1_0.out HB.out));(case side2=>exact HC1_0.out);rintro e w14 ⟨rfl,hb⟩;replace BK366:=am (jc (g:=gb366) (o:=.cells #[.slice A0_0 l0_0.length c0_0] 25 (0,0)) (kq BK366.out) hb);replace BK367:=am (jc (g:=gb367) (o:=.cells #[.slice A1_0 l1_0.length c1_0] 28 (0,0)) (kq BK367.out) hb);replace HB:=am (je (Y93) hb);(try clear hb);(try clear hb2);(try clear hk);(try clear hi)))
  go_ret
  exact ⟨Y1,Y93⟩
 ·replace c5:=Bool.eq_false_iff.mpr c5
  subst c5
  have H1:(some false)=some r:=by rw [if_neg (show ¬ (false=true) by decide)] at H;exact H
  clear H
  have H:=H1
  clear H1
  obtain rfl:=Option.some.inj H
  go_enter Tryd.func31,Tryd.ntmps31
  go_wp2_with (first |((with_reducible refine jD (N:=3) rfl ?_);refine bE (N:=3) (cs:=#[.slice A0_0 l0_0.length c0_0]) (t:=25) ?_;intro gb366 hg w15 hbox hb;have BK366:=am (hbox);have GW366:=am ((Y0:w.heap.size≤gb366));have GE366:=am ((Y0:w.heap.size≤gb366));replace HB:=am (je (bq) hb);clear hb hbox hg) |((with_reducible refine jD (N:=4) rfl ?_);refine bE (N:=4) (cs:=#[.slice A1_0 l1_0.length c1_0]) (t:=28) ?_;intro gb367 hg w16 hbox hb;have BK367:=am (hbox);have GW367:=am ((Y118:w.heap.size≤gb367));have GE367:=am ((Y118:w.heap.size≤gb367));have NB366_367:=am ((by rw [hg];exact Nat.ne_of_lt (jda (g:=gb366) (o:=.cells #[.slice A0_0 l0_0.length c0_0] 25 (0,0)) (kq BK366.out)):gb366≠gb367));have NB367_366:=am ((by rw [hg];exact Nat.ne_of_gt (jda (g:=gb366) (o:=.cells #[.slice A0_0 l0_0.length c0_0] 25 (0,0)) (kq BK366.out)):gb367≠gb366));replace BK366:=am (jc (g:=gb366) (o:=.cells #[.slice A0_0 l0_0.length c0_0] 25 (0,0)) (kq BK366.out) hb);replace HB:=am (je (Y178) hb);clear hb hbox hg;have hnb17:=NB366_367.out;have hnc17:=NB367_366.out;have hcz18_0:=bc0 BK366.out;have hfz18_0:=jb BK366.out 0;have hcz19_0:=bc0 BK367.out;have hfz19_0:=jb BK367.out 0) |((with_reducible refine jw (f:=48) rfl ?_);refine gL (some 9) Tryd.func48 #[.agg #[.slice A0_0 l0_0.length c0_0], .agg #[.slice A1_0 l1_0.length c1_0]] ?_;(with_reducible refine (jF.calls k _ _ l0_0 _ _ l1_0 false _ ?side1 ?side2 ?side3 ?side4 A4.out).mono ?_);(case side1=>exact cq (Kd.jU HR0_0.out HB.out));(case side2=>exact HC0_0.out);(case side3=>exact cq (Kd.jU HR1_0.out HB.out));(case side4=>exact HC1_0.out);rintro e w20 ⟨rfl,hb⟩;refine ⟨_,rfl,?_⟩;replace BK366:=am (jc (g:=gb366) (o:=.cells #[.slice A0_0 l0_0.length c0_0] 25 (0,0)) (kq BK366.out) hb);replace BK367:=am (jc (g:=gb367) (o:=.cells #[.slice A1_0 l1_0.length c1_0] 28 (0,0)) (kq BK367.out) hb);replace HB:=am (je (Y93) hb);(try clear hb);(try clear hb2);(try clear hk);(try clear hi)))
  go_ret
  exact ⟨Y1,Y93⟩
def jcb.f (l0_0 : List (S66)) (a1 : Int) : Option (Int) := if 0 ≤ a1 then (if a1 < (l0_0.length : Int) then (if ((ja l0_0 a1).f2) ≥ 0 then (some ((ja l0_0 a1).f2)) else (if ((ja l0_0 a1).f4 = true) then (some (-1)) else (some ((ja l0_0 a1).f3)))) else (none)) else (none)
set_option maxHeartbeats 8000000 in
set_option maxRecDepth 100000 in
theorem jcb.calls (A0_0 : Option Addr) (c0_0 : Nat) (l0_0 : List (S66)) (a1 : Int) (r : Int) (w : World) (hr0_0 : Kd.C k66 w A0_0 l0_0.length l0_0) (hc0_0 : l0_0.length ≤ c0_0) (h : jcb.f l0_0 a1 = some r) :
  Calls Tryd.prog 57 #[.agg #[.slice A0_0 l0_0.length c0_0], .int .i64 a1] w fun e w'=>e=.returned (.int .i64 r)∧Below w.heap.size w w':=by
 have hu28:=Tryd.underlying28
 have hu66:=Tryd.underlying66
 have HR0_0:=am hr0_0
 have HC0_0:=am hc0_0
 clear hr0_0 hc0_0
 have HB:=am (Below.refl w.heap.size w)
 have H:(if 0≤a1 then (if a1<(l0_0.length:Int) then (if ((ja l0_0 a1).f2)≥0 then (some ((ja l0_0 a1).f2)) else (if ((ja l0_0 a1).f4=true) then (some (-1)) else (some ((ja l0_0 a1).f3)))) else (none)) else (none))=some r:=h
 clear h
 by_cases c3:0≤a1
 ·rw [if_pos c3] at H
  have c3b0:decide (0≤a1)=true:=dzT c3
  clear c3
  by_cases c4:a1<(l0_0.length:Int)
  ·rw [if_pos c4] at H
   have c4b0:decide (a1<(l0_0.length:Int))=true:=dzT c4
   clear c4
   by_cases c5:((ja l0_0 a1).f2)≥0
   ·rw [if_pos c5] at H
    have c5b0:decide (0≤((ja l0_0 a1).f2))=true:=dzT c5
    clear c5
    obtain rfl:=Option.some.inj H
    go_enter Tryd.func57,Tryd.ntmps57
    go_wp2_with (first |((with_reducible refine jD (N:=2) rfl ?_);refine bE (N:=2) (cs:=#[.slice A0_0 l0_0.length c0_0]) (t:=28) ?_;intro gb370 hg w6 hbox hb;have BK370:=am (hbox);have GW370:=am ((Y0:w.heap.size≤gb370));have GE370:=am ((Y0:w.heap.size≤gb370));replace HB:=am (je (bq) hb);clear hb hbox hg;have hcz7_0:=bc0 BK370.out;have hfz7_0:=jb BK370.out 0;have p371:0≤(a1:Int):=ozD (uq);have q371:a1<(l0_0.length:Int):=ozD (uq);obtain ⟨ad371,e371,hx371_0,hx371_1,hx371_2,hx371_3,hx371_4⟩:=jlb HR0_0.out a1 p371 q371;cases e371;replace hx371_0:=cb HB.out hx371_0;replace hx371_1:=cb HB.out hx371_1;replace hx371_2:=cb HB.out hx371_2;replace hx371_3:=cb HB.out hx371_3;replace hx371_4:=cb HB.out hx371_4;replace p371:=ezT p371;replace q371:=ezT q371) |((with_reducible refine jD (N:=5) rfl ?_);refine bE (N:=5) (cs:=#[.int .i64 0, .int .i64 0, .int .i64 0, .int .i64 0, .bool false]) (t:=66) ?_;intro gb372 hg w8 hbox hb;have BK372:=am (hbox);have GW372:=am ((Y86:w.heap.size≤gb372));have GE372:=am ((Y86:w.heap.size≤gb372));have NB370_372:=am ((Y145:gb370≠gb372));have NB372_370:=am ((Y146:gb372≠gb370));replace BK370:=am (jc (g:=gb370) (o:=.cells #[.slice (some ad371) l0_0.length c0_0] 28 (0,0)) (kq BK370.out) hb);replace HB:=am (je (Y147) hb);clear hb hbox hg;have hnb9:=NB372_370.out;have hnc9:=NB370_372.out;have hcz10_0:=bc0 BK372.out;have hcz10_1:=bc1 BK372.out;have hcz10_2:=bc2 BK372.out;have hcz10_3:=bc3 BK372.out;have hcz10_4:w8.cell? ⟨gb372,4,none⟩=some (.bool false):=(jH BK372.out 4).trans rfl;have hfz10_0:=jb BK372.out 0;have hfz10_1:=jb BK372.out 1;have hfz10_2:=jb BK372.out 2;have hfz10_3:=jb BK372.out 3;have hfz10_4:=jb BK372.out 4))
    go_ret
    exact ⟨Y1,Y148⟩
   ·rw [if_neg c5] at H
    have c5b0:decide (0≤((ja l0_0 a1).f2))=false:=dzF c5
    clear c5
    obtain ⟨bq11,hbq11⟩:∃ b_:Bool,b_=((ja l0_0 a1).f4):=⟨_,rfl⟩
    replace H:(if (bq11=true) then (some (-1)) else (some ((ja l0_0 a1).f3)))=some r:=by rw [← hbq11] at H;exact H
    have Nbq11:=am hbq11
    clear hbq11
    by_cases c12:(bq11=true)
    ·subst c12
     have H1:(some (-1))=some r:=by rw [if_pos rfl] at H;exact H
     clear H
     have H:=H1
     clear H1
     obtain rfl:=Option.some.inj H
     go_enter Tryd.func57,Tryd.ntmps57
     go_wp2_with (first |((with_reducible refine jD (N:=2) rfl ?_);refine bE (N:=2) (cs:=#[.slice A0_0 l0_0.length c0_0]) (t:=28) ?_;intro gb370 hg w13 hbox hb;have BK370:=am (hbox);have GW370:=am ((Y0:w.heap.size≤gb370));have GE370:=am ((Y0:w.heap.size≤gb370));replace HB:=am (je (bq) hb);clear hb hbox hg;have hcz14_0:=bc0 BK370.out;have hfz14_0:=jb BK370.out 0;have p371:0≤(a1:Int):=ozD (uq);have q371:a1<(l0_0.length:Int):=ozD (uq);obtain ⟨ad371,e371,hx371_0,hx371_1,hx371_2,hx371_3,hx371_4⟩:=jlb HR0_0.out a1 p371 q371;(try rw [← Nbq11.out] at hx371_4);cases e371;replace hx371_0:=cb HB.out hx371_0;replace hx371_1:=cb HB.out hx371_1;replace hx371_2:=cb HB.out hx371_2;replace hx371_3:=cb HB.out hx371_3;replace hx371_4:=cb HB.out hx371_4;replace p371:=ezT p371;replace q371:=ezT q371) |((with_reducible refine jD (N:=5) rfl ?_);refine bE (N:=5) (cs:=#[.int .i64 0, .int .i64 0, .int .i64 0, .int .i64 0, .bool false]) (t:=66) ?_;intro gb372 hg w15 hbox hb;have BK372:=am (hbox);have GW372:=am ((Y86:w.heap.size≤gb372));have GE372:=am ((Y86:w.heap.size≤gb372));have NB370_372:=am ((Y145:gb370≠gb372));have NB372_370:=am ((Y146:gb372≠gb370));replace BK370:=am (jc (g:=gb370) (o:=.cells #[.slice (some ad371) l0_0.length c0_0] 28 (0,0)) (kq BK370.out) hb);replace HB:=am (je (Y147) hb);clear hb hbox hg;have hnb16:=NB372_370.out;have hnc16:=NB370_372.out;have hcz17_0:=bc0 BK372.out;have hcz17_1:=bc1 BK372.out;have hcz17_2:=bc2 BK372.out;have hcz17_3:=bc3 BK372.out;have hcz17_4:w15.cell? ⟨gb372,4,none⟩=some (.bool false):=(jH BK372.out 4).trans rfl;have hfz17_0:=jb BK372.out 0;have hfz17_1:=jb BK372.out 1;have hfz17_2:=jb BK372.out 2;have hfz17_3:=jb BK372.out 3;have hfz17_4:=jb BK372.out 4))
     go_ret
     exact ⟨Y1,Y148⟩
    ·replace c12:=Bool.eq_false_iff.mpr c12
     subst c12
     have H1:(some ((ja l0_0 a1).f3))=some r:=by rw [if_neg (show ¬ (false=true) by decide)] at H;exact H
     clear H
     have H:=H1
     clear H1
     obtain rfl:=Option.some.inj H
     go_enter Tryd.func57,Tryd.ntmps57
     go_wp2_with (first |((with_reducible refine jD (N:=2) rfl ?_);refine bE (N:=2) (cs:=#[.slice A0_0 l0_0.length c0_0]) (t:=28) ?_;intro gb370 hg w18 hbox hb;have BK370:=am (hbox);have GW370:=am ((Y0:w.heap.size≤gb370));have GE370:=am ((Y0:w.heap.size≤gb370));replace HB:=am (je (bq) hb);clear hb hbox hg;have hcz19_0:=bc0 BK370.out;have hfz19_0:=jb BK370.out 0;have p371:0≤(a1:Int):=ozD (uq);have q371:a1<(l0_0.length:Int):=ozD (uq);obtain ⟨ad371,e371,hx371_0,hx371_1,hx371_2,hx371_3,hx371_4⟩:=jlb HR0_0.out a1 p371 q371;(try rw [← Nbq11.out] at hx371_4);cases e371;replace hx371_0:=cb HB.out hx371_0;replace hx371_1:=cb HB.out hx371_1;replace hx371_2:=cb HB.out hx371_2;replace hx371_3:=cb HB.out hx371_3;replace hx371_4:=cb HB.out hx371_4;replace p371:=ezT p371;replace q371:=ezT q371) |((with_reducible refine jD (N:=5) rfl ?_);refine bE (N:=5) (cs:=#[.int .i64 0, .int .i64 0, .int .i64 0, .int .i64 0, .bool false]) (t:=66) ?_;intro gb372 hg w20 hbox hb;have BK372:=am (hbox);have GW372:=am ((Y86:w.heap.size≤gb372));have GE372:=am ((Y86:w.heap.size≤gb372));have NB370_372:=am ((Y145:gb370≠gb372));have NB372_370:=am ((Y146:gb372≠gb370));replace BK370:=am (jc (g:=gb370) (o:=.cells #[.slice (some ad371) l0_0.length c0_0] 28 (0,0)) (kq BK370.out) hb);replace HB:=am (je (Y147) hb);clear hb hbox hg;have hnb21:=NB372_370.out;have hnc21:=NB370_372.out;have hcz22_0:=bc0 BK372.out;have hcz22_1:=bc1 BK372.out;have hcz22_2:=bc2 BK372.out;have hcz22_3:=bc3 BK372.out;have hcz22_4:w20.cell? ⟨gb372,4,none⟩=some (.bool false):=(jH BK372.out 4).trans rfl;have hfz22_0:=jb BK372.out 0;have hfz22_1:=jb BK372.out 1;have hfz22_2:=jb BK372.out 2;have hfz22_3:=jb BK372.out 3;have hfz22_4:=jb BK372.out 4))
     go_ret
     exact ⟨Y1,Y148⟩
  ·rw [if_neg c4] at H
   exact absurd H (by simp)
 ·rw [if_neg c3] at H
  exact absurd H (by simp)
def jNa.l0 : Nat → Int → List Int → List (S66) → Option (List Int)
 | 0,_,_,_=>none
 | k+1,x1,x5,x374000=>if x1≥0 then ((jFa.f k x5 x1).bind fun t377=>(if t377=true then (some x5) else (if x5.length<17592186044416 then ((jcb.f x374000 x1).bind fun t381=>(jNa.l0 k t381 (x5 ++ [x1]) x374000)) else (none)))) else (some x5)
def jNa.f (k : Nat) (l0_0 : List (S66)) (a1 : Int) : Option (List Int) := jNa.l0 k a1 (([] : List Int)) l0_0
set_option maxHeartbeats 8000000 in
set_option maxRecDepth 100000 in
theorem jNa.calls (k : Nat) (A0_0 : Option Addr) (c0_0 : Nat) (l0_0 : List (S66)) (a1 : Int) (r : List Int) (w : World) (hr0_0 : Kd.C k66 w A0_0 l0_0.length l0_0) (hc0_0 : l0_0.length ≤ c0_0) (h : jNa.f k l0_0 a1 = some r) :
  Calls Tryd.prog 32 #[.agg #[.slice A0_0 l0_0.length c0_0], .int .i64 a1] w fun e w'=>∃ v0_:Value,e=.returned (v0_)∧Kd.R (Kd.int .i64) 3 w' w.heap.size (fun _=>True) v0_ r∧Below w.heap.size w w':=by
 have hu28:=Tryd.underlying28
 have HR0_0:=am hr0_0
 have HC0_0:=am hc0_0
 clear hr0_0 hc0_0
 have HB:=am (Below.refl w.heap.size w)
 have H:(jNa.l0 k a1 (([]:List Int)) l0_0)=some r:=h
 clear h
 obtain ⟨y374,hy374⟩:∃ y_:List Int,y_=(([]:List Int)):=⟨_,rfl⟩
 replace H:(jNa.l0 k a1 y374 l0_0)=some r:=by first |(rw [hy374];with_reducible exact H) |(have H2_:=(Option.bind_some _ _).symm.trans H;rw [hy374];with_reducible exact H2_) |(have H2_:=(Option.bind_some _ _).symm.trans H;with_reducible exact H2_) | with_reducible exact H |(rw [hy374];exact H) | exact H
 have Ny374:=am hy374
 clear hy374
 have H':=am H
 clear H
 go_enter Tryd.func32,Tryd.ntmps32
 go_wp2_with (first |((with_reducible refine jD (N:=2) rfl ?_);refine bE (N:=2) (cs:=#[.slice A0_0 l0_0.length c0_0]) (t:=28) ?_;intro gb373 hg w3 hbox hb;have BK373:=am (hbox);have GW373:=am ((Y0:w.heap.size≤gb373));have GE373:=am ((Y0:w.heap.size≤gb373));replace HB:=am (je (bq) hb);clear hb hbox hg) |((with_reducible refine jD (N:=6) rfl ?_);refine Kd.R_lit (Kd.int .i64) _ 3 ?hg (N:=6) ?hd (xs:=([]:List Int)) (inner:=[]) (ok:=fun _=>True) (okp:=fun _=>True) ?hr ?hp (fun _ hk=>hk) trivial (Below.refl _ _) (Nat.le_refl _) (by simp) ?_;(case hd=>rfl);(case hg=>rfl);(case hr=>exact Y4);(case hp=>exact (Reps.none _ _));intro v375 w4 ho5 hb hg_ hnew_;clear hg_ hnew_;(first | rw [← Ny374.out] at ho5 |(simp only [Int.reduceToNat] at ho5;rw [← Ny374.out] at ho5));have HO376:=am (Kd.jia ho5 (jM (Y49)));replace BK373:=am (jc (g:=gb373) (o:=.cells #[.slice A0_0 l0_0.length c0_0] 28 (0,0)) (kq BK373.out) hb);replace HB:=am (je (Y49) hb);clear hb ho5))
 go_loopg [1,5] k (fun kq v1 v5 w'=>∃ (x1_1:Int) (x5_1:List Int),v1=.int .i64 x1_1∧jB (jNa.l0 kq x1_1 x5_1 l0_0=some r)∧jB (kq≤k)∧jB (Kd.R (Kd.int .i64) 3 w' w.heap.size (fun _=>True) v5 x5_1)∧jB (w'.heap[gb373]?=some (.cells #[(.slice A0_0 l0_0.length c0_0)] 28 (0,0)))∧jB (Below w.heap.size w w'))
 case atStart=>exact ⟨(a1),(y374),(sq),H',⟨Nat.le_refl _⟩,⟨rq HO376.out⟩,⟨kq BK373.out⟩,⟨Y49⟩⟩
 case round =>
  clear H'
  try clear p2
  try clear c3
  obtain ⟨x1_1,x5_1,rfl,HA,HK1,HO_5,BK373,HB⟩:=hrel
  cases gk with
  | zero=>exact absurd HA.out (by simp [jNa.l0])
  | succ k1 =>
   have H:=HA.out
   clear HA
   simp only [jNa.l0] at H
   by_cases c6:x1_1≥0
   ·rw [if_pos c6] at H
    have c6b0:decide (0≤x1_1)=true:=dzT c6
    clear c6
    replace H:=bzS H
    obtain ⟨t377,A70,H⟩:=H
    replace H:(if t377=true then (some x5_1) else (if x5_1.length<17592186044416 then ((jcb.f l0_0 x1_1).bind fun t381=>(jNa.l0 k1 t381 (x5_1 ++ [x1_1]) l0_0)) else (none)))=some r:=H
    have A7:=am A70
    clear A70
    by_cases c8:t377=true
    ·subst c8
     have H1:(some x5_1)=some r:=by rw [if_pos rfl] at H;exact H
     clear H
     have H:=H1
     clear H1
     obtain rfl:=Option.some.inj H
     obtain ⟨Ao9,co9,eo9⟩:=Kd.jZ HO_5.out
     subst eo9
     go_wp2_with (first |(go_at_call 56;(with_reducible refine (jFa.calls k1 _ _ x5_1 x1_1 true _ ?side1 ?side2 A7.out).mono ?_);(case side1=>exact cq (Kd.jC HO_5.out).2.2);(case side2=>exact (Kd.jC HO_5.out).2.1);rintro e w' ⟨rfl,⟨nd,rfl⟩⟩))
     go_ret
     exact ⟨_,Y1,rq HO_5.out,Y49⟩
    ·replace c8:=Bool.eq_false_iff.mpr c8
     subst c8
     have H1:(if x5_1.length<17592186044416 then ((jcb.f l0_0 x1_1).bind fun t381=>(jNa.l0 k1 t381 (x5_1 ++ [x1_1]) l0_0)) else (none))=some r:=by rw [if_neg (show ¬ (false=true) by decide)] at H;exact H
     clear H
     have H:=H1
     clear H1
     by_cases c10:x5_1.length<17592186044416
     ·rw [if_pos c10] at H
      have LMc10:=am c10
      clear c10
      obtain ⟨y378,hy378⟩:∃ y_:List Int,y_=(x5_1 ++ [x1_1]):=⟨_,rfl⟩
      replace H:((jcb.f l0_0 x1_1).bind fun t381=>(jNa.l0 k1 t381 y378 l0_0))=some r:=by first |(rw [hy378];with_reducible exact H) |(have H2_:=(Option.bind_some _ _).symm.trans H;rw [hy378];with_reducible exact H2_) |(have H2_:=(Option.bind_some _ _).symm.trans H;with_reducible exact H2_) | with_reducible exact H |(rw [hy378];exact H) | exact H
      have Ny378:=am hy378
      clear hy378
      replace H:=bzS H
      obtain ⟨t381,A110,H⟩:=H
      replace H:(jNa.l0 k1 t381 y378 l0_0)=some r:=H
      have A11:=am A110
      clear A110
      have H':=am H
      clear H
      obtain ⟨Ao12,co12,eo12⟩:=Kd.jZ HO_5.out
      subst eo12
      go_wp2_with (first |(go_at_call 56;(with_reducible refine (jFa.calls k1 _ _ x5_1 x1_1 false _ ?side1 ?side2 A7.out).mono ?_);(case side1=>exact cq (Kd.jC HO_5.out).2.2);(case side2=>exact (Kd.jC HO_5.out).2.1);rintro e w' ⟨rfl,⟨nd,rfl⟩⟩) |((with_reducible refine jHb (b:=.append) (xs:=#[.tmp 15, .tmp 17]) rfl ?_);at_builtin;refine Kd.R_append (Kd.int .i64) (w0:=w) w.heap.size rfl (.tmp 15) (.tmp 17) 32 3 (.int .i64 0) 8 rfl Tryd.underlying32 info3 rfl (by decide) (by omega) (.slice Ao12 x5_1.length co12) x5_1 x1_1 [.int .i64 x1_1] (fun _=>True) (fun _=>False) rfl rfl ?aP (fun _ hk=>hk.elim) ?aF ?aO ?aB ?aS ?aL ?_;(case aP=>exact rfl);(case aB=>exact (Y49));(case aF=>exact (fun _ _=>trivial));(case aO=>exact (rq HO_5.out));(case aS=>exact (jM (Y49)));(case aL=>have:=LMc10.out;omega);intro v379 w13 ho hb hg hat;rw [← Ny378.out] at ho;have n0_:=am (jKa (g:=gb373) (o:=.cells #[.slice A0_0 l0_0.length c0_0] 28 (0,0)) (kq BK373.out) hg (Kd.R_ne HO_5.out BK373.out (by decide)));have n1_:=am (hb);have n2_:=am (ho);clear BK373 HB HO_5;have BK373:=n0_;have HB:=n1_;have HO380:=n2_;clear n0_ n1_ n2_ ho hb hg hat;have hcz14_0:=bc0 BK373.out;have hfz14_0:=jb BK373.out 0) |((with_reducible refine jw (f:=57) rfl ?_);refine gL (some 21) Tryd.func57 #[.agg #[.slice A0_0 l0_0.length c0_0], .int .i64 x1_1] ?_;(with_reducible refine (jcb.calls _ _ l0_0 x1_1 t381 _ ?side1 ?side2 A11.out).mono ?_);(case side1=>exact cq (Kd.jU HR0_0.out HB.out));(case side2=>exact HC0_0.out);rintro e w15 ⟨rfl,hb⟩;refine ⟨_,rfl,?_⟩;replace HO380:=am (Kd.jW (rq HO380.out) hb);replace BK373:=am (jc (g:=gb373) (o:=.cells #[.slice A0_0 l0_0.length c0_0] 28 (0,0)) (kq BK373.out) hb);replace HB:=am (je (Y49) hb);(try clear hb);(try clear hb2);(try clear hk);(try clear hi)))
      go_roundg k1
      case measure=>have:=HK1.out;omega
      case rel=>exact ⟨(t381),(y378),(sq),H',⟨by have:=HK1.out;omega⟩,⟨rq HO380.out⟩,⟨kq BK373.out⟩,⟨Y49⟩⟩
     ·rw [if_neg c10] at H
      exact absurd H (by simp)
   ·rw [if_neg c6] at H
    have c6b0:decide (0≤x1_1)=false:=dzF c6
    clear c6
    obtain rfl:=Option.some.inj H
    go_wp2
    go_ret
    exact ⟨_,Y1,rq HO_5.out,Y49⟩
end Go.Proofs.YteibechlncphnaaDoor.P
end
