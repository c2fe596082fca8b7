/- One part of the proofs on this program: functions of the program as plain functions, that the code comes to them, and facts on them. -/
import Derived.Test.YtkhiiiddbmgiaaaYAll1
import Derived.Test.YtkhiiiddbmgiaaaYAll2
import Derived.Test.YtkhiiiddbmgiaaaYAll3
import Derived.Test.YtkhiiiddbmgiaaaYAll4
import Derived.Test.YtkhiiiddbmgiaaaYAll5
import Derived.Test.YtkhiiiddbmgiaaaYWAuto
section
namespace Go.Proofs.Ytkhiiiddbmgiaaa.P
open Go.RowKit Go.Proofs.YtkhiiiddbmgiaaaW.PrintWords Go.Proofs.YtkhiiiddbmgiaaaW.PrintLast Go.Proofs.YtkhiiiddbmgiaaaW.PrintMore
attribute [local go_sem] jV jT jfa jea jL jK jU jS jc
set_option linter.unusedVariables false
set_option linter.unusedSimpArgs false
def jf.j0 : Nat → List (S55) → List (S52) → List (S52) → Bool → List (S77) → Option (Bool)
 | 0,_,_,_,_,_=>none
 | k+1,x1,x6,x9,x63,x428000=>if x63=true then (some false) else ((jy.f k x9 1).bind fun bt463=>((jW.f k bt463.2 1).bind fun t465=>(if t465<0 then (some false) else (if t465=bt463.1 then ((jba.f k x428000).bind fun t466=>((jD.f k x1).bind fun t469=>((jra.f k t466 t469).bind fun t472=>((ji.f k t472 x6).bind fun t475=>(if t475=true then ((jW.f k bt463.2 1).bind fun t476=>(if t476<0 then (some false) else (if t476=bt463.1 then (some true) else (some false)))) else (some false)))))) else (some false)))))
def jf.f (k : Nat) (l0_0 : List (S77)) (l1 : List (S55)) : Option (Bool) := (jib.f k l0_0 1048576).bind fun t428 => (if t428 < 0 then (some true) else ((jdb.f l1 t428).bind fun t429 => (if t429 < 0 then (some true) else ((jba.f k l0_0).bind fun t430 => ((jD.f k l1).bind fun t433 => ((jUa.f k t430 t433).bind fun t436 => ((jba.f k l0_0).bind fun t439 => ((jD.f k l1).bind fun t443 => ((jra.f k t439 t443).bind fun t446 => ((ji.f k t446 t436).bind fun t449 => (if t449 = true then ((jba.f k l0_0).bind fun t450 => ((jIa.f k t439 t450).bind fun t453 => (if t453 = true then ((jD.f k l1).bind fun t454 => ((ji.f k t443 t454).bind fun t457 => (if t457 = true then ((jka.f k t439 1).bind fun bt458 => ((jy.f k t443 bt458.1).bind fun bt460 => (if bt460.1 < 0 then (jf.j0 k l1 t436 t446 true l0_0) else ((ji.f k t446 t436).bind fun t462 => (jf.j0 k l1 t436 t446 (!t462) l0_0))))) else (some false)))) else (some false)))) else (some false))))))))))))
set_option maxHeartbeats 8000000 in
set_option maxRecDepth 100000 in
theorem jf.calls (k : Nat) (A0_0 : Option Addr) (c0_0 : Nat) (l0_0 : List (S77)) (A1 : Option Addr) (c1 : Nat) (l1 : List (S55)) (r : Bool) (w : World) (hr0_0 : Kd.C k77 w A0_0 l0_0.length l0_0) (hc0_0 : l0_0.length ≤ c0_0) (hr1 : Kd.C k55 w A1 l1.length l1) (hc1 : l1.length ≤ c1) (hT : r = true) (h : jf.f k l0_0 l1 = some r) :
  Calls Try.prog 4 #[.agg #[.slice A0_0 l0_0.length c0_0], .slice A1 l1.length c1] w fun e w'=>e=.returned (.bool r)∧Below w.heap.size w w':=by
 have hu24:=Try.underlying24
 have hu32:=Try.underlying32
 have HR0_0:=am hr0_0
 have HC0_0:=am hc0_0
 clear hr0_0 hc0_0
 have HR1:=am hr1
 have HC1:=am hc1
 clear hr1 hc1
 have HB:=am (Below.refl w.heap.size w)
 have H:((jib.f k l0_0 1048576).bind fun t428=>(if t428<0 then (some true) else ((jdb.f l1 t428).bind fun t429=>(if t429<0 then (some true) else ((jba.f k l0_0).bind fun t430=>((jD.f k l1).bind fun t433=>((jUa.f k t430 t433).bind fun t436=>((jba.f k l0_0).bind fun t439=>((jD.f k l1).bind fun t443=>((jra.f k t439 t443).bind fun t446=>((ji.f k t446 t436).bind fun t449=>(if t449=true then ((jba.f k l0_0).bind fun t450=>((jIa.f k t439 t450).bind fun t453=>(if t453=true then ((jD.f k l1).bind fun t454=>((ji.f k t443 t454).bind fun t457=>(if t457=true then ((jka.f k t439 1).bind fun bt458=>((jy.f k t443 bt458.1).bind fun bt460=>(if bt460.1<0 then (jf.j0 k l1 t436 t446 true l0_0) else ((ji.f k t446 t436).bind fun t462=>(jf.j0 k l1 t436 t446 (!t462) l0_0))))) else (some false)))) else (some false)))) else (some false)))))))))))))=some r:=h
 clear h
 replace H:=bzS H
 obtain ⟨t428,A30,H⟩:=H
 replace H:(if t428<0 then (some true) else ((jdb.f l1 t428).bind fun t429=>(if t429<0 then (some true) else ((jba.f k l0_0).bind fun t430=>((jD.f k l1).bind fun t433=>((jUa.f k t430 t433).bind fun t436=>((jba.f k l0_0).bind fun t439=>((jD.f k l1).bind fun t443=>((jra.f k t439 t443).bind fun t446=>((ji.f k t446 t436).bind fun t449=>(if t449=true then ((jba.f k l0_0).bind fun t450=>((jIa.f k t439 t450).bind fun t453=>(if t453=true then ((jD.f k l1).bind fun t454=>((ji.f k t443 t454).bind fun t457=>(if t457=true then ((jka.f k t439 1).bind fun bt458=>((jy.f k t443 bt458.1).bind fun bt460=>(if bt460.1<0 then (jf.j0 k l1 t436 t446 true l0_0) else ((ji.f k t446 t436).bind fun t462=>(jf.j0 k l1 t436 t446 (!t462) l0_0))))) else (some false)))) else (some false)))) else (some false))))))))))))=some r:=H
 have A3:=am A30
 clear A30
 by_cases c4:t428<0
 ·rw [if_pos c4] at H
  have c4b0:decide (t428<0)=true:=dzT c4
  clear c4
  obtain rfl:=Option.some.inj H
  go_enter Try.func4,Try.ntmps4
  go_wp2_with (first |((with_reducible refine jO (N:=2) rfl ?_);refine bE (N:=2) (cs:=#[.slice A0_0 l0_0.length c0_0]) (t:=24) ?_;intro gb427 hg w5 hbox hb;have BK427:=am (hbox);have GW427:=am ((Y1:w.heap.size≤gb427));have GE427:=am ((Y1:w.heap.size≤gb427));replace HB:=am (jd (bq) hb);clear hb hbox hg;have hcz6_0:=bc0 BK427.out;have hfz6_0:=ja BK427.out 0) |((with_reducible refine je (f:=7) rfl ?_);refine gL (some 16) Try.func7 #[.agg #[.slice A0_0 l0_0.length c0_0], .int .i64 1048576] ?_;(with_reducible refine (jib.calls k _ _ l0_0 1048576 t428 _ ?side1 ?side2 A3.out).mono ?_);(case side1=>exact cq (Kd.jI HR0_0.out HB.out));(case side2=>exact HC0_0.out);rintro e w7 ⟨rfl,hb⟩;refine ⟨_,rfl,?_⟩;replace BK427:=am (jm (g:=gb427) (o:=.cells #[.slice A0_0 l0_0.length c0_0] 24 (0,0)) (kq BK427.out) hb);replace HB:=am (jd (Y10) hb);(try clear hb);(try clear hb2);(try clear hk);(try clear hi)))
  go_ret
  exact ⟨Y0,Y10⟩
 ·rw [if_neg c4] at H
  have c4b0:decide (t428<0)=false:=dzF c4
  clear c4
  replace H:=bzS H
  obtain ⟨t429,A80,H⟩:=H
  replace H:(if t429<0 then (some true) else ((jba.f k l0_0).bind fun t430=>((jD.f k l1).bind fun t433=>((jUa.f k t430 t433).bind fun t436=>((jba.f k l0_0).bind fun t439=>((jD.f k l1).bind fun t443=>((jra.f k t439 t443).bind fun t446=>((ji.f k t446 t436).bind fun t449=>(if t449=true then ((jba.f k l0_0).bind fun t450=>((jIa.f k t439 t450).bind fun t453=>(if t453=true then ((jD.f k l1).bind fun t454=>((ji.f k t443 t454).bind fun t457=>(if t457=true then ((jka.f k t439 1).bind fun bt458=>((jy.f k t443 bt458.1).bind fun bt460=>(if bt460.1<0 then (jf.j0 k l1 t436 t446 true l0_0) else ((ji.f k t446 t436).bind fun t462=>(jf.j0 k l1 t436 t446 (!t462) l0_0))))) else (some false)))) else (some false)))) else (some false))))))))))=some r:=H
  have A8:=am A80
  clear A80
  by_cases c9:t429<0
  ·rw [if_pos c9] at H
   have c9b0:decide (t429<0)=true:=dzT c9
   clear c9
   obtain rfl:=Option.some.inj H
   go_enter Try.func4,Try.ntmps4
   go_wp2_with (first |((with_reducible refine jO (N:=2) rfl ?_);refine bE (N:=2) (cs:=#[.slice A0_0 l0_0.length c0_0]) (t:=24) ?_;intro gb427 hg w10 hbox hb;have BK427:=am (hbox);have GW427:=am ((Y1:w.heap.size≤gb427));have GE427:=am ((Y1:w.heap.size≤gb427));replace HB:=am (jd (bq) hb);clear hb hbox hg;have hcz11_0:=bc0 BK427.out;have hfz11_0:=ja BK427.out 0) |((with_reducible refine je (f:=7) rfl ?_);refine gL (some 16) Try.func7 #[.agg #[.slice A0_0 l0_0.length c0_0], .int .i64 1048576] ?_;(with_reducible refine (jib.calls k _ _ l0_0 1048576 t428 _ ?side1 ?side2 A3.out).mono ?_);(case side1=>exact cq (Kd.jI HR0_0.out HB.out));(case side2=>exact HC0_0.out);rintro e w12 ⟨rfl,hb⟩;refine ⟨_,rfl,?_⟩;replace BK427:=am (jm (g:=gb427) (o:=.cells #[.slice A0_0 l0_0.length c0_0] 24 (0,0)) (kq BK427.out) hb);replace HB:=am (jd (Y10) hb);(try clear hb);(try clear hb2);(try clear hk);(try clear hi)) |((with_reducible refine je (f:=8) rfl ?_);refine gL (some 21) Try.func8 #[.slice A1 l1.length c1, .int .i64 t428] ?_;(with_reducible refine (jdb.calls _ _ l1 t428 t429 _ ?side1 ?side2 A8.out).mono ?_);(case side1=>exact cq (Kd.jI HR1.out HB.out));(case side2=>exact HC1.out);rintro e w' ⟨rfl,⟨nd,rfl⟩⟩;refine ⟨_,rfl,?_⟩))
   go_ret
   exact ⟨Y0,Y10⟩
  ·rw [if_neg c9] at H
   have c9b0:decide (t429<0)=false:=dzF c9
   clear c9
   replace H:=bzS H
   obtain ⟨t430,A130,H⟩:=H
   replace H:((jD.f k l1).bind fun t433=>((jUa.f k t430 t433).bind fun t436=>((jba.f k l0_0).bind fun t439=>((jD.f k l1).bind fun t443=>((jra.f k t439 t443).bind fun t446=>((ji.f k t446 t436).bind fun t449=>(if t449=true then ((jba.f k l0_0).bind fun t450=>((jIa.f k t439 t450).bind fun t453=>(if t453=true then ((jD.f k l1).bind fun t454=>((ji.f k t443 t454).bind fun t457=>(if t457=true then ((jka.f k t439 1).bind fun bt458=>((jy.f k t443 bt458.1).bind fun bt460=>(if bt460.1<0 then (jf.j0 k l1 t436 t446 true l0_0) else ((ji.f k t446 t436).bind fun t462=>(jf.j0 k l1 t436 t446 (!t462) l0_0))))) else (some false)))) else (some false)))) else (some false))))))))=some r:=H
   have A13:=am A130
   clear A130
   replace H:=bzS H
   obtain ⟨t433,A140,H⟩:=H
   replace H:((jUa.f k t430 t433).bind fun t436=>((jba.f k l0_0).bind fun t439=>((jD.f k l1).bind fun t443=>((jra.f k t439 t443).bind fun t446=>((ji.f k t446 t436).bind fun t449=>(if t449=true then ((jba.f k l0_0).bind fun t450=>((jIa.f k t439 t450).bind fun t453=>(if t453=true then ((jD.f k l1).bind fun t454=>((ji.f k t443 t454).bind fun t457=>(if t457=true then ((jka.f k t439 1).bind fun bt458=>((jy.f k t443 bt458.1).bind fun bt460=>(if bt460.1<0 then (jf.j0 k l1 t436 t446 true l0_0) else ((ji.f k t446 t436).bind fun t462=>(jf.j0 k l1 t436 t446 (!t462) l0_0))))) else (some false)))) else (some false)))) else (some false)))))))=some r:=H
   have A14:=am A140
   clear A140
   replace H:=bzS H
   obtain ⟨t436,A150,H⟩:=H
   replace H:((jba.f k l0_0).bind fun t439=>((jD.f k l1).bind fun t443=>((jra.f k t439 t443).bind fun t446=>((ji.f k t446 t436).bind fun t449=>(if t449=true then ((jba.f k l0_0).bind fun t450=>((jIa.f k t439 t450).bind fun t453=>(if t453=true then ((jD.f k l1).bind fun t454=>((ji.f k t443 t454).bind fun t457=>(if t457=true then ((jka.f k t439 1).bind fun bt458=>((jy.f k t443 bt458.1).bind fun bt460=>(if bt460.1<0 then (jf.j0 k l1 t436 t446 true l0_0) else ((ji.f k t446 t436).bind fun t462=>(jf.j0 k l1 t436 t446 (!t462) l0_0))))) else (some false)))) else (some false)))) else (some false))))))=some r:=H
   have A15:=am A150
   clear A150
   replace H:=bzS H
   obtain ⟨t439,A160,H⟩:=H
   replace H:((jD.f k l1).bind fun t443=>((jra.f k t439 t443).bind fun t446=>((ji.f k t446 t436).bind fun t449=>(if t449=true then ((jba.f k l0_0).bind fun t450=>((jIa.f k t439 t450).bind fun t453=>(if t453=true then ((jD.f k l1).bind fun t454=>((ji.f k t443 t454).bind fun t457=>(if t457=true then ((jka.f k t439 1).bind fun bt458=>((jy.f k t443 bt458.1).bind fun bt460=>(if bt460.1<0 then (jf.j0 k l1 t436 t446 true l0_0) else ((ji.f k t446 t436).bind fun t462=>(jf.j0 k l1 t436 t446 (!t462) l0_0))))) else (some false)))) else (some false)))) else (some false)))))=some r:=H
   have A16:=am A160
   clear A160
   replace H:=bzS H
   obtain ⟨t443,A170,H⟩:=H
   replace H:((jra.f k t439 t443).bind fun t446=>((ji.f k t446 t436).bind fun t449=>(if t449=true then ((jba.f k l0_0).bind fun t450=>((jIa.f k t439 t450).bind fun t453=>(if t453=true then ((jD.f k l1).bind fun t454=>((ji.f k t443 t454).bind fun t457=>(if t457=true then ((jka.f k t439 1).bind fun bt458=>((jy.f k t443 bt458.1).bind fun bt460=>(if bt460.1<0 then (jf.j0 k l1 t436 t446 true l0_0) else ((ji.f k t446 t436).bind fun t462=>(jf.j0 k l1 t436 t446 (!t462) l0_0))))) else (some false)))) else (some false)))) else (some false))))=some r:=H
   have A17:=am A170
   clear A170
   replace H:=bzS H
   obtain ⟨t446,A180,H⟩:=H
   replace H:((ji.f k t446 t436).bind fun t449=>(if t449=true then ((jba.f k l0_0).bind fun t450=>((jIa.f k t439 t450).bind fun t453=>(if t453=true then ((jD.f k l1).bind fun t454=>((ji.f k t443 t454).bind fun t457=>(if t457=true then ((jka.f k t439 1).bind fun bt458=>((jy.f k t443 bt458.1).bind fun bt460=>(if bt460.1<0 then (jf.j0 k l1 t436 t446 true l0_0) else ((ji.f k t446 t436).bind fun t462=>(jf.j0 k l1 t436 t446 (!t462) l0_0))))) else (some false)))) else (some false)))) else (some false)))=some r:=H
   have A18:=am A180
   clear A180
   replace H:=bzS H
   obtain ⟨t449,A190,H⟩:=H
   replace H:(if t449=true then ((jba.f k l0_0).bind fun t450=>((jIa.f k t439 t450).bind fun t453=>(if t453=true then ((jD.f k l1).bind fun t454=>((ji.f k t443 t454).bind fun t457=>(if t457=true then ((jka.f k t439 1).bind fun bt458=>((jy.f k t443 bt458.1).bind fun bt460=>(if bt460.1<0 then (jf.j0 k l1 t436 t446 true l0_0) else ((ji.f k t446 t436).bind fun t462=>(jf.j0 k l1 t436 t446 (!t462) l0_0))))) else (some false)))) else (some false)))) else (some false))=some r:=H
   have A19:=am A190
   clear A190
   by_cases c20:t449=true
   ·subst c20
    have H1:((jba.f k l0_0).bind fun t450=>((jIa.f k t439 t450).bind fun t453=>(if t453=true then ((jD.f k l1).bind fun t454=>((ji.f k t443 t454).bind fun t457=>(if t457=true then ((jka.f k t439 1).bind fun bt458=>((jy.f k t443 bt458.1).bind fun bt460=>(if bt460.1<0 then (jf.j0 k l1 t436 t446 true l0_0) else ((ji.f k t446 t436).bind fun t462=>(jf.j0 k l1 t436 t446 (!t462) l0_0))))) else (some false)))) else (some false))))=some r:=by rw [if_pos rfl] at H;exact H
    clear H
    have H:=H1
    clear H1
    replace H:=bzS H
    obtain ⟨t450,A210,H⟩:=H
    replace H:((jIa.f k t439 t450).bind fun t453=>(if t453=true then ((jD.f k l1).bind fun t454=>((ji.f k t443 t454).bind fun t457=>(if t457=true then ((jka.f k t439 1).bind fun bt458=>((jy.f k t443 bt458.1).bind fun bt460=>(if bt460.1<0 then (jf.j0 k l1 t436 t446 true l0_0) else ((ji.f k t446 t436).bind fun t462=>(jf.j0 k l1 t436 t446 (!t462) l0_0))))) else (some false)))) else (some false)))=some r:=H
    have A21:=am A210
    clear A210
    replace H:=bzS H
    obtain ⟨t453,A220,H⟩:=H
    replace H:(if t453=true then ((jD.f k l1).bind fun t454=>((ji.f k t443 t454).bind fun t457=>(if t457=true then ((jka.f k t439 1).bind fun bt458=>((jy.f k t443 bt458.1).bind fun bt460=>(if bt460.1<0 then (jf.j0 k l1 t436 t446 true l0_0) else ((ji.f k t446 t436).bind fun t462=>(jf.j0 k l1 t436 t446 (!t462) l0_0))))) else (some false)))) else (some false))=some r:=H
    have A22:=am A220
    clear A220
    by_cases c23:t453=true
    ·subst c23
     have H1:((jD.f k l1).bind fun t454=>((ji.f k t443 t454).bind fun t457=>(if t457=true then ((jka.f k t439 1).bind fun bt458=>((jy.f k t443 bt458.1).bind fun bt460=>(if bt460.1<0 then (jf.j0 k l1 t436 t446 true l0_0) else ((ji.f k t446 t436).bind fun t462=>(jf.j0 k l1 t436 t446 (!t462) l0_0))))) else (some false))))=some r:=by rw [if_pos rfl] at H;exact H
     clear H
     have H:=H1
     clear H1
     replace H:=bzS H
     obtain ⟨t454,A240,H⟩:=H
     replace H:((ji.f k t443 t454).bind fun t457=>(if t457=true then ((jka.f k t439 1).bind fun bt458=>((jy.f k t443 bt458.1).bind fun bt460=>(if bt460.1<0 then (jf.j0 k l1 t436 t446 true l0_0) else ((ji.f k t446 t436).bind fun t462=>(jf.j0 k l1 t436 t446 (!t462) l0_0))))) else (some false)))=some r:=H
     have A24:=am A240
     clear A240
     replace H:=bzS H
     obtain ⟨t457,A250,H⟩:=H
     replace H:(if t457=true then ((jka.f k t439 1).bind fun bt458=>((jy.f k t443 bt458.1).bind fun bt460=>(if bt460.1<0 then (jf.j0 k l1 t436 t446 true l0_0) else ((ji.f k t446 t436).bind fun t462=>(jf.j0 k l1 t436 t446 (!t462) l0_0))))) else (some false))=some r:=H
     have A25:=am A250
     clear A250
     by_cases c26:t457=true
     ·subst c26
      have H1:((jka.f k t439 1).bind fun bt458=>((jy.f k t443 bt458.1).bind fun bt460=>(if bt460.1<0 then (jf.j0 k l1 t436 t446 true l0_0) else ((ji.f k t446 t436).bind fun t462=>(jf.j0 k l1 t436 t446 (!t462) l0_0)))))=some r:=by rw [if_pos rfl] at H;exact H
      clear H
      have H:=H1
      clear H1
      replace H:=bzS H
      obtain ⟨⟨t458,t459⟩,A270,H⟩:=H
      replace H:((jy.f k t443 t458).bind fun bt460=>(if bt460.1<0 then (jf.j0 k l1 t436 t446 true l0_0) else ((ji.f k t446 t436).bind fun t462=>(jf.j0 k l1 t436 t446 (!t462) l0_0))))=some r:=H
      have A27:=am A270
      clear A270
      replace H:=bzS H
      obtain ⟨⟨t460,t461⟩,A280,H⟩:=H
      replace H:(if t460<0 then (jf.j0 k l1 t436 t446 true l0_0) else ((ji.f k t446 t436).bind fun t462=>(jf.j0 k l1 t436 t446 (!t462) l0_0)))=some r:=H
      have A28:=am A280
      clear A280
      have HC29:=am H
      clear H
      go_enter Try.func4,Try.ntmps4
      try go_wp2_with (first |((with_reducible refine jO (N:=2) rfl ?_);refine bE (N:=2) (cs:=#[.slice A0_0 l0_0.length c0_0]) (t:=24) ?_;intro gb427 hg w30 hbox hb;have BK427:=am (hbox);have GW427:=am ((Y1:w.heap.size≤gb427));have GE427:=am ((Y1:w.heap.size≤gb427));replace HB:=am (jd (bq) hb);clear hb hbox hg;have hcz31_0:=bc0 BK427.out;have hfz31_0:=ja BK427.out 0) |((with_reducible refine je (f:=7) rfl ?_);refine gL (some 16) Try.func7 #[.agg #[.slice A0_0 l0_0.length c0_0], .int .i64 1048576] ?_;(with_reducible refine (jib.calls k _ _ l0_0 1048576 t428 _ ?side1 ?side2 A3.out).mono ?_);(case side1=>exact cq (Kd.jI HR0_0.out HB.out));(case side2=>exact HC0_0.out);rintro e w32 ⟨rfl,hb⟩;refine ⟨_,rfl,?_⟩;replace BK427:=am (jm (g:=gb427) (o:=.cells #[.slice A0_0 l0_0.length c0_0] 24 (0,0)) (kq BK427.out) hb);replace HB:=am (jd (Y10) hb);(try clear hb);(try clear hb2);(try clear hk);(try clear hi)) |((with_reducible refine je (f:=8) rfl ?_);refine gL (some 21) Try.func8 #[.slice A1 l1.length c1, .int .i64 t428] ?_;(with_reducible refine (jdb.calls _ _ l1 t428 t429 _ ?side1 ?side2 A8.out).mono ?_);(case side1=>exact cq (Kd.jI HR1.out HB.out));(case side2=>exact HC1.out);rintro e w' ⟨rfl,⟨nd,rfl⟩⟩;refine ⟨_,rfl,?_⟩;(try (rw [drewN_self w32];generalize hq_:World.drewN w32 _=w32;have n0_:jo (w32.heap[gb427]?=some (.cells #[.slice A0_0 l0_0.length c0_0] 24 (0,0))):=⟨by rw [← hq_];exact (kq BK427.out)⟩;have n1_:jo (Below w.heap.size w w32):=⟨by rw [← hq_];exact (Y10)⟩;clear BK427 HB hq_;have BK427:=n0_;have HB:=n1_;clear n0_ n1_));have hcz33_0:=bc0 BK427.out;have hfz33_0:=ja BK427.out 0) |((with_reducible refine je (f:=10) rfl ?_);refine gL (some 25) Try.func10 #[.agg #[.slice A0_0 l0_0.length c0_0]] ?_;(with_reducible refine (jba.calls k _ _ l0_0 t430 _ ?side1 ?side2 A13.out).mono ?_);(case side1=>exact cq (Kd.jI HR0_0.out HB.out));(case side2=>exact HC0_0.out);rintro e w34 ⟨v431,rfl,ho0,hb⟩;refine ⟨_,rfl,?_⟩;have HO432:=am (Kd.jJa ho0 (jF (Y10)));replace BK427:=am (jm (g:=gb427) (o:=.cells #[.slice A0_0 l0_0.length c0_0] 24 (0,0)) (kq BK427.out) hb);replace HB:=am (jd (Y10) hb);(try clear hb);(try clear hb2);(try clear hk);(try clear hi);(try clear ho0)) |((with_reducible refine je (f:=11) rfl ?_);refine gL (some 27) Try.func11 #[.slice A1 l1.length c1] ?_;(with_reducible refine (jD.calls k _ _ l1 t433 _ ?side1 ?side2 A14.out).mono ?_);(case side1=>exact cq (Kd.jI HR1.out HB.out));(case side2=>exact HC1.out);rintro e w35 ⟨v434,rfl,ho0,hb⟩;refine ⟨_,rfl,?_⟩;have HO435:=am (Kd.jJa ho0 (jF (Y10)));replace HO432:=am (Kd.jN (rq HO432.out) hb);replace BK427:=am (jm (g:=gb427) (o:=.cells #[.slice A0_0 l0_0.length c0_0] 24 (0,0)) (kq BK427.out) hb);replace HB:=am (jd (Y10) hb);(try clear hb);(try clear hb2);(try clear hk);(try clear hi);(try clear ho0);obtain ⟨Ao36,co36,eo36⟩:=Kd.jHa HO432.out;subst eo36;obtain ⟨Ao37,co37,eo37⟩:=Kd.jHa HO435.out;subst eo37) |((with_reducible refine je (f:=18) rfl ?_);refine gL (some 28) Try.func18 #[.agg #[.slice Ao36 t430.length co36], .slice Ao37 t433.length co37] ?_;(with_reducible refine (jUa.calls k _ _ t430 _ _ t433 t436 _ ?side1 ?side2 ?side3 ?side4 A15.out).mono ?_);(case side1=>exact cq (Kd.jB HO432.out).2.2);(case side2=>exact (Kd.jB HO432.out).2.1);(case side3=>exact cq (Kd.jB HO435.out).2.2);(case side4=>exact (Kd.jB HO435.out).2.1);rintro e w38 ⟨v437,rfl,ho0,hb⟩;refine ⟨_,rfl,?_⟩;have HO438:=am (Kd.jJa (Kd.job ho0 (Kd.R_lt (rq HO435.out))) (jF (Y10)));replace HO432:=am (Kd.jN (rq HO432.out) hb);replace HO435:=am (Kd.jTa (rq HO435.out) (Kd.jpb ho0) hb);replace BK427:=am (jm (g:=gb427) (o:=.cells #[.slice A0_0 l0_0.length c0_0] 24 (0,0)) (kq BK427.out) hb);replace HB:=am (jd (Y10) hb);(try clear hb);(try clear hb2);(try clear hk);(try clear hi);(try clear ho0);have hcz39_0:=bc0 BK427.out;have hfz39_0:=ja BK427.out 0) |((with_reducible refine je (f:=10) rfl ?_);refine gL (some 30) Try.func10 #[.agg #[.slice A0_0 l0_0.length c0_0]] ?_;(with_reducible refine (jba.calls k _ _ l0_0 t439 _ ?side1 ?side2 A16.out).mono ?_);(case side1=>exact cq (Kd.jI HR0_0.out HB.out));(case side2=>exact HC0_0.out);rintro e w40 ⟨v440,rfl,ho0,hb⟩;refine ⟨_,rfl,?_⟩;have HO441:=am (Kd.jJa (Kd.job ho0 (Kd.R_lt (rq HO432.out))) (jF (Y10)));replace HO432:=am (Kd.jTa (rq HO432.out) (Kd.jpb ho0) hb);replace HO435:=am (Kd.jN (rq HO435.out) hb);replace HO438:=am (Kd.jN (rq HO438.out) hb);replace BK427:=am (jm (g:=gb427) (o:=.cells #[.slice A0_0 l0_0.length c0_0] 24 (0,0)) (kq BK427.out) hb);replace HB:=am (jd (Y10) hb);(try clear hb);(try clear hb2);(try clear hk);(try clear hi);(try clear ho0)) |((with_reducible refine jO (N:=7) rfl ?_);refine bE (N:=7) (cs:=#[.slice none 0 0]) (t:=32) ?_;intro gb442 hg w41 hbox hb;have BK442:=am (hbox);have GW442:=am ((Y57:w.heap.size≤gb442));have GE442:=am ((Y57:w.heap.size≤gb442));have NB427_442:=am ((by rw [hg];exact Nat.ne_of_lt (jQa (g:=gb427) (o:=.cells #[.slice A0_0 l0_0.length c0_0] 24 (0,0)) (kq BK427.out)):gb427≠gb442));have NB442_427:=am ((by rw [hg];exact Nat.ne_of_gt (jQa (g:=gb427) (o:=.cells #[.slice A0_0 l0_0.length c0_0] 24 (0,0)) (kq BK427.out)):gb442≠gb427));replace HO432:=am (Kd.jN (rq HO432.out) hb);replace HO435:=am (Kd.jN (rq HO435.out) hb);replace HO438:=am (Kd.jN (rq HO438.out) hb);replace HO441:=am (Kd.jN (rq HO441.out) hb);replace BK427:=am (jm (g:=gb427) (o:=.cells #[.slice A0_0 l0_0.length c0_0] 24 (0,0)) (kq BK427.out) hb);replace HB:=am (jd (Y10) hb);clear hb hbox hg;obtain ⟨Ao42,co42,eo42⟩:=Kd.jHa HO441.out;subst eo42;have hnb43:=NB442_427.out;have hnc43:=NB427_442.out;have hcz44_0:=bc0 BK442.out;have hfz44_0:=ja BK442.out 0) |((with_reducible refine je (f:=11) rfl ?_);refine gL (some 32) Try.func11 #[.slice A1 l1.length c1] ?_;(with_reducible refine (jD.calls k _ _ l1 t443 _ ?side1 ?side2 A17.out).mono ?_);(case side1=>exact Kd.jI HR1.out (Y4));(case side2=>exact HC1.out);rintro e w45 ⟨v444,rfl,ho0,hb⟩;refine ⟨_,rfl,?_⟩;have HO445:=am (Kd.jJa (Kd.job (Kd.job ho0 (Kd.R_lt (Y58))) (Kd.R_lt (Y59))) (jF (Y4)));replace HO432:=am (Kd.jN (by (with_reducible repeat (first | apply Kd.jcb | apply Kd.jbb | apply Kd.jXa));exact (Kd.jEa (Kd.R_far (p:=⟨gb442,0,none⟩) (Kd.R_types HO432.out BK442.out (by decide)) (fun _ hk=>hk.2) (.slice Ao42 t439.length co42)) (fun _ h_=>h_.1))) hb);replace HO435:=am (Kd.jTa (Y58) (Kd.jpb ho0) hb);replace HO438:=am (Kd.jTa (Y59) (Kd.jpb ho0) hb);replace HO441:=am (Kd.jN (by (with_reducible repeat (first | apply Kd.jcb | apply Kd.jbb | apply Kd.jXa));exact (Kd.jEa (Kd.R_far (p:=⟨gb442,0,none⟩) (Kd.R_types HO441.out BK442.out (by decide)) (fun _ hk=>hk.2) (.slice Ao42 t439.length co42)) (fun _ h_=>h_.1))) hb);replace BK427:=am (jm (g:=gb427) (o:=.cells #[.slice A0_0 l0_0.length c0_0] 24 (0,0)) (by (with_reducible repeat (first | refine jY ?_ _ | refine jma ?_ | refine jia ?_ _));refine jGb ?_ NB427_442.out _;(with_reducible repeat (first | refine jY ?_ _ | refine jma ?_ | refine jia ?_ _));exact BK427.out) hb);replace BK442:=am (jm (g:=gb442) (o:=.cells #[.slice Ao42 t439.length co42] 32 (0,0)) (by (with_reducible repeat (first | refine jY ?_ _ | refine jma ?_ | refine jia ?_ _));refine jFb (cs:=#[.slice none 0 0]) ?_ 0 _ rfl;(with_reducible repeat (first | refine jY ?_ _ | refine jma ?_ | refine jia ?_ _));exact BK442.out) hb);replace HB:=am (jd (Y4) hb);(try clear hb);(try clear hb2);(try clear hk);(try clear hi);(try clear ho0);have hcz46_0:=bc0 BK442.out;have hfz46_0:=ja BK442.out 0;obtain ⟨Ao47,co47,eo47⟩:=Kd.jHa HO445.out;subst eo47) |((with_reducible refine je (f:=19) rfl ?_);refine gL (some 35) Try.func19 #[.agg #[.slice Ao42 t439.length co42], .slice Ao47 t443.length co47] ?_;(with_reducible refine (jra.calls k _ _ t439 _ _ t443 t446 _ ?side1 ?side2 ?side3 ?side4 A18.out).mono ?_);(case side1=>exact cq (Kd.jB HO441.out).2.2);(case side2=>exact (Kd.jB HO441.out).2.1);(case side3=>exact cq (Kd.jB HO445.out).2.2);(case side4=>exact (Kd.jB HO445.out).2.1);rintro e w48 ⟨v447,rfl,ho0,hb⟩;refine ⟨_,rfl,?_⟩;have HO448:=am (Kd.jJa (Kd.job (Kd.job (Kd.job ho0 (Kd.R_lt (rq HO435.out))) (Kd.R_lt (rq HO438.out))) (Kd.R_lt (rq HO445.out))) (jF (Y4)));replace HO432:=am (Kd.jN (rq HO432.out) hb);replace HO435:=am (Kd.jTa (rq HO435.out) (Kd.jpb ho0) hb);replace HO438:=am (Kd.jTa (rq HO438.out) (Kd.jpb ho0) hb);replace HO441:=am (Kd.jN (rq HO441.out) hb);replace HO445:=am (Kd.jTa (rq HO445.out) (Kd.jpb ho0) hb);replace BK427:=am (jm (g:=gb427) (o:=.cells #[.slice A0_0 l0_0.length c0_0] 24 (0,0)) (kq BK427.out) hb);replace BK442:=am (jm (g:=gb442) (o:=.cells #[.slice Ao42 t439.length co42] 32 (0,0)) (kq BK442.out) hb);replace HB:=am (jd (Y4) hb);(try clear hb);(try clear hb2);(try clear hk);(try clear hi);(try clear ho0);obtain ⟨Ao49,co49,eo49⟩:=Kd.jHa HO448.out;subst eo49;obtain ⟨Ao50,co50,eo50⟩:=Kd.jHa HO438.out;subst eo50) |((with_reducible refine je (f:=13) rfl ?_);refine gL (some 38) Try.func13 #[.slice Ao49 t446.length co49, .slice Ao50 t436.length co50] ?_;(with_reducible refine (ji.calls k _ _ t446 _ _ t436 true _ ?side1 ?side2 ?side3 ?side4 A19.out).mono ?_);(case side1=>exact cq (Kd.jB HO448.out).2.2);(case side2=>exact (Kd.jB HO448.out).2.1);(case side3=>exact cq (Kd.jB HO438.out).2.2);(case side4=>exact (Kd.jB HO438.out).2.1);rintro e w51 ⟨rfl,hb⟩;refine ⟨_,rfl,?_⟩;replace HO432:=am (Kd.jN (rq HO432.out) hb);replace HO435:=am (Kd.jN (rq HO435.out) hb);replace HO438:=am (Kd.jN (rq HO438.out) hb);replace HO441:=am (Kd.jN (rq HO441.out) hb);replace HO445:=am (Kd.jN (rq HO445.out) hb);replace HO448:=am (Kd.jN (rq HO448.out) hb);replace BK427:=am (jm (g:=gb427) (o:=.cells #[.slice A0_0 l0_0.length c0_0] 24 (0,0)) (kq BK427.out) hb);replace BK442:=am (jm (g:=gb442) (o:=.cells #[.slice Ao42 t439.length co42] 32 (0,0)) (kq BK442.out) hb);replace HB:=am (jd (Y4) hb);(try clear hb);(try clear hb2);(try clear hk);(try clear hi)))
      replace HO432:=am (Kd.jXa HO432.out)
      replace HO435:=am (Kd.jXa HO435.out)
      replace HO438:=am (Kd.jXa HO438.out)
      replace HO441:=am (Kd.jXa HO441.out)
      replace HO445:=am (Kd.jXa HO445.out)
      replace HO448:=am (Kd.jXa HO448.out)
      replace BK427:=am (jma BK427.out)
      replace BK442:=am (jma BK442.out)
      replace HB:=am (jv HB.out)
      refine start_ (n:=5) (S:=fun w'=>w'.cell? ⟨gb442,0,none⟩=some (.slice Ao42 t439.length co42)∧w'.cell? ⟨gb427,0,none⟩=some (.slice A0_0 l0_0.length c0_0)) (ds:=[]) #[false,false,false,false,false] (by kernel_rfl) rfl rfl ⟨(jCa BK442.out 0).trans rfl,(jCa BK427.out 0).trans rfl⟩ (fun hHeld=>?_)
      generalize w51.drew=w52 at HO432 HO435 HO438 HO441 HO445 HO448 BK427 BK442 HB hHeld ⊢
      refine jXb (i:=0) (N:=some 40) (v:=?_) (a':=?_) #[true,false,false,false,false] rfl rfl (by kernel_rfl) (fun _ _ _ h=>h) (Or.inl ⟨by rfl,?_⟩) hHeld ?_ ?_
      rotate_left
      ·rintro w' ⟨s0,s1⟩
       go_simp
       with_reducible rfl
      rotate_left
      ·exact sa
      refine jXb (i:=1) (N:=some 41) (v:=?_) (a':=?_) #[true,true,false,false,false] rfl rfl (by kernel_rfl) (fun _ _ _ h=>h) (Or.inl ⟨by rfl,?_⟩) hHeld ?_ ?_
      rotate_left
      ·rintro w' ⟨s0,s1⟩
       go_simp
       with_reducible rfl
      rotate_left
      ·exact sa
      refine one_ (i:=2) (N:=some 42) #[true,true,true,false,false] rfl rfl (by kernel_rfl) (by decide) (fun K hK=>?_)
      refine goes_ Try.func10 (by kernel_rfl) rfl #[.agg #[.slice A0_0 l0_0.length c0_0]] (by rfl) rfl rfl (aq) ?_
      with_reducible refine (jba.calls k _ _ l0_0 t450 _ ?side1 ?side2 A21.out).mono ?_
      (case side1=>exact cq (Kd.jI HR0_0.out HB.out))
      (case side2=>exact HC0_0.out)
      rintro e w53 ⟨v451,rfl,ho0,hb⟩
      refine ⟨_,rfl,?_⟩
      have HO452:=am (Kd.jJa (Kd.job (Kd.job ho0 (Kd.R_lt (rq HO432.out))) (Kd.R_lt (rq HO441.out))) (jF (Y4)))
      replace HO432:=am (Kd.jTa (rq HO432.out) (Kd.jpb ho0) hb)
      replace HO435:=am (Kd.jN (rq HO435.out) hb)
      replace HO438:=am (Kd.jN (rq HO438.out) hb)
      replace HO441:=am (Kd.jTa (rq HO441.out) (Kd.jpb ho0) hb)
      replace HO445:=am (Kd.jN (rq HO445.out) hb)
      replace HO448:=am (Kd.jN (rq HO448.out) hb)
      replace BK427:=am (jm (g:=gb427) (o:=.cells #[.slice A0_0 l0_0.length c0_0] 24 (0,0)) (kq BK427.out) hb)
      replace BK442:=am (jm (g:=gb442) (o:=.cells #[.slice Ao42 t439.length co42] 32 (0,0)) (kq BK442.out) hb)
      replace HB:=am (jd (Y4) hb)
      (try clear hb)
      (try clear hb2)
      (try clear hk)
      (try clear hi)
      (try clear ho0)
      obtain ⟨Ao54,co54,eo54⟩:=Kd.jHa HO452.out
      (first | subst eo54 |(injection eo54 with f1_ f2_ f3_;have f4_:=f1_.symm;have f5_:=f3_.symm;clear f1_ f2_ f3_;subst f4_;subst f5_))
      refine hK.out _ _ ⟨(jCa BK442.out 0).trans rfl,(jCa BK427.out 0).trans rfl⟩ (fun hHeld=>?_)
      clear hK K
      refine norm_ (a':=?_) ?_ ?_
      rotate_left
      ·show Act.put _ (some 42) _=_
       simp only [Act.put,List.setIfInBounds_toArray,List.set_cons_zero,List.set_cons_succ,jub,jxb]
       rfl
      refine one_ (i:=3) (N:=some 43) #[true,true,true,true,false] rfl rfl (by kernel_rfl) (by decide) (fun K hK=>?_)
      refine goes_ Try.func14 (by kernel_rfl) rfl #[.agg #[.slice Ao42 t439.length co42], .agg #[.slice Ao54 t450.length co54]] (by rfl) rfl rfl (aq) ?_
      with_reducible refine (jIa.calls k _ _ t439 _ _ t450 true _ ?side1 ?side2 ?side3 ?side4 A22.out).mono ?_
      (case side1=>exact cq (Kd.jB HO441.out).2.2)
      (case side2=>exact (Kd.jB HO441.out).2.1)
      (case side3=>exact cq (Kd.jB HO452.out).2.2)
      (case side4=>exact (Kd.jB HO452.out).2.1)
      rintro e w55 ⟨rfl,hb⟩
      refine ⟨_,rfl,?_⟩
      replace HO432:=am (Kd.jN (rq HO432.out) hb)
      replace HO435:=am (Kd.jN (rq HO435.out) hb)
      replace HO438:=am (Kd.jN (rq HO438.out) hb)
      replace HO441:=am (Kd.jN (rq HO441.out) hb)
      replace HO445:=am (Kd.jN (rq HO445.out) hb)
      replace HO448:=am (Kd.jN (rq HO448.out) hb)
      replace HO452:=am (Kd.jN (rq HO452.out) hb)
      replace BK427:=am (jm (g:=gb427) (o:=.cells #[.slice A0_0 l0_0.length c0_0] 24 (0,0)) (kq BK427.out) hb)
      replace BK442:=am (jm (g:=gb442) (o:=.cells #[.slice Ao42 t439.length co42] 32 (0,0)) (kq BK442.out) hb)
      replace HB:=am (jd (Y4) hb)
      (try clear hb)
      (try clear hb2)
      (try clear hk)
      (try clear hi)
      refine hK.out _ _ ⟨(jCa BK442.out 0).trans rfl,(jCa BK427.out 0).trans rfl⟩ (fun hHeld=>?_)
      clear hK K
      refine norm_ (a':=?_) ?_ ?_
      rotate_left
      ·show Act.put _ (some 43) _=_
       simp only [Act.put,List.setIfInBounds_toArray,List.set_cons_zero,List.set_cons_succ,jub,jxb]
       rfl
      refine pure_ (i:=4) (N:=some 44) (v:=?_) (a':=?_) #[true,true,true,true,true] rfl rfl (by kernel_rfl) (fun _ _ _ h=>h) (Or.inl ⟨by rfl,?_⟩) ?_ ?_
      rotate_left
      ·exact sb
      rotate_left
      ·exact sa
      refine done_ (by kernel_rfl) ?_
      go_upto_region 21 with (first |((with_reducible refine je (f:=11) rfl ?_);refine gL (some 47) Try.func11 #[.slice A1 l1.length c1] ?_;(with_reducible refine (jD.calls k _ _ l1 t454 _ ?side1 ?side2 A24.out).mono ?_);(case side1=>exact cq (Kd.jI HR1.out HB.out));(case side2=>exact HC1.out);rintro e w56 ⟨v455,rfl,ho0,hb⟩;refine ⟨_,rfl,?_⟩;have HO456:=am (Kd.jJa (Kd.job (Kd.job (Kd.job (Kd.job ho0 (Kd.R_lt (rq HO435.out))) (Kd.R_lt (rq HO438.out))) (Kd.R_lt (rq HO445.out))) (Kd.R_lt (rq HO448.out))) (jF (Y4)));replace HO432:=am (Kd.jN (rq HO432.out) hb);replace HO435:=am (Kd.jTa (rq HO435.out) (Kd.jpb ho0) hb);replace HO438:=am (Kd.jTa (rq HO438.out) (Kd.jpb ho0) hb);replace HO441:=am (Kd.jN (rq HO441.out) hb);replace HO445:=am (Kd.jTa (rq HO445.out) (Kd.jpb ho0) hb);replace HO448:=am (Kd.jTa (rq HO448.out) (Kd.jpb ho0) hb);replace HO452:=am (Kd.jN (rq HO452.out) hb);replace BK427:=am (jm (g:=gb427) (o:=.cells #[.slice A0_0 l0_0.length c0_0] 24 (0,0)) (kq BK427.out) hb);replace BK442:=am (jm (g:=gb442) (o:=.cells #[.slice Ao42 t439.length co42] 32 (0,0)) (kq BK442.out) hb);replace HB:=am (jd (Y4) hb);(try clear hb);(try clear hb2);(try clear hk);(try clear hi);(try clear ho0);obtain ⟨Ao57,co57,eo57⟩:=Kd.jHa HO456.out;subst eo57) |((with_reducible refine je (f:=13) rfl ?_);refine gL (some 48) Try.func13 #[.slice Ao47 t443.length co47, .slice Ao57 t454.length co57] ?_;(with_reducible refine (ji.calls k _ _ t443 _ _ t454 true _ ?side1 ?side2 ?side3 ?side4 A25.out).mono ?_);(case side1=>exact cq (Kd.jB HO445.out).2.2);(case side2=>exact (Kd.jB HO445.out).2.1);(case side3=>exact cq (Kd.jB HO456.out).2.2);(case side4=>exact (Kd.jB HO456.out).2.1);rintro e w58 ⟨rfl,hb⟩;refine ⟨_,rfl,?_⟩;replace HO432:=am (Kd.jN (rq HO432.out) hb);replace HO435:=am (Kd.jN (rq HO435.out) hb);replace HO438:=am (Kd.jN (rq HO438.out) hb);replace HO441:=am (Kd.jN (rq HO441.out) hb);replace HO445:=am (Kd.jN (rq HO445.out) hb);replace HO448:=am (Kd.jN (rq HO448.out) hb);replace HO452:=am (Kd.jN (rq HO452.out) hb);replace HO456:=am (Kd.jN (rq HO456.out) hb);replace BK427:=am (jm (g:=gb427) (o:=.cells #[.slice A0_0 l0_0.length c0_0] 24 (0,0)) (kq BK427.out) hb);replace BK442:=am (jm (g:=gb442) (o:=.cells #[.slice Ao42 t439.length co42] 32 (0,0)) (kq BK442.out) hb);replace HB:=am (jd (Y4) hb);(try clear hb);(try clear hb2);(try clear hk);(try clear hi);have hcz59_0:=bc0 BK442.out;have hfz59_0:=ja BK442.out 0) |((with_reducible refine je (f:=15) rfl ?_);refine gL (some 52) Try.func15 #[.agg #[.slice Ao42 t439.length co42], .int .i64 1] ?_;(with_reducible refine (jka.calls k (fun k_=>some k_=(.slice Ao42 t439.length co42:Value).ownBlock) (.slice Ao42 t439.length co42) t439 1 t458 t459 w _ ?side1 ?side2 A27.out).mono ?_);(case side1=>exact Y4);(case side2=>exact Kd.R_tight rfl HO441.out);rintro e w60 ⟨rfl,hy0,hb,hkp⟩;refine ⟨_,rfl,?_⟩;replace BK427:=am (jjc (kq BK427.out) hkp (fun hs_=>(fun e_=>(Kd.R_ne HO441.out BK427.out (by decide)) e_) hs_));replace HO432:=am (Kd.jEa (ok':=fun k_=>some k_≠(.slice Ao42 t439.length co42:Value).ownBlock∧some k_≠(.slice Ao54 t450.length co54:Value).ownBlock) (Kd.jvb (HO432.out) hkp (fun k_ hk_ hs_=>(hk_.1.2) hs_)) (fun k_ hk_=>⟨hk_.1.1.2,hk_.1.2⟩));replace HO435:=am (Kd.jEa (ok':=fun k_=>some k_≠(.slice Ao50 t436.length co50:Value).ownBlock∧some k_≠(.slice Ao47 t443.length co47:Value).ownBlock∧some k_≠(.slice Ao49 t446.length co49:Value).ownBlock∧some k_≠(.slice Ao57 t454.length co57:Value).ownBlock) (Kd.jvb ((Kd.jSb HO435.out (Kd.jbc HO441.out) (by decide))) hkp (fun k_ hk_ hs_=>(hk_.2) hs_)) (fun k_ hk_=>⟨hk_.1.1.1.1.1.2,hk_.1.1.1.1.2,hk_.1.1.1.2,hk_.1.1.2⟩));replace HO438:=am (Kd.jEa (ok':=fun k_=>some k_≠(.slice Ao37 t433.length co37:Value).ownBlock∧some k_≠(.slice Ao47 t443.length co47:Value).ownBlock∧some k_≠(.slice Ao49 t446.length co49:Value).ownBlock∧some k_≠(.slice Ao57 t454.length co57:Value).ownBlock) (Kd.jvb ((Kd.jSb HO438.out (Kd.jbc HO441.out) (by decide))) hkp (fun k_ hk_ hs_=>(hk_.2) hs_)) (fun k_ hk_=>⟨hk_.1.1.1.1.1.2,hk_.1.1.1.1.2,hk_.1.1.1.2,hk_.1.1.2⟩));replace BK442:=am (jjc (kq BK442.out) hkp (fun hs_=>(fun e_=>(Kd.R_ne HO441.out BK442.out (by decide)) e_) hs_));replace HO445:=am (Kd.jEa (ok':=fun k_=>some k_≠(.slice Ao37 t433.length co37:Value).ownBlock∧some k_≠(.slice Ao50 t436.length co50:Value).ownBlock∧some k_≠(.slice Ao49 t446.length co49:Value).ownBlock∧some k_≠(.slice Ao57 t454.length co57:Value).ownBlock) (Kd.jvb ((Kd.jSb HO445.out (Kd.jbc HO441.out) (by decide))) hkp (fun k_ hk_ hs_=>(hk_.2) hs_)) (fun k_ hk_=>⟨hk_.1.1.1.1.1.2,hk_.1.1.1.1.2,hk_.1.1.1.2,hk_.1.1.2⟩));replace HO448:=am (Kd.jEa (ok':=fun k_=>some k_≠(.slice Ao37 t433.length co37:Value).ownBlock∧some k_≠(.slice Ao50 t436.length co50:Value).ownBlock∧some k_≠(.slice Ao47 t443.length co47:Value).ownBlock∧some k_≠(.slice Ao57 t454.length co57:Value).ownBlock) (Kd.jvb ((Kd.jSb HO448.out (Kd.jbc HO441.out) (by decide))) hkp (fun k_ hk_ hs_=>(hk_.2) hs_)) (fun k_ hk_=>⟨hk_.1.1.1.1.1.2,hk_.1.1.1.1.2,hk_.1.1.1.2,hk_.1.1.2⟩));replace HO452:=am (Kd.jEa (ok':=fun k_=>some k_≠(.slice Ao36 t430.length co36:Value).ownBlock∧some k_≠(.slice Ao42 t439.length co42:Value).ownBlock) (Kd.jvb (HO452.out) hkp (fun k_ hk_ hs_=>(hk_.2) hs_)) (fun k_ hk_=>⟨hk_.1.1.2,hk_.1.2⟩));replace HO456:=am (Kd.jEa (ok':=fun k_=>some k_≠(.slice Ao37 t433.length co37:Value).ownBlock∧some k_≠(.slice Ao50 t436.length co50:Value).ownBlock∧some k_≠(.slice Ao47 t443.length co47:Value).ownBlock∧some k_≠(.slice Ao49 t446.length co49:Value).ownBlock) (Kd.jvb ((Kd.jSb HO456.out (Kd.jbc HO441.out) (by decide))) hkp (fun k_ hk_ hs_=>(hk_.2) hs_)) (fun k_ hk_=>⟨hk_.1.1.1.1.1.2,hk_.1.1.1.1.2,hk_.1.1.1.2,hk_.1.1.2⟩));replace HO441:=am (Kd.R_reok rfl hy0 (fun k_ e_=>HO441.out.1 k_ e_));replace HB:=am (hb);(try clear hb);(try clear hkp);(try clear hy0)) |((with_reducible refine je (f:=16) rfl ?_);refine gL (some 55) Try.func16 #[.slice Ao47 t443.length co47, .int .i64 t458] ?_;(with_reducible refine (jy.calls k (fun k_=>some k_=(.slice Ao47 t443.length co47:Value).ownBlock) (.slice Ao47 t443.length co47) t443 t458 t460 t461 w _ ?side1 ?side2 A28.out).mono ?_);(case side1=>exact Y4);(case side2=>exact Kd.R_tight rfl HO445.out);rintro e w61 ⟨rfl,hy0,hb,hkp⟩;refine ⟨_,rfl,?_⟩;replace BK427:=am (jjc (kq BK427.out) hkp (fun hs_=>(fun e_=>(Kd.R_ne HO445.out BK427.out (by decide)) e_) hs_));replace HO432:=am (Kd.jEa (ok':=fun k_=>some k_≠(.slice Ao42 t439.length co42:Value).ownBlock∧some k_≠(.slice Ao54 t450.length co54:Value).ownBlock) (Kd.jvb ((Kd.jSb HO432.out (Kd.jbc HO445.out) (by decide))) hkp (fun k_ hk_ hs_=>(hk_.2) hs_)) (fun k_ hk_=>⟨hk_.1.1.1,hk_.1.1.2⟩));replace HO435:=am (Kd.jEa (ok':=fun k_=>some k_≠(.slice Ao50 t436.length co50:Value).ownBlock∧some k_≠(.slice Ao47 t443.length co47:Value).ownBlock∧some k_≠(.slice Ao49 t446.length co49:Value).ownBlock∧some k_≠(.slice Ao57 t454.length co57:Value).ownBlock) (Kd.jvb (HO435.out) hkp (fun k_ hk_ hs_=>(hk_.2.1) hs_)) (fun k_ hk_=>⟨hk_.1.1,hk_.1.2.1,hk_.1.2.2.1,hk_.1.2.2.2⟩));replace HO438:=am (Kd.jEa (ok':=fun k_=>some k_≠(.slice Ao37 t433.length co37:Value).ownBlock∧some k_≠(.slice Ao47 t443.length co47:Value).ownBlock∧some k_≠(.slice Ao49 t446.length co49:Value).ownBlock∧some k_≠(.slice Ao57 t454.length co57:Value).ownBlock) (Kd.jvb (HO438.out) hkp (fun k_ hk_ hs_=>(hk_.2.1) hs_)) (fun k_ hk_=>⟨hk_.1.1,hk_.1.2.1,hk_.1.2.2.1,hk_.1.2.2.2⟩));replace HO441:=am (Kd.jEa (ok':=fun k_=>some k_≠(.slice Ao36 t430.length co36:Value).ownBlock∧some k_≠(.slice Ao54 t450.length co54:Value).ownBlock) (Kd.jvb ((Kd.jSb HO441.out (Kd.jbc HO445.out) (by decide))) hkp (fun k_ hk_ hs_=>(hk_.2) hs_)) (fun k_ hk_=>⟨hk_.1.1.1.2,hk_.1.1.2⟩));replace BK442:=am (jjc (kq BK442.out) hkp (fun hs_=>(fun e_=>(Kd.R_ne HO445.out BK442.out (by decide)) e_) hs_));replace HO448:=am (Kd.jEa (ok':=fun k_=>some k_≠(.slice Ao37 t433.length co37:Value).ownBlock∧some k_≠(.slice Ao50 t436.length co50:Value).ownBlock∧some k_≠(.slice Ao47 t443.length co47:Value).ownBlock∧some k_≠(.slice Ao57 t454.length co57:Value).ownBlock) (Kd.jvb (HO448.out) hkp (fun k_ hk_ hs_=>(hk_.2.2.1) hs_)) (fun k_ hk_=>⟨hk_.1.1,hk_.1.2.1,hk_.1.2.2.1,hk_.1.2.2.2⟩));replace HO452:=am (Kd.jEa (ok':=fun k_=>some k_≠(.slice Ao36 t430.length co36:Value).ownBlock∧some k_≠(.slice Ao42 t439.length co42:Value).ownBlock) (Kd.jvb ((Kd.jSb HO452.out (Kd.jbc HO445.out) (by decide))) hkp (fun k_ hk_ hs_=>(hk_.2) hs_)) (fun k_ hk_=>⟨hk_.1.1.1,hk_.1.1.2⟩));replace HO445:=am (Kd.R_reok rfl hy0 (fun k_ e_=>HO445.out.1 k_ e_));replace HO456:=am (Kd.jEa (ok':=fun k_=>some k_≠(.slice Ao37 t433.length co37:Value).ownBlock∧some k_≠(.slice Ao50 t436.length co50:Value).ownBlock∧some k_≠(.slice Ao47 t443.length co47:Value).ownBlock∧some k_≠(.slice Ao49 t446.length co49:Value).ownBlock) (Kd.jvb (HO456.out) hkp (fun k_ hk_ hs_=>(hk_.2.2.1) hs_)) (fun k_ hk_=>⟨hk_.1.1,hk_.1.2.1,hk_.1.2.2.1,hk_.1.2.2.2⟩));replace HB:=am (hb);(try clear hb);(try clear hkp);(try clear hy0)))
      (try simp only [Act.put,List.setIfInBounds_toArray,List.set_cons_zero,List.set_cons_succ])
      go_cut [63] (fun v63 wc=>∃ (kq:Nat) (x63_28:Bool),v63=.bool x63_28∧jo (jf.j0 kq l1 t436 t446 x63_28 l0_0=some r)∧jo (kq≤k)∧jo (Kd.R k52 52 wc w.heap.size (fun k_=>some k_≠((.slice Ao49 t446.length co49):Value).ownBlock) (.slice Ao50 t436.length co50) t436)∧jo (Kd.R k52 52 wc w.heap.size (fun k_=>some k_≠((.slice Ao50 t436.length co50):Value).ownBlock) (.slice Ao49 t446.length co49) t446)∧jo (Kd.R k78 78 wc w.heap.size (fun _=>True) (.slice Ao42 t439.length co42) t459)∧jo (wc.heap[gb427]?=some (.cells #[(.slice A0_0 l0_0.length c0_0)] 24 (0,0)))∧jo (wc.heap[gb442]?=some (.cells #[(.slice Ao42 t439.length co42)] 32 (0,0)))∧jo (Below w.heap.size w wc))
      case first =>
       have H:=HC29.out
       clear HC29
       by_cases c62:t460<0
       ·rw [if_pos c62] at H
        have c62b0:decide (t460<0)=true:=dzT c62
        clear c62
        (first | rw [c62b0] |(simp only [jub,jxb];rw [c62b0]) | skip)
        have H':=am H
        clear H
        go_wp2
        go_meet
        case rel=>exact ⟨_,(true),(sq),H',⟨Y18⟩,⟨by (with_reducible repeat (first | apply Kd.jcb | apply Kd.jbb | apply Kd.jXa));exact Kd.jEa HO438.out (fun _ hk=>hk.2.2.1)⟩,⟨by (with_reducible repeat (first | apply Kd.jcb | apply Kd.jbb | apply Kd.jXa));exact Kd.jEa HO448.out (fun _ hk=>hk.2.1)⟩,⟨by (with_reducible repeat (first | apply Kd.jcb | apply Kd.jbb | apply Kd.jXa));exact Kd.jEa HO441.out (fun _ hk=>trivial)⟩,⟨kq BK427.out⟩,⟨kq BK442.out⟩,⟨Y4⟩⟩
       ·rw [if_neg c62] at H
        have c62b0:decide (t460<0)=false:=dzF c62
        clear c62
        (first | rw [c62b0] |(simp only [jub,jxb];rw [c62b0]) | skip)
        replace H:=bzS H
        obtain ⟨t462,A630,H⟩:=H
        replace H:(jf.j0 k l1 t436 t446 (!t462) l0_0)=some r:=H
        have A63:=am A630
        clear A630
        have H':=am H
        clear H
        go_wp2_with (first |(go_at_call 13;(with_reducible refine (ji.calls k _ _ t446 _ _ t436 t462 _ ?side1 ?side2 ?side3 ?side4 A63.out).mono ?_);(case side1=>exact cq (Kd.jB HO448.out).2.2);(case side2=>exact (Kd.jB HO448.out).2.1);(case side3=>exact cq (Kd.jB HO438.out).2.2);(case side4=>exact (Kd.jB HO438.out).2.1);rintro e w64 ⟨rfl,hb⟩;replace HO432:=am (Kd.jN (rq HO432.out) hb);replace HO435:=am (Kd.jN (rq HO435.out) hb);replace HO438:=am (Kd.jN (rq HO438.out) hb);replace HO441:=am (Kd.jN (rq HO441.out) hb);replace HO445:=am (Kd.jN (rq HO445.out) hb);replace HO448:=am (Kd.jN (rq HO448.out) hb);replace HO452:=am (Kd.jN (rq HO452.out) hb);replace HO456:=am (Kd.jN (rq HO456.out) hb);replace BK427:=am (jm (g:=gb427) (o:=.cells #[.slice A0_0 l0_0.length c0_0] 24 (0,0)) (kq BK427.out) hb);replace BK442:=am (jm (g:=gb442) (o:=.cells #[.slice Ao42 t439.length co42] 32 (0,0)) (kq BK442.out) hb);replace HB:=am (jd (Y4) hb);(try clear hb);(try clear hb2);(try clear hk);(try clear hi)))
        go_meet
        case rel=>exact ⟨_,(!t462),(sq),H',⟨Y18⟩,⟨by (with_reducible repeat (first | apply Kd.jcb | apply Kd.jbb | apply Kd.jXa));exact Kd.jEa HO438.out (fun _ hk=>hk.2.2.1)⟩,⟨by (with_reducible repeat (first | apply Kd.jcb | apply Kd.jbb | apply Kd.jXa));exact Kd.jEa HO448.out (fun _ hk=>hk.2.1)⟩,⟨by (with_reducible repeat (first | apply Kd.jcb | apply Kd.jbb | apply Kd.jXa));exact Kd.jEa HO441.out (fun _ hk=>trivial)⟩,⟨kq BK427.out⟩,⟨kq BK442.out⟩,⟨Y4⟩⟩
      case rest =>
       clear HC29
       try clear c1
       try clear c2
       try clear p2
       try clear c4
       try clear c4b0
       try clear c6
       try clear c7
       try clear c8
       try clear c9
       try clear c9b0
       try clear c10
       try clear c11
       try clear c13
       try clear c14
       try clear c15
       try clear c16
       try clear c18
       try clear c19
       try clear c20
       try clear c23
       try clear c26
       try clear c43
       try clear c62
       try clear c62b0
       try clear hcz11_0
       try clear hcz31_0
       try clear hcz33_0
       try clear hcz39_0
       try clear hcz44_0
       try clear hcz46_0
       try clear hcz59_0
       try clear hcz6_0
       try clear hfz11_0
       try clear hfz31_0
       try clear hfz33_0
       try clear hfz39_0
       try clear hfz44_0
       try clear hfz46_0
       try clear hfz59_0
       try clear hfz6_0
       obtain ⟨kq,x63_28,rfl,HA,HJ28,HO_6,HO_9,HO_443000,BK427,BK442,HB⟩:=hcut
       have hl443000_28:=(Kd.jB HO_443000.out).1
       rw [hl443000_28] at HO_443000
       (try simp only [hl443000_28])
       (try simp only [hl443000_28] at BK427)
       (try simp only [hl443000_28] at BK442)
       (try simp only [hl443000_28] at HO_6)
       (try simp only [hl443000_28] at HO_9)
       cases kq with
       | zero=>exact absurd HA.out (by simp [jf.j0])
       | succ kj28 =>
        have H:=HA.out
        clear HA
        simp only [jf.j0] at H
        by_cases c65:x63_28=true
        ·subst c65
         have H1:(some false)=some r:=by rw [if_pos rfl] at H;exact H
         clear H
         have H:=H1
         clear H1
         exact absurd ((Option.some.inj H).trans hT) Bool.false_ne_true
        ·replace c65:=Bool.eq_false_iff.mpr c65
         subst c65
         have H1:((jy.f kj28 t446 1).bind fun bt463=>((jW.f kj28 bt463.2 1).bind fun t465=>(if t465<0 then (some false) else (if t465=bt463.1 then ((jba.f kj28 l0_0).bind fun t466=>((jD.f kj28 l1).bind fun t469=>((jra.f kj28 t466 t469).bind fun t472=>((ji.f kj28 t472 t436).bind fun t475=>(if t475=true then ((jW.f kj28 bt463.2 1).bind fun t476=>(if t476<0 then (some false) else (if t476=bt463.1 then (some true) else (some false)))) else (some false)))))) else (some false)))))=some r:=by rw [if_neg (show ¬ (false=true) by decide)] at H;exact H
         clear H
         have H:=H1
         clear H1
         replace H:=bzS H
         obtain ⟨⟨t463,t464⟩,A660,H⟩:=H
         replace H:((jW.f kj28 t464 1).bind fun t465=>(if t465<0 then (some false) else (if t465=t463 then ((jba.f kj28 l0_0).bind fun t466=>((jD.f kj28 l1).bind fun t469=>((jra.f kj28 t466 t469).bind fun t472=>((ji.f kj28 t472 t436).bind fun t475=>(if t475=true then ((jW.f kj28 t464 1).bind fun t476=>(if t476<0 then (some false) else (if t476=t463 then (some true) else (some false)))) else (some false)))))) else (some false))))=some r:=H
         have A66:=am A660
         clear A660
         replace H:=bzS H
         obtain ⟨t465,A670,H⟩:=H
         replace H:(if t465<0 then (some false) else (if t465=t463 then ((jba.f kj28 l0_0).bind fun t466=>((jD.f kj28 l1).bind fun t469=>((jra.f kj28 t466 t469).bind fun t472=>((ji.f kj28 t472 t436).bind fun t475=>(if t475=true then ((jW.f kj28 t464 1).bind fun t476=>(if t476<0 then (some false) else (if t476=t463 then (some true) else (some false)))) else (some false)))))) else (some false)))=some r:=H
         have A67:=am A670
         clear A670
         by_cases c68:t465<0
         ·rw [if_pos c68] at H
          have c68b0:decide (t465<0)=true:=dzT c68
          clear c68
          exact absurd ((Option.some.inj H).trans hT) Bool.false_ne_true
         ·rw [if_neg c68] at H
          have c68b0:decide (t465<0)=false:=dzF c68
          clear c68
          by_cases c69:t465=t463
          ·rw [if_pos c69] at H
           have c69b0:(t465 == t463)=true:=beq_iff_eq.mpr c69
           have c69b1:(t465 != t463)=false:=bne_eq_false_iff_eq.mpr c69
           clear c69
           replace H:=bzS H
           obtain ⟨t466,A700,H⟩:=H
           replace H:((jD.f kj28 l1).bind fun t469=>((jra.f kj28 t466 t469).bind fun t472=>((ji.f kj28 t472 t436).bind fun t475=>(if t475=true then ((jW.f kj28 t464 1).bind fun t476=>(if t476<0 then (some false) else (if t476=t463 then (some true) else (some false)))) else (some false)))))=some r:=H
           have A70:=am A700
           clear A700
           replace H:=bzS H
           obtain ⟨t469,A710,H⟩:=H
           replace H:((jra.f kj28 t466 t469).bind fun t472=>((ji.f kj28 t472 t436).bind fun t475=>(if t475=true then ((jW.f kj28 t464 1).bind fun t476=>(if t476<0 then (some false) else (if t476=t463 then (some true) else (some false)))) else (some false))))=some r:=H
           have A71:=am A710
           clear A710
           replace H:=bzS H
           obtain ⟨t472,A720,H⟩:=H
           replace H:((ji.f kj28 t472 t436).bind fun t475=>(if t475=true then ((jW.f kj28 t464 1).bind fun t476=>(if t476<0 then (some false) else (if t476=t463 then (some true) else (some false)))) else (some false)))=some r:=H
           have A72:=am A720
           clear A720
           replace H:=bzS H
           obtain ⟨t475,A730,H⟩:=H
           replace H:(if t475=true then ((jW.f kj28 t464 1).bind fun t476=>(if t476<0 then (some false) else (if t476=t463 then (some true) else (some false)))) else (some false))=some r:=H
           have A73:=am A730
           clear A730
           by_cases c74:t475=true
           ·subst c74
            have H1:((jW.f kj28 t464 1).bind fun t476=>(if t476<0 then (some false) else (if t476=t463 then (some true) else (some false))))=some r:=by rw [if_pos rfl] at H;exact H
            clear H
            have H:=H1
            clear H1
            replace H:=bzS H
            obtain ⟨t476,A750,H⟩:=H
            replace H:(if t476<0 then (some false) else (if t476=t463 then (some true) else (some false)))=some r:=H
            have A75:=am A750
            clear A750
            by_cases c76:t476<0
            ·rw [if_pos c76] at H
             have c76b0:decide (t476<0)=true:=dzT c76
             clear c76
             exact absurd ((Option.some.inj H).trans hT) Bool.false_ne_true
            ·rw [if_neg c76] at H
             have c76b0:decide (t476<0)=false:=dzF c76
             clear c76
             by_cases c77:t476=t463
             ·rw [if_pos c77] at H
              have c77b0:(t476 == t463)=true:=beq_iff_eq.mpr c77
              have c77b1:(t476 != t463)=false:=bne_eq_false_iff_eq.mpr c77
              clear c77
              obtain rfl:=Option.some.inj H
              go_wp2_with (first |((with_reducible refine je (f:=16) rfl ?_);refine gL (some 66) Try.func16 #[.slice Ao49 t446.length co49, .int .i64 1] ?_;(with_reducible refine (jy.calls kj28 (fun k_=>some k_=(.slice Ao49 t446.length co49:Value).ownBlock) (.slice Ao49 t446.length co49) t446 1 t463 t464 w _ ?side1 ?side2 A66.out).mono ?_);(case side1=>exact Y4);(case side2=>exact Kd.R_tight rfl HO_9.out);rintro e w78 ⟨rfl,hy0,hb,hkp⟩;refine ⟨_,rfl,?_⟩;replace HO_6:=am (Kd.jEa (ok':=fun k_=>some k_≠(.slice Ao49 t446.length co49:Value).ownBlock) (Kd.jvb (HO_6.out) hkp (fun k_ hk_ hs_=>(hk_) hs_)) (fun k_ hk_=>hk_.1));replace HO_443000:=am (Kd.jEa (ok':=fun k_=>True) (Kd.jvb ((Kd.jSb HO_443000.out (Kd.jbc HO_9.out) (by decide))) hkp (fun k_ hk_ hs_=>(hk_.2) hs_)) (fun k_ hk_=>trivial));replace BK427:=am (jjc (kq BK427.out) hkp (fun hs_=>(fun e_=>(Kd.R_ne HO_9.out BK427.out (by decide)) e_) hs_));replace BK442:=am (jjc (kq BK442.out) hkp (fun hs_=>(fun e_=>(Kd.R_ne HO_9.out BK442.out (by decide)) e_) hs_));replace HO_9:=am (Kd.R_reok rfl hy0 (fun k_ e_=>HO_9.out.1 k_ e_));replace HB:=am (hb);(try clear hb);(try clear hkp);(try clear hy0)) |((with_reducible refine je (f:=17) rfl ?_);refine goesL_ (some 69) rfl rfl Try.func17 (by kernel_rfl) rfl #[.slice Ao49 t464.length co49, .int .i64 1] rfl (by (try simp only [List.map_toArray,List.map_cons,List.map_nil]);first | done |(rw [show t464.length=t446.length from (Kd.jB HO_9.out).1.symm] <;> rfl) | rfl |(simp only [List.length_drop,List.length_take];rfl)) ?_;(with_reducible refine (jW.calls kj28 _ _ t464 1 t465 _ ?side1 ?side2 A67.out).mono ?_);(case side1=>exact cq (Kd.jB HO_9.out).2.2);(case side2=>rw [show t464.length=t446.length from (Kd.jB HO_9.out).1.symm];exact (Kd.jB HO_9.out).2.1);rintro e w' ⟨rfl,⟨nd,rfl⟩⟩;refine ⟨_,rfl,?_⟩;have hnb79:=NB427_442.out;have hnc79:=NB442_427.out;have hcz80_0:=bc0 BK427.out;have hfz80_0:=ja BK427.out 0) |((with_reducible refine je (f:=10) rfl ?_);refine gL (some 76) Try.func10 #[.agg #[.slice A0_0 l0_0.length c0_0]] ?_;(with_reducible refine (jba.calls kj28 _ _ l0_0 t466 _ ?side1 ?side2 A70.out).mono ?_);(case side1=>repeat (first | exact (Kd.jI HR0_0.out (by repeat (first |(with_reducible first | exact HB.out | apply jC | apply jh | apply jv | refine jA ?_ GE427.out | refine jA ?_ GE442.out) | exact HB.out))) |(with_reducible refine Kd.C_alloc ?_ _) |(with_reducible refine Kd.C_drewN ?_ _) |(with_reducible refine Kd.C_drew ?_)));(case side2=>exact HC0_0.out);rintro e w81 ⟨v467,rfl,ho0,hb⟩;refine ⟨_,rfl,?_⟩;have HO468:=am (Kd.jJa (Kd.job ho0 (Kd.R_lt (rq HO_443000.out))) (jF (Y4)));replace HO_6:=am (Kd.jN (rq HO_6.out) hb);replace HO_9:=am (Kd.jN (rq HO_9.out) hb);replace HO_443000:=am (Kd.jTa (rq HO_443000.out) (Kd.jpb ho0) hb);replace BK427:=am (jm (g:=gb427) (o:=.cells #[.slice A0_0 l0_0.length c0_0] 24 (0,0)) (kq BK427.out) hb);replace BK442:=am (jm (g:=gb442) (o:=.cells #[.slice Ao42 t459.length co42] 32 (0,0)) (kq BK442.out) hb);replace HB:=am (jd (Y4) hb);(try clear hb);(try clear hb2);(try clear hk);(try clear hi);(try clear ho0)) |((with_reducible refine je (f:=11) rfl ?_);refine gL (some 78) Try.func11 #[.slice A1 l1.length c1] ?_;(with_reducible refine (jD.calls kj28 _ _ l1 t469 _ ?side1 ?side2 A71.out).mono ?_);(case side1=>exact cq (Kd.jI HR1.out HB.out));(case side2=>exact HC1.out);rintro e w82 ⟨v470,rfl,ho0,hb⟩;refine ⟨_,rfl,?_⟩;have HO471:=am (Kd.jJa (Kd.job (Kd.job ho0 (Kd.R_lt (rq HO_6.out))) (Kd.R_lt (rq HO_9.out))) (jF (Y4)));replace HO_6:=am (Kd.jTa (rq HO_6.out) (Kd.jpb ho0) hb);replace HO_9:=am (Kd.jTa (rq HO_9.out) (Kd.jpb ho0) hb);replace HO_443000:=am (Kd.jN (rq HO_443000.out) hb);replace HO468:=am (Kd.jN (rq HO468.out) hb);replace BK427:=am (jm (g:=gb427) (o:=.cells #[.slice A0_0 l0_0.length c0_0] 24 (0,0)) (kq BK427.out) hb);replace BK442:=am (jm (g:=gb442) (o:=.cells #[.slice Ao42 t459.length co42] 32 (0,0)) (kq BK442.out) hb);replace HB:=am (jd (Y4) hb);(try clear hb);(try clear hb2);(try clear hk);(try clear hi);(try clear ho0);obtain ⟨Ao83,co83,eo83⟩:=Kd.jHa HO468.out;subst eo83;obtain ⟨Ao84,co84,eo84⟩:=Kd.jHa HO471.out;subst eo84) |((with_reducible refine je (f:=19) rfl ?_);refine gL (some 79) Try.func19 #[.agg #[.slice Ao83 t466.length co83], .slice Ao84 t469.length co84] ?_;(with_reducible refine (jra.calls kj28 _ _ t466 _ _ t469 t472 _ ?side1 ?side2 ?side3 ?side4 A72.out).mono ?_);(case side1=>exact cq (Kd.jB HO468.out).2.2);(case side2=>exact (Kd.jB HO468.out).2.1);(case side3=>exact cq (Kd.jB HO471.out).2.2);(case side4=>exact (Kd.jB HO471.out).2.1);rintro e w85 ⟨v473,rfl,ho0,hb⟩;refine ⟨_,rfl,?_⟩;have HO474:=am (Kd.jJa (Kd.job (Kd.job (Kd.job ho0 (Kd.R_lt (rq HO_6.out))) (Kd.R_lt (rq HO_9.out))) (Kd.R_lt (rq HO471.out))) (jF (Y4)));replace HO_6:=am (Kd.jTa (rq HO_6.out) (Kd.jpb ho0) hb);replace HO_9:=am (Kd.jTa (rq HO_9.out) (Kd.jpb ho0) hb);replace HO_443000:=am (Kd.jN (rq HO_443000.out) hb);replace HO468:=am (Kd.jN (rq HO468.out) hb);replace HO471:=am (Kd.jTa (rq HO471.out) (Kd.jpb ho0) hb);replace BK427:=am (jm (g:=gb427) (o:=.cells #[.slice A0_0 l0_0.length c0_0] 24 (0,0)) (kq BK427.out) hb);replace BK442:=am (jm (g:=gb442) (o:=.cells #[.slice Ao42 t459.length co42] 32 (0,0)) (kq BK442.out) hb);replace HB:=am (jd (Y4) hb);(try clear hb);(try clear hb2);(try clear hk);(try clear hi);(try clear ho0);obtain ⟨Ao86,co86,eo86⟩:=Kd.jHa HO474.out;subst eo86) |((with_reducible refine je (f:=13) rfl ?_);refine gL (some 82) Try.func13 #[.slice Ao86 t472.length co86, .slice Ao50 t436.length co50] ?_;(with_reducible refine (ji.calls kj28 _ _ t472 _ _ t436 true _ ?side1 ?side2 ?side3 ?side4 A73.out).mono ?_);(case side1=>exact cq (Kd.jB HO474.out).2.2);(case side2=>exact (Kd.jB HO474.out).2.1);(case side3=>exact cq (Kd.jB HO_6.out).2.2);(case side4=>exact (Kd.jB HO_6.out).2.1);rintro e w87 ⟨rfl,hb⟩;refine ⟨_,rfl,?_⟩;replace HO_6:=am (Kd.jN (rq HO_6.out) hb);replace HO_9:=am (Kd.jN (rq HO_9.out) hb);replace HO_443000:=am (Kd.jN (rq HO_443000.out) hb);replace HO468:=am (Kd.jN (rq HO468.out) hb);replace HO471:=am (Kd.jN (rq HO471.out) hb);replace HO474:=am (Kd.jN (rq HO474.out) hb);replace BK427:=am (jm (g:=gb427) (o:=.cells #[.slice A0_0 l0_0.length c0_0] 24 (0,0)) (kq BK427.out) hb);replace BK442:=am (jm (g:=gb442) (o:=.cells #[.slice Ao42 t459.length co42] 32 (0,0)) (kq BK442.out) hb);replace HB:=am (jd (Y4) hb);(try clear hb);(try clear hb2);(try clear hk);(try clear hi)) |((with_reducible refine je (f:=17) rfl ?_);refine goesL_ (some 86) rfl rfl Try.func17 (by kernel_rfl) rfl #[.slice Ao49 t464.length co49, .int .i64 1] rfl (by (try simp only [List.map_toArray,List.map_cons,List.map_nil]);first | done |(rw [show t464.length=t446.length from (Kd.jB HO_9.out).1.symm] <;> rfl) | rfl |(simp only [List.length_drop,List.length_take];rfl)) ?_;(with_reducible refine (jW.calls kj28 _ _ t464 1 t476 _ ?side1 ?side2 A75.out).mono ?_);(case side1=>exact cq (Kd.jB HO_9.out).2.2);(case side2=>rw [show t464.length=t446.length from (Kd.jB HO_9.out).1.symm];exact (Kd.jB HO_9.out).2.1);rintro e w' ⟨rfl,⟨nd,rfl⟩⟩;refine ⟨_,rfl,?_⟩))
              go_ret
              exact ⟨Y0,Y4⟩
             ·rw [if_neg c77] at H
              have c77b0:(t476 == t463)=false:=beq_eq_false_iff_ne.mpr c77
              have c77b1:(t476 != t463)=true:=bne_iff_ne.mpr c77
              exact absurd ((Option.some.inj H).trans hT) Bool.false_ne_true
           ·replace c74:=Bool.eq_false_iff.mpr c74
            subst c74
            have H1:(some false)=some r:=by rw [if_neg (show ¬ (false=true) by decide)] at H;exact H
            clear H
            have H:=H1
            clear H1
            exact absurd ((Option.some.inj H).trans hT) Bool.false_ne_true
          ·rw [if_neg c69] at H
           have c69b0:(t465 == t463)=false:=beq_eq_false_iff_ne.mpr c69
           have c69b1:(t465 != t463)=true:=bne_iff_ne.mpr c69
           exact absurd ((Option.some.inj H).trans hT) Bool.false_ne_true
     ·replace c26:=Bool.eq_false_iff.mpr c26
      subst c26
      have H1:(some false)=some r:=by rw [if_neg (show ¬ (false=true) by decide)] at H;exact H
      clear H
      have H:=H1
      clear H1
      exact absurd ((Option.some.inj H).trans hT) Bool.false_ne_true
    ·replace c23:=Bool.eq_false_iff.mpr c23
     subst c23
     have H1:(some false)=some r:=by rw [if_neg (show ¬ (false=true) by decide)] at H;exact H
     clear H
     have H:=H1
     clear H1
     exact absurd ((Option.some.inj H).trans hT) Bool.false_ne_true
   ·replace c20:=Bool.eq_false_iff.mpr c20
    subst c20
    have H1:(some false)=some r:=by rw [if_neg (show ¬ (false=true) by decide)] at H;exact H
    clear H
    have H:=H1
    clear H1
    exact absurd ((Option.some.inj H).trans hT) Bool.false_ne_true
end Go.Proofs.Ytkhiiiddbmgiaaa.P
end
