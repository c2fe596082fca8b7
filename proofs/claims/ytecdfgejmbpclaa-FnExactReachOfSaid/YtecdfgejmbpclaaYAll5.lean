/- One part of the proofs on this program: functions of the program as plain functions, that the code comes to them, and facts on them. -/
import Derived.Test.YtecdfgejmbpclaaYAll1
import Derived.Test.YtecdfgejmbpclaaYAll2
import Derived.Test.YtecdfgejmbpclaaYAll3
import Derived.Test.YtecdfgejmbpclaaYAll4
import Derived.Test.YtecdfgejmbpclaaYWAuto
section
namespace Go.Proofs.Ytecdfgejmbpclaa.P
open Go.RowKit Go.Proofs.YtecdfgejmbpclaaW.PrintWords Go.Proofs.YtecdfgejmbpclaaW.PrintLast Go.Proofs.YtecdfgejmbpclaaW.PrintMore
attribute [local go_sem] jT jR jda jca jK jJ jS jQ je
set_option linter.unusedVariables false
set_option linter.unusedSimpArgs false
def jg.j0 : Nat → Int → List Int → List Int → Bool → List (S92) → List (S97) → Option (Bool)
 | 0,_,_,_,_,_,_=>none
 | k+1,x2,x8,x11,x67,x737000,x738000=>if x67=true then (some false) else ((jra.f k x11 1).bind fun bt774=>((jV.f k bt774.2 1).bind fun t776=>(if t776<0 then (some false) else (if t776=bt774.1 then ((jW.f k x737000).bind fun t777=>((jM.f k x738000).bind fun t780=>((jna.f k t777 t780 x2).bind fun t783=>((jD.f k t783 x8).bind fun t786=>(if t786=true then ((jV.f k bt774.2 1).bind fun t787=>(if t787<0 then (some false) else (if t787=bt774.1 then (some true) else (some false)))) else (some false)))))) else (some false)))))
def jg.f (k : Nat) (l0_0 : List (S92)) (l1_0 : List (S97)) (a2 : Int) : Option (Bool) := (jbb.f k l0_0 1048576).bind fun t738 => (if t738 < 0 then (some true) else ((jcb.f l1_0 t738).bind fun t739 => (if t739 < 0 then (some true) else ((jW.f k l0_0).bind fun t740 => ((jM.f k l1_0).bind fun t743 => ((jMa.f k t740 t743 a2).bind fun t746 => ((jW.f k l0_0).bind fun t749 => ((jM.f k l1_0).bind fun t753 => ((jna.f k t749 t753 a2).bind fun t757 => ((jD.f k t757 t746).bind fun t760 => (if t760 = true then ((jW.f k l0_0).bind fun t761 => ((jBa.f k t749 t761).bind fun t764 => (if t764 = true then ((jM.f k l1_0).bind fun t765 => ((jua.f k t753 t765).bind fun t768 => (if t768 = true then ((jfa.f k t749 1).bind fun bt769 => ((jba.f k t753 bt769.1).bind fun bt771 => (if bt771.1 < 0 then (jg.j0 k a2 t746 t757 true l0_0 l1_0) else ((jD.f k t757 t746).bind fun t773 => (jg.j0 k a2 t746 t757 (!t773) l0_0 l1_0))))) else (some false)))) else (some false)))) else (some false))))))))))))
set_option maxHeartbeats 8000000 in
set_option maxRecDepth 100000 in
theorem jg.calls (k : Nat) (A0_0 : Option Addr) (c0_0 : Nat) (l0_0 : List (S92)) (A1_0 : Option Addr) (c1_0 : Nat) (l1_0 : List (S97)) (a2 : Int) (r : Bool) (w : World) (hr0_0 : Kd.C k92 w A0_0 l0_0.length l0_0) (hc0_0 : l0_0.length ≤ c0_0) (hr1_0 : Kd.C k97 w A1_0 l1_0.length l1_0) (hc1_0 : l1_0.length ≤ c1_0) (hT : r = true) (h : jg.f k l0_0 l1_0 a2 = some r) :
  Calls Try.prog 4 #[.agg #[.slice A0_0 l0_0.length c0_0], .agg #[.slice A1_0 l1_0.length c1_0], .int .i64 a2] w fun e w'=>e=.returned (.bool r)∧Below w.heap.size w w':=by
 have hu24:=Try.underlying24
 have hu27:=Try.underlying27
 have hu37:=Try.underlying37
 have hu32:=Try.underlying32
 have HR0_0:=am hr0_0
 have HC0_0:=am hc0_0
 clear hr0_0 hc0_0
 have HR1_0:=am hr1_0
 have HC1_0:=am hc1_0
 clear hr1_0 hc1_0
 have HB:=am (Below.refl w.heap.size w)
 have H:((jbb.f k l0_0 1048576).bind fun t738=>(if t738<0 then (some true) else ((jcb.f l1_0 t738).bind fun t739=>(if t739<0 then (some true) else ((jW.f k l0_0).bind fun t740=>((jM.f k l1_0).bind fun t743=>((jMa.f k t740 t743 a2).bind fun t746=>((jW.f k l0_0).bind fun t749=>((jM.f k l1_0).bind fun t753=>((jna.f k t749 t753 a2).bind fun t757=>((jD.f k t757 t746).bind fun t760=>(if t760=true then ((jW.f k l0_0).bind fun t761=>((jBa.f k t749 t761).bind fun t764=>(if t764=true then ((jM.f k l1_0).bind fun t765=>((jua.f k t753 t765).bind fun t768=>(if t768=true then ((jfa.f k t749 1).bind fun bt769=>((jba.f k t753 bt769.1).bind fun bt771=>(if bt771.1<0 then (jg.j0 k a2 t746 t757 true l0_0 l1_0) else ((jD.f k t757 t746).bind fun t773=>(jg.j0 k a2 t746 t757 (!t773) l0_0 l1_0))))) else (some false)))) else (some false)))) else (some false)))))))))))))=some r:=h
 clear h
 replace H:=bzS H
 obtain ⟨t738,A40,H⟩:=H
 replace H:(if t738<0 then (some true) else ((jcb.f l1_0 t738).bind fun t739=>(if t739<0 then (some true) else ((jW.f k l0_0).bind fun t740=>((jM.f k l1_0).bind fun t743=>((jMa.f k t740 t743 a2).bind fun t746=>((jW.f k l0_0).bind fun t749=>((jM.f k l1_0).bind fun t753=>((jna.f k t749 t753 a2).bind fun t757=>((jD.f k t757 t746).bind fun t760=>(if t760=true then ((jW.f k l0_0).bind fun t761=>((jBa.f k t749 t761).bind fun t764=>(if t764=true then ((jM.f k l1_0).bind fun t765=>((jua.f k t753 t765).bind fun t768=>(if t768=true then ((jfa.f k t749 1).bind fun bt769=>((jba.f k t753 bt769.1).bind fun bt771=>(if bt771.1<0 then (jg.j0 k a2 t746 t757 true l0_0 l1_0) else ((jD.f k t757 t746).bind fun t773=>(jg.j0 k a2 t746 t757 (!t773) l0_0 l1_0))))) else (some false)))) else (some false)))) else (some false))))))))))))=some r:=H
 have A4:=am A40
 clear A40
 by_cases c5:t738<0
 ·rw [if_pos c5] at H
  have c5b0:decide (t738<0)=true:=dzT c5
  clear c5
  obtain rfl:=Option.some.inj H
  go_enter Try.func4,Try.ntmps4
  go_wp2_with (first |((with_reducible refine jv (N:=3) rfl ?_);refine bE (N:=3) (cs:=#[.slice A0_0 l0_0.length c0_0]) (t:=24) ?_;intro gb736 hg w6 hbox hb;have BK736:=am (hbox);have GW736:=am ((Y0:w.heap.size≤gb736));have GE736:=am ((Y0:w.heap.size≤gb736));replace HB:=am (jd (bq) hb);clear hb hbox hg) |((with_reducible refine jv (N:=4) rfl ?_);refine bE (N:=4) (cs:=#[.slice A1_0 l1_0.length c1_0]) (t:=27) ?_;intro gb737 hg w7 hbox hb;have BK737:=am (hbox);have GW737:=am ((Y32:w.heap.size≤gb737));have GE737:=am ((Y32:w.heap.size≤gb737));have NB736_737:=am ((Y34:gb736≠gb737));have NB737_736:=am ((Y35:gb737≠gb736));replace BK736:=am (jb (g:=gb736) (o:=.cells #[.slice A0_0 l0_0.length c0_0] 24 (0,0)) (kq BK736.out) hb);replace HB:=am (jd (Y63) hb);clear hb hbox hg;have hnb8:=NB736_737.out;have hnc8:=NB737_736.out;have hcz9_0:=bc0 BK736.out;have hfz9_0:=ja BK736.out 0) |((with_reducible refine jw (f:=9) rfl ?_);refine gL (some 18) Try.func9 #[.agg #[.slice A0_0 l0_0.length c0_0], .int .i64 1048576] ?_;(with_reducible refine (jbb.calls k _ _ l0_0 1048576 t738 _ ?side1 ?side2 A4.out).mono ?_);(case side1=>exact cq (Kd.jI HR0_0.out HB.out));(case side2=>exact HC0_0.out);rintro e w10 ⟨rfl,hb⟩;refine ⟨_,rfl,?_⟩;replace BK736:=am (jb (g:=gb736) (o:=.cells #[.slice A0_0 l0_0.length c0_0] 24 (0,0)) (kq BK736.out) hb);replace BK737:=am (jb (g:=gb737) (o:=.cells #[.slice A1_0 l1_0.length c1_0] 27 (0,0)) (kq BK737.out) hb);replace HB:=am (jd (Y9) hb);(try clear hb);(try clear hb2);(try clear hk);(try clear hi)))
  go_ret
  exact ⟨Y1,Y9⟩
 ·rw [if_neg c5] at H
  have c5b0:decide (t738<0)=false:=dzF c5
  clear c5
  replace H:=bzS H
  obtain ⟨t739,A110,H⟩:=H
  replace H:(if t739<0 then (some true) else ((jW.f k l0_0).bind fun t740=>((jM.f k l1_0).bind fun t743=>((jMa.f k t740 t743 a2).bind fun t746=>((jW.f k l0_0).bind fun t749=>((jM.f k l1_0).bind fun t753=>((jna.f k t749 t753 a2).bind fun t757=>((jD.f k t757 t746).bind fun t760=>(if t760=true then ((jW.f k l0_0).bind fun t761=>((jBa.f k t749 t761).bind fun t764=>(if t764=true then ((jM.f k l1_0).bind fun t765=>((jua.f k t753 t765).bind fun t768=>(if t768=true then ((jfa.f k t749 1).bind fun bt769=>((jba.f k t753 bt769.1).bind fun bt771=>(if bt771.1<0 then (jg.j0 k a2 t746 t757 true l0_0 l1_0) else ((jD.f k t757 t746).bind fun t773=>(jg.j0 k a2 t746 t757 (!t773) l0_0 l1_0))))) else (some false)))) else (some false)))) else (some false))))))))))=some r:=H
  have A11:=am A110
  clear A110
  by_cases c12:t739<0
  ·rw [if_pos c12] at H
   have c12b0:decide (t739<0)=true:=dzT c12
   clear c12
   obtain rfl:=Option.some.inj H
   go_enter Try.func4,Try.ntmps4
   go_wp2_with (first |((with_reducible refine jv (N:=3) rfl ?_);refine bE (N:=3) (cs:=#[.slice A0_0 l0_0.length c0_0]) (t:=24) ?_;intro gb736 hg w13 hbox hb;have BK736:=am (hbox);have GW736:=am ((Y0:w.heap.size≤gb736));have GE736:=am ((Y0:w.heap.size≤gb736));replace HB:=am (jd (bq) hb);clear hb hbox hg) |((with_reducible refine jv (N:=4) rfl ?_);refine bE (N:=4) (cs:=#[.slice A1_0 l1_0.length c1_0]) (t:=27) ?_;intro gb737 hg w14 hbox hb;have BK737:=am (hbox);have GW737:=am ((Y32:w.heap.size≤gb737));have GE737:=am ((Y32:w.heap.size≤gb737));have NB736_737:=am ((Y34:gb736≠gb737));have NB737_736:=am ((Y35:gb737≠gb736));replace BK736:=am (jb (g:=gb736) (o:=.cells #[.slice A0_0 l0_0.length c0_0] 24 (0,0)) (kq BK736.out) hb);replace HB:=am (jd (Y63) hb);clear hb hbox hg;have hnb15:=NB736_737.out;have hnc15:=NB737_736.out;have hcz16_0:=bc0 BK736.out;have hfz16_0:=ja BK736.out 0) |((with_reducible refine jw (f:=9) rfl ?_);refine gL (some 18) Try.func9 #[.agg #[.slice A0_0 l0_0.length c0_0], .int .i64 1048576] ?_;(with_reducible refine (jbb.calls k _ _ l0_0 1048576 t738 _ ?side1 ?side2 A4.out).mono ?_);(case side1=>exact cq (Kd.jI HR0_0.out HB.out));(case side2=>exact HC0_0.out);rintro e w17 ⟨rfl,hb⟩;refine ⟨_,rfl,?_⟩;replace BK736:=am (jb (g:=gb736) (o:=.cells #[.slice A0_0 l0_0.length c0_0] 24 (0,0)) (kq BK736.out) hb);replace BK737:=am (jb (g:=gb737) (o:=.cells #[.slice A1_0 l1_0.length c1_0] 27 (0,0)) (kq BK737.out) hb);replace HB:=am (jd (Y9) hb);(try clear hb);(try clear hb2);(try clear hk);(try clear hi);have hcz18_0:=bc0 BK737.out;have hfz18_0:=ja BK737.out 0) |((with_reducible refine jw (f:=10) rfl ?_);refine gL (some 23) Try.func10 #[.agg #[.slice A1_0 l1_0.length c1_0], .int .i64 t738] ?_;(with_reducible refine (jcb.calls _ _ l1_0 t738 t739 _ ?side1 ?side2 A11.out).mono ?_);(case side1=>exact cq (Kd.jI HR1_0.out HB.out));(case side2=>exact HC1_0.out);rintro e w19 ⟨rfl,hb⟩;refine ⟨_,rfl,?_⟩;replace BK736:=am (jb (g:=gb736) (o:=.cells #[.slice A0_0 l0_0.length c0_0] 24 (0,0)) (kq BK736.out) hb);replace BK737:=am (jb (g:=gb737) (o:=.cells #[.slice A1_0 l1_0.length c1_0] 27 (0,0)) (kq BK737.out) hb);replace HB:=am (jd (Y9) hb);(try clear hb);(try clear hb2);(try clear hk);(try clear hi)))
   go_ret
   exact ⟨Y1,Y9⟩
  ·rw [if_neg c12] at H
   have c12b0:decide (t739<0)=false:=dzF c12
   clear c12
   replace H:=bzS H
   obtain ⟨t740,A200,H⟩:=H
   replace H:((jM.f k l1_0).bind fun t743=>((jMa.f k t740 t743 a2).bind fun t746=>((jW.f k l0_0).bind fun t749=>((jM.f k l1_0).bind fun t753=>((jna.f k t749 t753 a2).bind fun t757=>((jD.f k t757 t746).bind fun t760=>(if t760=true then ((jW.f k l0_0).bind fun t761=>((jBa.f k t749 t761).bind fun t764=>(if t764=true then ((jM.f k l1_0).bind fun t765=>((jua.f k t753 t765).bind fun t768=>(if t768=true then ((jfa.f k t749 1).bind fun bt769=>((jba.f k t753 bt769.1).bind fun bt771=>(if bt771.1<0 then (jg.j0 k a2 t746 t757 true l0_0 l1_0) else ((jD.f k t757 t746).bind fun t773=>(jg.j0 k a2 t746 t757 (!t773) l0_0 l1_0))))) else (some false)))) else (some false)))) else (some false))))))))=some r:=H
   have A20:=am A200
   clear A200
   replace H:=bzS H
   obtain ⟨t743,A210,H⟩:=H
   replace H:((jMa.f k t740 t743 a2).bind fun t746=>((jW.f k l0_0).bind fun t749=>((jM.f k l1_0).bind fun t753=>((jna.f k t749 t753 a2).bind fun t757=>((jD.f k t757 t746).bind fun t760=>(if t760=true then ((jW.f k l0_0).bind fun t761=>((jBa.f k t749 t761).bind fun t764=>(if t764=true then ((jM.f k l1_0).bind fun t765=>((jua.f k t753 t765).bind fun t768=>(if t768=true then ((jfa.f k t749 1).bind fun bt769=>((jba.f k t753 bt769.1).bind fun bt771=>(if bt771.1<0 then (jg.j0 k a2 t746 t757 true l0_0 l1_0) else ((jD.f k t757 t746).bind fun t773=>(jg.j0 k a2 t746 t757 (!t773) l0_0 l1_0))))) else (some false)))) else (some false)))) else (some false)))))))=some r:=H
   have A21:=am A210
   clear A210
   replace H:=bzS H
   obtain ⟨t746,A220,H⟩:=H
   replace H:((jW.f k l0_0).bind fun t749=>((jM.f k l1_0).bind fun t753=>((jna.f k t749 t753 a2).bind fun t757=>((jD.f k t757 t746).bind fun t760=>(if t760=true then ((jW.f k l0_0).bind fun t761=>((jBa.f k t749 t761).bind fun t764=>(if t764=true then ((jM.f k l1_0).bind fun t765=>((jua.f k t753 t765).bind fun t768=>(if t768=true then ((jfa.f k t749 1).bind fun bt769=>((jba.f k t753 bt769.1).bind fun bt771=>(if bt771.1<0 then (jg.j0 k a2 t746 t757 true l0_0 l1_0) else ((jD.f k t757 t746).bind fun t773=>(jg.j0 k a2 t746 t757 (!t773) l0_0 l1_0))))) else (some false)))) else (some false)))) else (some false))))))=some r:=H
   have A22:=am A220
   clear A220
   replace H:=bzS H
   obtain ⟨t749,A230,H⟩:=H
   replace H:((jM.f k l1_0).bind fun t753=>((jna.f k t749 t753 a2).bind fun t757=>((jD.f k t757 t746).bind fun t760=>(if t760=true then ((jW.f k l0_0).bind fun t761=>((jBa.f k t749 t761).bind fun t764=>(if t764=true then ((jM.f k l1_0).bind fun t765=>((jua.f k t753 t765).bind fun t768=>(if t768=true then ((jfa.f k t749 1).bind fun bt769=>((jba.f k t753 bt769.1).bind fun bt771=>(if bt771.1<0 then (jg.j0 k a2 t746 t757 true l0_0 l1_0) else ((jD.f k t757 t746).bind fun t773=>(jg.j0 k a2 t746 t757 (!t773) l0_0 l1_0))))) else (some false)))) else (some false)))) else (some false)))))=some r:=H
   have A23:=am A230
   clear A230
   replace H:=bzS H
   obtain ⟨t753,A240,H⟩:=H
   replace H:((jna.f k t749 t753 a2).bind fun t757=>((jD.f k t757 t746).bind fun t760=>(if t760=true then ((jW.f k l0_0).bind fun t761=>((jBa.f k t749 t761).bind fun t764=>(if t764=true then ((jM.f k l1_0).bind fun t765=>((jua.f k t753 t765).bind fun t768=>(if t768=true then ((jfa.f k t749 1).bind fun bt769=>((jba.f k t753 bt769.1).bind fun bt771=>(if bt771.1<0 then (jg.j0 k a2 t746 t757 true l0_0 l1_0) else ((jD.f k t757 t746).bind fun t773=>(jg.j0 k a2 t746 t757 (!t773) l0_0 l1_0))))) else (some false)))) else (some false)))) else (some false))))=some r:=H
   have A24:=am A240
   clear A240
   replace H:=bzS H
   obtain ⟨t757,A250,H⟩:=H
   replace H:((jD.f k t757 t746).bind fun t760=>(if t760=true then ((jW.f k l0_0).bind fun t761=>((jBa.f k t749 t761).bind fun t764=>(if t764=true then ((jM.f k l1_0).bind fun t765=>((jua.f k t753 t765).bind fun t768=>(if t768=true then ((jfa.f k t749 1).bind fun bt769=>((jba.f k t753 bt769.1).bind fun bt771=>(if bt771.1<0 then (jg.j0 k a2 t746 t757 true l0_0 l1_0) else ((jD.f k t757 t746).bind fun t773=>(jg.j0 k a2 t746 t757 (!t773) l0_0 l1_0))))) else (some false)))) else (some false)))) else (some false)))=some r:=H
   have A25:=am A250
   clear A250
   replace H:=bzS H
   obtain ⟨t760,A260,H⟩:=H
   replace H:(if t760=true then ((jW.f k l0_0).bind fun t761=>((jBa.f k t749 t761).bind fun t764=>(if t764=true then ((jM.f k l1_0).bind fun t765=>((jua.f k t753 t765).bind fun t768=>(if t768=true then ((jfa.f k t749 1).bind fun bt769=>((jba.f k t753 bt769.1).bind fun bt771=>(if bt771.1<0 then (jg.j0 k a2 t746 t757 true l0_0 l1_0) else ((jD.f k t757 t746).bind fun t773=>(jg.j0 k a2 t746 t757 (!t773) l0_0 l1_0))))) else (some false)))) else (some false)))) else (some false))=some r:=H
   have A26:=am A260
   clear A260
   by_cases c27:t760=true
   ·subst c27
    have H1:((jW.f k l0_0).bind fun t761=>((jBa.f k t749 t761).bind fun t764=>(if t764=true then ((jM.f k l1_0).bind fun t765=>((jua.f k t753 t765).bind fun t768=>(if t768=true then ((jfa.f k t749 1).bind fun bt769=>((jba.f k t753 bt769.1).bind fun bt771=>(if bt771.1<0 then (jg.j0 k a2 t746 t757 true l0_0 l1_0) else ((jD.f k t757 t746).bind fun t773=>(jg.j0 k a2 t746 t757 (!t773) l0_0 l1_0))))) else (some false)))) else (some false))))=some r:=by rw [if_pos rfl] at H;exact H
    clear H
    have H:=H1
    clear H1
    replace H:=bzS H
    obtain ⟨t761,A280,H⟩:=H
    replace H:((jBa.f k t749 t761).bind fun t764=>(if t764=true then ((jM.f k l1_0).bind fun t765=>((jua.f k t753 t765).bind fun t768=>(if t768=true then ((jfa.f k t749 1).bind fun bt769=>((jba.f k t753 bt769.1).bind fun bt771=>(if bt771.1<0 then (jg.j0 k a2 t746 t757 true l0_0 l1_0) else ((jD.f k t757 t746).bind fun t773=>(jg.j0 k a2 t746 t757 (!t773) l0_0 l1_0))))) else (some false)))) else (some false)))=some r:=H
    have A28:=am A280
    clear A280
    replace H:=bzS H
    obtain ⟨t764,A290,H⟩:=H
    replace H:(if t764=true then ((jM.f k l1_0).bind fun t765=>((jua.f k t753 t765).bind fun t768=>(if t768=true then ((jfa.f k t749 1).bind fun bt769=>((jba.f k t753 bt769.1).bind fun bt771=>(if bt771.1<0 then (jg.j0 k a2 t746 t757 true l0_0 l1_0) else ((jD.f k t757 t746).bind fun t773=>(jg.j0 k a2 t746 t757 (!t773) l0_0 l1_0))))) else (some false)))) else (some false))=some r:=H
    have A29:=am A290
    clear A290
    by_cases c30:t764=true
    ·subst c30
     have H1:((jM.f k l1_0).bind fun t765=>((jua.f k t753 t765).bind fun t768=>(if t768=true then ((jfa.f k t749 1).bind fun bt769=>((jba.f k t753 bt769.1).bind fun bt771=>(if bt771.1<0 then (jg.j0 k a2 t746 t757 true l0_0 l1_0) else ((jD.f k t757 t746).bind fun t773=>(jg.j0 k a2 t746 t757 (!t773) l0_0 l1_0))))) else (some false))))=some r:=by rw [if_pos rfl] at H;exact H
     clear H
     have H:=H1
     clear H1
     replace H:=bzS H
     obtain ⟨t765,A310,H⟩:=H
     replace H:((jua.f k t753 t765).bind fun t768=>(if t768=true then ((jfa.f k t749 1).bind fun bt769=>((jba.f k t753 bt769.1).bind fun bt771=>(if bt771.1<0 then (jg.j0 k a2 t746 t757 true l0_0 l1_0) else ((jD.f k t757 t746).bind fun t773=>(jg.j0 k a2 t746 t757 (!t773) l0_0 l1_0))))) else (some false)))=some r:=H
     have A31:=am A310
     clear A310
     replace H:=bzS H
     obtain ⟨t768,A320,H⟩:=H
     replace H:(if t768=true then ((jfa.f k t749 1).bind fun bt769=>((jba.f k t753 bt769.1).bind fun bt771=>(if bt771.1<0 then (jg.j0 k a2 t746 t757 true l0_0 l1_0) else ((jD.f k t757 t746).bind fun t773=>(jg.j0 k a2 t746 t757 (!t773) l0_0 l1_0))))) else (some false))=some r:=H
     have A32:=am A320
     clear A320
     by_cases c33:t768=true
     ·subst c33
      have H1:((jfa.f k t749 1).bind fun bt769=>((jba.f k t753 bt769.1).bind fun bt771=>(if bt771.1<0 then (jg.j0 k a2 t746 t757 true l0_0 l1_0) else ((jD.f k t757 t746).bind fun t773=>(jg.j0 k a2 t746 t757 (!t773) l0_0 l1_0)))))=some r:=by rw [if_pos rfl] at H;exact H
      clear H
      have H:=H1
      clear H1
      replace H:=bzS H
      obtain ⟨⟨t769,t770⟩,A340,H⟩:=H
      replace H:((jba.f k t753 t769).bind fun bt771=>(if bt771.1<0 then (jg.j0 k a2 t746 t757 true l0_0 l1_0) else ((jD.f k t757 t746).bind fun t773=>(jg.j0 k a2 t746 t757 (!t773) l0_0 l1_0))))=some r:=H
      have A34:=am A340
      clear A340
      replace H:=bzS H
      obtain ⟨⟨t771,t772⟩,A350,H⟩:=H
      replace H:(if t771<0 then (jg.j0 k a2 t746 t757 true l0_0 l1_0) else ((jD.f k t757 t746).bind fun t773=>(jg.j0 k a2 t746 t757 (!t773) l0_0 l1_0)))=some r:=H
      have A35:=am A350
      clear A350
      have HC36:=am H
      clear H
      go_enter Try.func4,Try.ntmps4
      try go_wp2_with (first |((with_reducible refine jv (N:=3) rfl ?_);refine bE (N:=3) (cs:=#[.slice A0_0 l0_0.length c0_0]) (t:=24) ?_;intro gb736 hg w37 hbox hb;have BK736:=am (hbox);have GW736:=am ((Y0:w.heap.size≤gb736));have GE736:=am ((Y0:w.heap.size≤gb736));replace HB:=am (jd (bq) hb);clear hb hbox hg) |((with_reducible refine jv (N:=4) rfl ?_);refine bE (N:=4) (cs:=#[.slice A1_0 l1_0.length c1_0]) (t:=27) ?_;intro gb737 hg w38 hbox hb;have BK737:=am (hbox);have GW737:=am ((Y32:w.heap.size≤gb737));have GE737:=am ((Y32:w.heap.size≤gb737));have NB736_737:=am ((Y34:gb736≠gb737));have NB737_736:=am ((Y35:gb737≠gb736));replace BK736:=am (jb (g:=gb736) (o:=.cells #[.slice A0_0 l0_0.length c0_0] 24 (0,0)) (kq BK736.out) hb);replace HB:=am (jd (Y63) hb);clear hb hbox hg;have hnb39:=NB736_737.out;have hnc39:=NB737_736.out;have hcz40_0:=bc0 BK736.out;have hfz40_0:=ja BK736.out 0) |((with_reducible refine jw (f:=9) rfl ?_);refine gL (some 18) Try.func9 #[.agg #[.slice A0_0 l0_0.length c0_0], .int .i64 1048576] ?_;(with_reducible refine (jbb.calls k _ _ l0_0 1048576 t738 _ ?side1 ?side2 A4.out).mono ?_);(case side1=>exact cq (Kd.jI HR0_0.out HB.out));(case side2=>exact HC0_0.out);rintro e w41 ⟨rfl,hb⟩;refine ⟨_,rfl,?_⟩;replace BK736:=am (jb (g:=gb736) (o:=.cells #[.slice A0_0 l0_0.length c0_0] 24 (0,0)) (kq BK736.out) hb);replace BK737:=am (jb (g:=gb737) (o:=.cells #[.slice A1_0 l1_0.length c1_0] 27 (0,0)) (kq BK737.out) hb);replace HB:=am (jd (Y9) hb);(try clear hb);(try clear hb2);(try clear hk);(try clear hi);have hcz42_0:=bc0 BK737.out;have hfz42_0:=ja BK737.out 0) |((with_reducible refine jw (f:=10) rfl ?_);refine gL (some 23) Try.func10 #[.agg #[.slice A1_0 l1_0.length c1_0], .int .i64 t738] ?_;(with_reducible refine (jcb.calls _ _ l1_0 t738 t739 _ ?side1 ?side2 A11.out).mono ?_);(case side1=>exact cq (Kd.jI HR1_0.out HB.out));(case side2=>exact HC1_0.out);rintro e w43 ⟨rfl,hb⟩;refine ⟨_,rfl,?_⟩;replace BK736:=am (jb (g:=gb736) (o:=.cells #[.slice A0_0 l0_0.length c0_0] 24 (0,0)) (kq BK736.out) hb);replace BK737:=am (jb (g:=gb737) (o:=.cells #[.slice A1_0 l1_0.length c1_0] 27 (0,0)) (kq BK737.out) hb);replace HB:=am (jd (Y9) hb);(try clear hb);(try clear hb2);(try clear hk);(try clear hi)))
      replace BK736:=am (jC BK736.out)
      replace BK737:=am (jC BK737.out)
      replace HB:=am (jl HB.out)
      refine start_ (n:=7) (S:=fun w'=>w'.cell? ⟨gb736,0,none⟩=some (.slice A0_0 l0_0.length c0_0)∧w'.cell? ⟨gb737,0,none⟩=some (.slice A1_0 l1_0.length c1_0)) (ds:=[]) #[false,false,false,false,false,false,false] (by kernel_rfl) rfl rfl ⟨(jL BK736.out 0).trans rfl,(jL BK737.out 0).trans rfl⟩ (fun hHeld=>?_)
      generalize w43.drew=w44 at BK736 BK737 HB hHeld ⊢
      refine pure_ (i:=4) (N:=some 30) (v:=?_) (a':=?_) #[false,false,false,false,true,false,false] rfl rfl (by kernel_rfl) (fun _ _ _ h=>h) (Or.inl ⟨by rfl,?_⟩) ?_ ?_
      rotate_left
      ·exact sb
      rotate_left
      ·exact sa
      refine jKb (i:=0) (N:=some 26) (v:=?_) (a':=?_) #[true,false,false,false,true,false,false] rfl rfl (by kernel_rfl) (fun _ _ _ h=>h) (Or.inl ⟨by rfl,?_⟩) hHeld ?_ ?_
      rotate_left
      ·rintro w' ⟨s0,s1⟩
       go_simp
       with_reducible rfl
      rotate_left
      ·exact sa
      refine jKb (i:=2) (N:=some 28) (v:=?_) (a':=?_) #[true,false,true,false,true,false,false] rfl rfl (by kernel_rfl) (fun _ _ _ h=>h) (Or.inl ⟨by rfl,?_⟩) hHeld ?_ ?_
      rotate_left
      ·rintro w' ⟨s0,s1⟩
       go_simp
       with_reducible rfl
      rotate_left
      ·exact sa
      refine one_ (i:=1) (N:=some 27) #[true,true,true,false,true,false,false] rfl rfl (by kernel_rfl) (by decide) (fun K hK=>?_)
      refine goes_ Try.func12 (by kernel_rfl) rfl #[.agg #[.slice A0_0 l0_0.length c0_0]] (by rfl) rfl rfl (aq) ?_
      with_reducible refine (jW.calls k _ _ l0_0 t740 _ ?side1 ?side2 A20.out).mono ?_
      (case side1=>exact cq (Kd.jI HR0_0.out HB.out))
      (case side2=>exact HC0_0.out)
      rintro e w45 ⟨v741,rfl,ho0,hb⟩
      refine ⟨_,rfl,?_⟩
      have HO742:=am (Kd.jya ho0 (jE (Y9)))
      replace BK736:=am (jb (g:=gb736) (o:=.cells #[.slice A0_0 l0_0.length c0_0] 24 (0,0)) (kq BK736.out) hb)
      replace BK737:=am (jb (g:=gb737) (o:=.cells #[.slice A1_0 l1_0.length c1_0] 27 (0,0)) (kq BK737.out) hb)
      replace HB:=am (jd (Y9) hb)
      (try clear hb)
      (try clear hb2)
      (try clear hk)
      (try clear hi)
      (try clear ho0)
      refine hK.out _ _ ⟨(jL BK736.out 0).trans rfl,(jL BK737.out 0).trans rfl⟩ (fun hHeld=>?_)
      clear hK K
      refine norm_ (a':=?_) ?_ ?_
      rotate_left
      ·show Act.put _ (some 27) _=_
       simp only [Act.put,List.setIfInBounds_toArray,List.set_cons_zero,List.set_cons_succ,jLb,jOb]
       rfl
      refine one_ (i:=3) (N:=some 29) #[true,true,true,true,true,false,false] rfl rfl (by kernel_rfl) (by decide) (fun K hK=>?_)
      refine goes_ Try.func13 (by kernel_rfl) rfl #[.agg #[.slice A1_0 l1_0.length c1_0]] (by rfl) rfl rfl (aq) ?_
      with_reducible refine (jM.calls k _ _ l1_0 t743 _ ?side1 ?side2 A21.out).mono ?_
      (case side1=>exact cq (Kd.jI HR1_0.out HB.out))
      (case side2=>exact HC1_0.out)
      rintro e w46 ⟨v744,rfl,ho0,hb⟩
      refine ⟨_,rfl,?_⟩
      have HO745:=am (Kd.jya ho0 (jE (Y9)))
      replace HO742:=am (Kd.jU (rq HO742.out) hb)
      replace BK736:=am (jb (g:=gb736) (o:=.cells #[.slice A0_0 l0_0.length c0_0] 24 (0,0)) (kq BK736.out) hb)
      replace BK737:=am (jb (g:=gb737) (o:=.cells #[.slice A1_0 l1_0.length c1_0] 27 (0,0)) (kq BK737.out) hb)
      replace HB:=am (jd (Y9) hb)
      (try clear hb)
      (try clear hb2)
      (try clear hk)
      (try clear hi)
      (try clear ho0)
      obtain ⟨Ao47,co47,eo47⟩:=Kd.jwa HO742.out
      (first | subst eo47 |(injection eo47 with f1_ f2_ f3_;have f4_:=f1_.symm;have f5_:=f3_.symm;clear f1_ f2_ f3_;subst f4_;subst f5_))
      obtain ⟨Ao48,co48,eo48⟩:=Kd.jwa HO745.out
      (first | subst eo48 |(injection eo48 with f1_ f2_ f3_;have f4_:=f1_.symm;have f5_:=f3_.symm;clear f1_ f2_ f3_;subst f4_;subst f5_))
      refine hK.out _ _ ⟨(jL BK736.out 0).trans rfl,(jL BK737.out 0).trans rfl⟩ (fun hHeld=>?_)
      clear hK K
      refine norm_ (a':=?_) ?_ ?_
      rotate_left
      ·show Act.put _ (some 29) _=_
       simp only [Act.put,List.setIfInBounds_toArray,List.set_cons_zero,List.set_cons_succ,jLb,jOb]
       rfl
      refine one_ (i:=5) (N:=some 31) #[true,true,true,true,true,true,false] rfl rfl (by kernel_rfl) (by decide) (fun K hK=>?_)
      refine goes_ Try.func20 (by kernel_rfl) rfl #[.agg #[.slice Ao47 t740.length co47], .agg #[.slice Ao48 t743.length co48], .int .i64 a2] (by rfl) rfl rfl (aq) ?_
      with_reducible refine (jMa.calls k _ _ t740 _ _ t743 a2 t746 _ ?side1 ?side2 ?side3 ?side4 A22.out).mono ?_
      (case side1=>exact cq (Kd.jq HO742.out).2.2)
      (case side2=>exact (Kd.jq HO742.out).2.1)
      (case side3=>exact cq (Kd.jq HO745.out).2.2)
      (case side4=>exact (Kd.jq HO745.out).2.1)
      rintro e w49 ⟨v747,rfl,ho0,hb⟩
      refine ⟨_,rfl,?_⟩
      have HO748:=am (Kd.jya ho0 (jE (Y9)))
      replace HO742:=am (Kd.jU (rq HO742.out) hb)
      replace HO745:=am (Kd.jU (rq HO745.out) hb)
      replace BK736:=am (jb (g:=gb736) (o:=.cells #[.slice A0_0 l0_0.length c0_0] 24 (0,0)) (kq BK736.out) hb)
      replace BK737:=am (jb (g:=gb737) (o:=.cells #[.slice A1_0 l1_0.length c1_0] 27 (0,0)) (kq BK737.out) hb)
      replace HB:=am (jd (Y9) hb)
      (try clear hb)
      (try clear hb2)
      (try clear hk)
      (try clear hi)
      (try clear ho0)
      refine hK.out _ _ ⟨(jL BK736.out 0).trans rfl,(jL BK737.out 0).trans rfl⟩ (fun hHeld=>?_)
      clear hK K
      refine norm_ (a':=?_) ?_ ?_
      rotate_left
      ·show Act.put _ (some 31) _=_
       simp only [Act.put,List.setIfInBounds_toArray,List.set_cons_zero,List.set_cons_succ,jLb,jOb]
       rfl
      refine pure_ (i:=6) (N:=some 8) (v:=?_) (a':=?_) #[true,true,true,true,true,true,true] rfl rfl (by kernel_rfl) (fun _ _ _ h=>h) (Or.inl ⟨by rfl,?_⟩) ?_ ?_
      rotate_left
      ·exact sb
      rotate_left
      ·exact sa
      refine done_ (by kernel_rfl) ?_
      have hcz50_0:=bc0 BK736.out
      have hfz50_0:=ja BK736.out 0
      try go_wp2_with (first |((with_reducible refine jw (f:=12) rfl ?_);refine gL (some 33) Try.func12 #[.agg #[.slice A0_0 l0_0.length c0_0]] ?_;(with_reducible refine (jW.calls k _ _ l0_0 t749 _ ?side1 ?side2 A23.out).mono ?_);(case side1=>exact cq (Kd.jI HR0_0.out HB.out));(case side2=>exact HC0_0.out);rintro e w51 ⟨v750,rfl,ho0,hb⟩;refine ⟨_,rfl,?_⟩;have HO751:=am (Kd.jya (Kd.jac ho0 (Kd.R_lt (rq HO742.out))) (jE (Y9)));replace HO742:=am (Kd.job (rq HO742.out) (Kd.jVb ho0) hb);replace HO745:=am (Kd.jU (rq HO745.out) hb);replace HO748:=am (Kd.jU (rq HO748.out) hb);replace BK736:=am (jb (g:=gb736) (o:=.cells #[.slice A0_0 l0_0.length c0_0] 24 (0,0)) (kq BK736.out) hb);replace BK737:=am (jb (g:=gb737) (o:=.cells #[.slice A1_0 l1_0.length c1_0] 27 (0,0)) (kq BK737.out) hb);replace HB:=am (jd (Y9) hb);(try clear hb);(try clear hb2);(try clear hk);(try clear hi);(try clear ho0)) |((with_reducible refine jv (N:=9) rfl ?_);refine bE (N:=9) (cs:=#[.slice none 0 0]) (t:=37) ?_;intro gb752 hg w52 hbox hb;have BK752:=am (hbox);have GW752:=am ((Y89:w.heap.size≤gb752));have GE752:=am ((Y89:w.heap.size≤gb752));have NB736_752:=am ((Y34:gb736≠gb752));have NB752_736:=am ((Y35:gb752≠gb736));have NB737_752:=am ((by rw [hg];exact Nat.ne_of_lt (jZ (g:=gb737) (o:=.cells #[.slice A1_0 l1_0.length c1_0] 27 (0,0)) (kq BK737.out)):gb737≠gb752));have NB752_737:=am ((by rw [hg];exact Nat.ne_of_gt (jZ (g:=gb737) (o:=.cells #[.slice A1_0 l1_0.length c1_0] 27 (0,0)) (kq BK737.out)):gb752≠gb737));replace HO742:=am (Kd.jU (rq HO742.out) hb);replace HO745:=am (Kd.jU (rq HO745.out) hb);replace HO748:=am (Kd.jU (rq HO748.out) hb);replace HO751:=am (Kd.jU (rq HO751.out) hb);replace BK736:=am (jb (g:=gb736) (o:=.cells #[.slice A0_0 l0_0.length c0_0] 24 (0,0)) (kq BK736.out) hb);replace BK737:=am (jb (g:=gb737) (o:=.cells #[.slice A1_0 l1_0.length c1_0] 27 (0,0)) (kq BK737.out) hb);replace HB:=am (jd (Y9) hb);clear hb hbox hg;obtain ⟨Ao53,co53,eo53⟩:=Kd.jwa HO751.out;subst eo53;have hnb54:=NB752_736.out;have hnc54:=NB736_752.out;have hnb55:=NB752_737.out;have hnc55:=NB737_752.out;have hcz56_0:=bc0 BK752.out;have hfz56_0:=ja BK752.out 0;have hcz57_0:=bc0 BK737.out;have hfz57_0:=ja BK737.out 0) |((with_reducible refine jw (f:=13) rfl ?_);refine gL (some 35) Try.func13 #[.agg #[.slice A1_0 l1_0.length c1_0]] ?_;(with_reducible refine (jM.calls k _ _ l1_0 t753 _ ?side1 ?side2 A24.out).mono ?_);(case side1=>exact Kd.jI HR1_0.out (Y48));(case side2=>exact HC1_0.out);rintro e w58 ⟨v754,rfl,ho0,hb⟩;refine ⟨_,rfl,?_⟩;have HO755:=am (Kd.jya (Kd.jac ho0 (Kd.R_lt (Y90))) (jE (Y48)));replace HO742:=am (Kd.jU (by (with_reducible repeat (first | apply Kd.jNa | apply Kd.jYa | apply Kd.jHa));exact (Kd.jia (Kd.R_far (p:=⟨gb752,0,none⟩) (Kd.jBb HO742.out BK752.out (by decide)) (fun _ hk=>hk.2) (.slice Ao53 t749.length co53)) (fun _ h_=>h_.1))) hb);replace HO745:=am (Kd.job (Y90) (Kd.jVb ho0) hb);replace HO748:=am (Kd.jU (by (with_reducible repeat (first | apply Kd.jNa | apply Kd.jYa | apply Kd.jHa));exact (Kd.jia (Kd.R_far (p:=⟨gb752,0,none⟩) (Kd.jBb HO748.out BK752.out (by decide)) (fun _ hk=>hk.2) (.slice Ao53 t749.length co53)) (fun _ h_=>h_.1))) hb);replace HO751:=am (Kd.jU (by (with_reducible repeat (first | apply Kd.jNa | apply Kd.jYa | apply Kd.jHa));exact (Kd.jia (Kd.R_far (p:=⟨gb752,0,none⟩) (Kd.jBb HO751.out BK752.out (by decide)) (fun _ hk=>hk.2) (.slice Ao53 t749.length co53)) (fun _ h_=>h_.1))) hb);replace BK736:=am (jb (g:=gb736) (o:=.cells #[.slice A0_0 l0_0.length c0_0] 24 (0,0)) (by (with_reducible repeat (first | refine jr ?_ _ | refine jC ?_ | refine jB ?_ _));refine jIa ?_ NB736_752.out _;(with_reducible repeat (first | refine jr ?_ _ | refine jC ?_ | refine jB ?_ _));exact BK736.out) hb);replace BK737:=am (jb (g:=gb737) (o:=.cells #[.slice A1_0 l1_0.length c1_0] 27 (0,0)) (by (with_reducible repeat (first | refine jr ?_ _ | refine jC ?_ | refine jB ?_ _));refine jIa ?_ NB737_752.out _;(with_reducible repeat (first | refine jr ?_ _ | refine jC ?_ | refine jB ?_ _));exact BK737.out) hb);replace BK752:=am (jb (g:=gb752) (o:=.cells #[.slice Ao53 t749.length co53] 37 (0,0)) (by (with_reducible repeat (first | refine jr ?_ _ | refine jC ?_ | refine jB ?_ _));refine jTa (cs:=#[.slice none 0 0]) ?_ 0 _ rfl;(with_reducible repeat (first | refine jr ?_ _ | refine jC ?_ | refine jB ?_ _));exact BK752.out) hb);replace HB:=am (jd (Y48) hb);(try clear hb);(try clear hb2);(try clear hk);(try clear hi);(try clear ho0)) |((with_reducible refine jv (N:=10) rfl ?_);refine bE (N:=10) (cs:=#[.slice none 0 0]) (t:=32) ?_;intro gb756 hg w59 hbox hb;have BK756:=am (hbox);have GW756:=am ((Y91:w.heap.size≤gb756));have GE756:=am ((Y91:w.heap.size≤gb756));have NB736_756:=am ((Y34:gb736≠gb756));have NB756_736:=am ((Y35:gb756≠gb736));have NB737_756:=am ((by rw [hg];exact Nat.ne_of_lt (jZ (g:=gb737) (o:=.cells #[.slice A1_0 l1_0.length c1_0] 27 (0,0)) (kq BK737.out)):gb737≠gb756));have NB756_737:=am ((by rw [hg];exact Nat.ne_of_gt (jZ (g:=gb737) (o:=.cells #[.slice A1_0 l1_0.length c1_0] 27 (0,0)) (kq BK737.out)):gb756≠gb737));have NB752_756:=am ((by rw [hg];exact Nat.ne_of_lt (jZ (g:=gb752) (o:=.cells #[.slice Ao53 t749.length co53] 37 (0,0)) (kq BK752.out)):gb752≠gb756));have NB756_752:=am ((by rw [hg];exact Nat.ne_of_gt (jZ (g:=gb752) (o:=.cells #[.slice Ao53 t749.length co53] 37 (0,0)) (kq BK752.out)):gb756≠gb752));replace HO742:=am (Kd.jU (rq HO742.out) hb);replace HO745:=am (Kd.jU (rq HO745.out) hb);replace HO748:=am (Kd.jU (rq HO748.out) hb);replace HO751:=am (Kd.jU (rq HO751.out) hb);replace HO755:=am (Kd.jU (rq HO755.out) hb);replace BK736:=am (jb (g:=gb736) (o:=.cells #[.slice A0_0 l0_0.length c0_0] 24 (0,0)) (kq BK736.out) hb);replace BK737:=am (jb (g:=gb737) (o:=.cells #[.slice A1_0 l1_0.length c1_0] 27 (0,0)) (kq BK737.out) hb);replace BK752:=am (jb (g:=gb752) (o:=.cells #[.slice Ao53 t749.length co53] 37 (0,0)) (kq BK752.out) hb);replace HB:=am (jd (Y48) hb);clear hb hbox hg;obtain ⟨Ao60,co60,eo60⟩:=Kd.jwa HO755.out;subst eo60;have hnb61:=NB756_736.out;have hnc61:=NB736_756.out;have hnb62:=NB756_737.out;have hnc62:=NB737_756.out;have hnb63:=NB756_752.out;have hnc63:=NB752_756.out;have hcz64_0:=bc0 BK756.out;have hfz64_0:=ja BK756.out 0;have hcz65_0:=bc0 BK752.out;have hfz65_0:=ja BK752.out 0) |((with_reducible refine jw (f:=21) rfl ?_);refine gL (some 39) Try.func21 #[.agg #[.slice Ao53 t749.length co53], .agg #[.slice Ao60 t753.length co60], .int .i64 a2] ?_;(with_reducible refine (jna.calls k _ _ t749 _ _ t753 a2 t757 _ ?side1 ?side2 ?side3 ?side4 A25.out).mono ?_);(case side1=>refine (Kd.jq (e:=94) (base:=w.heap.size) (ok:=fun k_=>(True∧some k_≠(.slice Ao47 t740.length co47:Value).ownBlock)) (n:=t749.length) (c:=co53) ?_).2.2;exact (Y92));(case side2=>exact (Kd.jq HO751.out).2.1);(case side3=>refine (Kd.jq (e:=54) (base:=w.heap.size) (ok:=fun k_=>(True∧some k_≠(.slice Ao48 t743.length co48:Value).ownBlock)) (n:=t753.length) (c:=co60) ?_).2.2;exact (Y93));(case side4=>exact (Kd.jq HO755.out).2.1);rintro e w66 ⟨v758,rfl,ho0,hb⟩;refine ⟨_,rfl,?_⟩;have HO759:=am (Kd.jya (Kd.jac ho0 (Kd.R_lt (Y94))) (jE (Y7)));replace HO742:=am (Kd.jU (by (with_reducible repeat (first | apply Kd.jNa | apply Kd.jYa | apply Kd.jHa));exact (Kd.jia (Kd.R_far (p:=⟨gb756,0,none⟩) (Kd.jBb HO742.out BK756.out (by decide)) (fun _ hk=>hk.2) (.slice Ao60 t753.length co60)) (fun _ h_=>h_.1))) hb);replace HO745:=am (Kd.jU (by (with_reducible repeat (first | apply Kd.jNa | apply Kd.jYa | apply Kd.jHa));exact (Kd.jia (Kd.R_far (p:=⟨gb756,0,none⟩) (Kd.jBb HO745.out BK756.out (by decide)) (fun _ hk=>hk.2) (.slice Ao60 t753.length co60)) (fun _ h_=>h_.1))) hb);replace HO748:=am (Kd.job (Y94) (Kd.jVb ho0) hb);replace HO751:=am (Kd.jU (Y92) hb);replace HO755:=am (Kd.jU (Y93) hb);replace BK736:=am (jb (g:=gb736) (o:=.cells #[.slice A0_0 l0_0.length c0_0] 24 (0,0)) (by (with_reducible repeat (first | refine jr ?_ _ | refine jC ?_ | refine jB ?_ _));refine jIa ?_ NB736_756.out _;(with_reducible repeat (first | refine jr ?_ _ | refine jC ?_ | refine jB ?_ _));exact BK736.out) hb);replace BK737:=am (jb (g:=gb737) (o:=.cells #[.slice A1_0 l1_0.length c1_0] 27 (0,0)) (by (with_reducible repeat (first | refine jr ?_ _ | refine jC ?_ | refine jB ?_ _));refine jIa ?_ NB737_756.out _;(with_reducible repeat (first | refine jr ?_ _ | refine jC ?_ | refine jB ?_ _));exact BK737.out) hb);replace BK752:=am (jb (g:=gb752) (o:=.cells #[.slice Ao53 t749.length co53] 37 (0,0)) (by (with_reducible repeat (first | refine jr ?_ _ | refine jC ?_ | refine jB ?_ _));refine jIa ?_ NB752_756.out _;(with_reducible repeat (first | refine jr ?_ _ | refine jC ?_ | refine jB ?_ _));exact BK752.out) hb);replace BK756:=am (jb (g:=gb756) (o:=.cells #[.slice Ao60 t753.length co60] 32 (0,0)) (by (with_reducible repeat (first | refine jr ?_ _ | refine jC ?_ | refine jB ?_ _));refine jTa (cs:=#[.slice none 0 0]) ?_ 0 _ rfl;(with_reducible repeat (first | refine jr ?_ _ | refine jC ?_ | refine jB ?_ _));exact BK756.out) hb);replace HB:=am (jd (Y7) hb);(try clear hb);(try clear hb2);(try clear hk);(try clear hi);(try clear ho0);obtain ⟨Ao67,co67,eo67⟩:=Kd.jwa HO759.out;subst eo67;obtain ⟨Ao68,co68,eo68⟩:=Kd.jwa HO748.out;subst eo68) |((with_reducible refine jw (f:=22) rfl ?_);refine gL (some 42) Try.func22 #[.slice Ao67 t757.length co67, .slice Ao68 t746.length co68] ?_;(with_reducible refine (jD.calls k _ _ t757 _ _ t746 true _ ?side1 ?side2 ?side3 ?side4 A26.out).mono ?_);(case side1=>exact cq (Kd.jq HO759.out).2.2);(case side2=>exact (Kd.jq HO759.out).2.1);(case side3=>exact cq (Kd.jq HO748.out).2.2);(case side4=>exact (Kd.jq HO748.out).2.1);rintro e w' ⟨rfl,⟨nd,rfl⟩⟩;refine ⟨_,rfl,?_⟩))
      (try (rw [drewN_self w66];generalize hq_:World.drewN w66 _=w66;have n0_:jy (Kd.R k94 94 w66 w.heap.size (fun k_=>(True∧some k_≠(.slice Ao53 t749.length co53:Value).ownBlock)) (.slice Ao47 t740.length co47) t740):=⟨by rw [← hq_];exact (rq HO742.out)⟩;have n1_:jy (Kd.R k54 54 w66 w.heap.size (fun k_=>(True∧some k_≠(.slice Ao60 t753.length co60:Value).ownBlock)) (.slice Ao48 t743.length co48) t743):=⟨by rw [← hq_];exact (rq HO745.out)⟩;have n2_:jy (Kd.R (Kd.int .i64) 3 w66 w.heap.size (fun k_=>(True∧some k_≠(.slice Ao67 t757.length co67:Value).ownBlock)) (.slice Ao68 t746.length co68) t746):=⟨by rw [← hq_];exact (rq HO748.out)⟩;have n3_:jy (Kd.R k94 94 w66 w.heap.size (fun k_=>(True∧some k_≠(.slice Ao47 t740.length co47:Value).ownBlock)) (.slice Ao53 t749.length co53) t749):=⟨by rw [← hq_];exact (rq HO751.out)⟩;have n4_:jy (Kd.R k54 54 w66 w.heap.size (fun k_=>(True∧some k_≠(.slice Ao48 t743.length co48:Value).ownBlock)) (.slice Ao60 t753.length co60) t753):=⟨by rw [← hq_];exact (rq HO755.out)⟩;have n5_:jy (Kd.R (Kd.int .i64) 3 w66 w.heap.size (fun k_=>(True∧some k_≠(.slice Ao68 t746.length co68:Value).ownBlock)) (.slice Ao67 t757.length co67) t757):=⟨by rw [← hq_];exact (rq HO759.out)⟩;have n6_:jy (w66.heap[gb736]?=some (.cells #[.slice A0_0 l0_0.length c0_0] 24 (0,0))):=⟨by rw [← hq_];exact (kq BK736.out)⟩;have n7_:jy (w66.heap[gb737]?=some (.cells #[.slice A1_0 l1_0.length c1_0] 27 (0,0))):=⟨by rw [← hq_];exact (kq BK737.out)⟩;have n8_:jy (w66.heap[gb752]?=some (.cells #[.slice Ao53 t749.length co53] 37 (0,0))):=⟨by rw [← hq_];exact (kq BK752.out)⟩;have n9_:jy (w66.heap[gb756]?=some (.cells #[.slice Ao60 t753.length co60] 32 (0,0))):=⟨by rw [← hq_];exact (kq BK756.out)⟩;have n10_:jy (Below w.heap.size w w66):=⟨by rw [← hq_];exact (Y7)⟩;clear HO742 HO745 HO748 HO751 HO755 HO759 BK736 BK737 BK752 BK756 HB hq_;have HO742:=n0_;have HO745:=n1_;have HO748:=n2_;have HO751:=n3_;have HO755:=n4_;have HO759:=n5_;have BK736:=n6_;have BK737:=n7_;have BK752:=n8_;have BK756:=n9_;have HB:=n10_;clear n0_ n1_ n2_ n3_ n4_ n5_ n6_ n7_ n8_ n9_ n10_))
      replace HO742:=am (Kd.jHa HO742.out)
      replace HO745:=am (Kd.jHa HO745.out)
      replace HO748:=am (Kd.jHa HO748.out)
      replace HO751:=am (Kd.jHa HO751.out)
      replace HO755:=am (Kd.jHa HO755.out)
      replace HO759:=am (Kd.jHa HO759.out)
      replace BK736:=am (jC BK736.out)
      replace BK737:=am (jC BK737.out)
      replace BK752:=am (jC BK752.out)
      replace BK756:=am (jC BK756.out)
      replace HB:=am (jl HB.out)
      refine start_ (n:=5) (S:=fun w'=>w'.cell? ⟨gb752,0,none⟩=some (.slice Ao53 t749.length co53)∧w'.cell? ⟨gb736,0,none⟩=some (.slice A0_0 l0_0.length c0_0)) (ds:=[]) #[false,false,false,false,false] (by kernel_rfl) rfl rfl ⟨(jL BK752.out 0).trans rfl,(jL BK736.out 0).trans rfl⟩ (fun hHeld=>?_)
      generalize w66.drew=w69 at HO742 HO745 HO748 HO751 HO755 HO759 BK736 BK737 BK752 BK756 HB hHeld ⊢
      refine jKb (i:=0) (N:=some 44) (v:=?_) (a':=?_) #[true,false,false,false,false] rfl rfl (by kernel_rfl) (fun _ _ _ h=>h) (Or.inl ⟨by rfl,?_⟩) hHeld ?_ ?_
      rotate_left
      ·rintro w' ⟨s0,s1⟩
       go_simp
       with_reducible rfl
      rotate_left
      ·exact sa
      refine jKb (i:=1) (N:=some 45) (v:=?_) (a':=?_) #[true,true,false,false,false] rfl rfl (by kernel_rfl) (fun _ _ _ h=>h) (Or.inl ⟨by rfl,?_⟩) hHeld ?_ ?_
      rotate_left
      ·rintro w' ⟨s0,s1⟩
       go_simp
       with_reducible rfl
      rotate_left
      ·exact sa
      refine one_ (i:=2) (N:=some 46) #[true,true,true,false,false] rfl rfl (by kernel_rfl) (by decide) (fun K hK=>?_)
      refine goes_ Try.func12 (by kernel_rfl) rfl #[.agg #[.slice A0_0 l0_0.length c0_0]] (by rfl) rfl rfl (aq) ?_
      with_reducible refine (jW.calls k _ _ l0_0 t761 _ ?side1 ?side2 A28.out).mono ?_
      (case side1=>exact cq (Kd.jI HR0_0.out HB.out))
      (case side2=>exact HC0_0.out)
      rintro e w70 ⟨v762,rfl,ho0,hb⟩
      refine ⟨_,rfl,?_⟩
      have HO763:=am (Kd.jya (Kd.jac (Kd.jac ho0 (Kd.R_lt (rq HO742.out))) (Kd.R_lt (rq HO751.out))) (jE (Y7)))
      replace HO742:=am (Kd.job (rq HO742.out) (Kd.jVb ho0) hb)
      replace HO745:=am (Kd.jU (rq HO745.out) hb)
      replace HO748:=am (Kd.jU (rq HO748.out) hb)
      replace HO751:=am (Kd.job (rq HO751.out) (Kd.jVb ho0) hb)
      replace HO755:=am (Kd.jU (rq HO755.out) hb)
      replace HO759:=am (Kd.jU (rq HO759.out) hb)
      replace BK736:=am (jb (g:=gb736) (o:=.cells #[.slice A0_0 l0_0.length c0_0] 24 (0,0)) (kq BK736.out) hb)
      replace BK737:=am (jb (g:=gb737) (o:=.cells #[.slice A1_0 l1_0.length c1_0] 27 (0,0)) (kq BK737.out) hb)
      replace BK752:=am (jb (g:=gb752) (o:=.cells #[.slice Ao53 t749.length co53] 37 (0,0)) (kq BK752.out) hb)
      replace BK756:=am (jb (g:=gb756) (o:=.cells #[.slice Ao60 t753.length co60] 32 (0,0)) (kq BK756.out) hb)
      replace HB:=am (jd (Y7) hb)
      (try clear hb)
      (try clear hb2)
      (try clear hk)
      (try clear hi)
      (try clear ho0)
      obtain ⟨Ao71,co71,eo71⟩:=Kd.jwa HO763.out
      (first | subst eo71 |(injection eo71 with f1_ f2_ f3_;have f4_:=f1_.symm;have f5_:=f3_.symm;clear f1_ f2_ f3_;subst f4_;subst f5_))
      refine hK.out _ _ ⟨(jL BK752.out 0).trans rfl,(jL BK736.out 0).trans rfl⟩ (fun hHeld=>?_)
      clear hK K
      refine norm_ (a':=?_) ?_ ?_
      rotate_left
      ·show Act.put _ (some 46) _=_
       simp only [Act.put,List.setIfInBounds_toArray,List.set_cons_zero,List.set_cons_succ,jLb,jOb]
       rfl
      refine one_ (i:=3) (N:=some 47) #[true,true,true,true,false] rfl rfl (by kernel_rfl) (by decide) (fun K hK=>?_)
      refine goes_ Try.func16 (by kernel_rfl) rfl #[.agg #[.slice Ao53 t749.length co53], .agg #[.slice Ao71 t761.length co71]] (by rfl) rfl rfl (aq) ?_
      with_reducible refine (jBa.calls k _ _ t749 _ _ t761 true _ ?side1 ?side2 ?side3 ?side4 A29.out).mono ?_
      (case side1=>exact cq (Kd.jq HO751.out).2.2)
      (case side2=>exact (Kd.jq HO751.out).2.1)
      (case side3=>exact cq (Kd.jq HO763.out).2.2)
      (case side4=>exact (Kd.jq HO763.out).2.1)
      rintro e w72 ⟨rfl,hb⟩
      refine ⟨_,rfl,?_⟩
      replace HO742:=am (Kd.jU (rq HO742.out) hb)
      replace HO745:=am (Kd.jU (rq HO745.out) hb)
      replace HO748:=am (Kd.jU (rq HO748.out) hb)
      replace HO751:=am (Kd.jU (rq HO751.out) hb)
      replace HO755:=am (Kd.jU (rq HO755.out) hb)
      replace HO759:=am (Kd.jU (rq HO759.out) hb)
      replace HO763:=am (Kd.jU (rq HO763.out) hb)
      replace BK736:=am (jb (g:=gb736) (o:=.cells #[.slice A0_0 l0_0.length c0_0] 24 (0,0)) (kq BK736.out) hb)
      replace BK737:=am (jb (g:=gb737) (o:=.cells #[.slice A1_0 l1_0.length c1_0] 27 (0,0)) (kq BK737.out) hb)
      replace BK752:=am (jb (g:=gb752) (o:=.cells #[.slice Ao53 t749.length co53] 37 (0,0)) (kq BK752.out) hb)
      replace BK756:=am (jb (g:=gb756) (o:=.cells #[.slice Ao60 t753.length co60] 32 (0,0)) (kq BK756.out) hb)
      replace HB:=am (jd (Y7) hb)
      (try clear hb)
      (try clear hb2)
      (try clear hk)
      (try clear hi)
      refine hK.out _ _ ⟨(jL BK752.out 0).trans rfl,(jL BK736.out 0).trans rfl⟩ (fun hHeld=>?_)
      clear hK K
      refine norm_ (a':=?_) ?_ ?_
      rotate_left
      ·show Act.put _ (some 47) _=_
       simp only [Act.put,List.setIfInBounds_toArray,List.set_cons_zero,List.set_cons_succ,jLb,jOb]
       rfl
      refine pure_ (i:=4) (N:=some 48) (v:=?_) (a':=?_) #[true,true,true,true,true] rfl rfl (by kernel_rfl) (fun _ _ _ h=>h) (Or.inl ⟨by rfl,?_⟩) ?_ ?_
      rotate_left
      ·exact sb
      rotate_left
      ·exact sa
      refine done_ (by kernel_rfl) ?_
      try go_wp2
      replace HO742:=am (Kd.jHa HO742.out)
      replace HO745:=am (Kd.jHa HO745.out)
      replace HO748:=am (Kd.jHa HO748.out)
      replace HO751:=am (Kd.jHa HO751.out)
      replace HO755:=am (Kd.jHa HO755.out)
      replace HO759:=am (Kd.jHa HO759.out)
      replace HO763:=am (Kd.jHa HO763.out)
      replace BK736:=am (jC BK736.out)
      replace BK737:=am (jC BK737.out)
      replace BK752:=am (jC BK752.out)
      replace BK756:=am (jC BK756.out)
      replace HB:=am (jl HB.out)
      refine start_ (n:=5) (S:=fun w'=>w'.cell? ⟨gb756,0,none⟩=some (.slice Ao60 t753.length co60)∧w'.cell? ⟨gb737,0,none⟩=some (.slice A1_0 l1_0.length c1_0)) (ds:=[]) #[false,false,false,false,false] (by kernel_rfl) rfl rfl ⟨(jL BK756.out 0).trans rfl,(jL BK737.out 0).trans rfl⟩ (fun hHeld=>?_)
      generalize w72.drew=w73 at HO742 HO745 HO748 HO751 HO755 HO759 HO763 BK736 BK737 BK752 BK756 HB hHeld ⊢
      refine jKb (i:=0) (N:=some 49) (v:=?_) (a':=?_) #[true,false,false,false,false] rfl rfl (by kernel_rfl) (fun _ _ _ h=>h) (Or.inl ⟨by rfl,?_⟩) hHeld ?_ ?_
      rotate_left
      ·rintro w' ⟨s0,s1⟩
       go_simp
       with_reducible rfl
      rotate_left
      ·exact sa
      refine jKb (i:=1) (N:=some 50) (v:=?_) (a':=?_) #[true,true,false,false,false] rfl rfl (by kernel_rfl) (fun _ _ _ h=>h) (Or.inl ⟨by rfl,?_⟩) hHeld ?_ ?_
      rotate_left
      ·rintro w' ⟨s0,s1⟩
       go_simp
       with_reducible rfl
      rotate_left
      ·exact sa
      refine one_ (i:=2) (N:=some 51) #[true,true,true,false,false] rfl rfl (by kernel_rfl) (by decide) (fun K hK=>?_)
      refine goes_ Try.func13 (by kernel_rfl) rfl #[.agg #[.slice A1_0 l1_0.length c1_0]] (by rfl) rfl rfl (aq) ?_
      with_reducible refine (jM.calls k _ _ l1_0 t765 _ ?side1 ?side2 A31.out).mono ?_
      (case side1=>exact cq (Kd.jI HR1_0.out HB.out))
      (case side2=>exact HC1_0.out)
      rintro e w74 ⟨v766,rfl,ho0,hb⟩
      refine ⟨_,rfl,?_⟩
      have HO767:=am (Kd.jya (Kd.jac (Kd.jac ho0 (Kd.R_lt (rq HO745.out))) (Kd.R_lt (rq HO755.out))) (jE (Y7)))
      replace HO742:=am (Kd.jU (rq HO742.out) hb)
      replace HO745:=am (Kd.job (rq HO745.out) (Kd.jVb ho0) hb)
      replace HO748:=am (Kd.jU (rq HO748.out) hb)
      replace HO751:=am (Kd.jU (rq HO751.out) hb)
      replace HO755:=am (Kd.job (rq HO755.out) (Kd.jVb ho0) hb)
      replace HO759:=am (Kd.jU (rq HO759.out) hb)
      replace HO763:=am (Kd.jU (rq HO763.out) hb)
      replace BK736:=am (jb (g:=gb736) (o:=.cells #[.slice A0_0 l0_0.length c0_0] 24 (0,0)) (kq BK736.out) hb)
      replace BK737:=am (jb (g:=gb737) (o:=.cells #[.slice A1_0 l1_0.length c1_0] 27 (0,0)) (kq BK737.out) hb)
      replace BK752:=am (jb (g:=gb752) (o:=.cells #[.slice Ao53 t749.length co53] 37 (0,0)) (kq BK752.out) hb)
      replace BK756:=am (jb (g:=gb756) (o:=.cells #[.slice Ao60 t753.length co60] 32 (0,0)) (kq BK756.out) hb)
      replace HB:=am (jd (Y7) hb)
      (try clear hb)
      (try clear hb2)
      (try clear hk)
      (try clear hi)
      (try clear ho0)
      obtain ⟨Ao75,co75,eo75⟩:=Kd.jwa HO767.out
      (first | subst eo75 |(injection eo75 with f1_ f2_ f3_;have f4_:=f1_.symm;have f5_:=f3_.symm;clear f1_ f2_ f3_;subst f4_;subst f5_))
      refine hK.out _ _ ⟨(jL BK756.out 0).trans rfl,(jL BK737.out 0).trans rfl⟩ (fun hHeld=>?_)
      clear hK K
      refine norm_ (a':=?_) ?_ ?_
      rotate_left
      ·show Act.put _ (some 51) _=_
       simp only [Act.put,List.setIfInBounds_toArray,List.set_cons_zero,List.set_cons_succ,jLb,jOb]
       rfl
      refine one_ (i:=3) (N:=some 52) #[true,true,true,true,false] rfl rfl (by kernel_rfl) (by decide) (fun K hK=>?_)
      refine goes_ Try.func15 (by kernel_rfl) rfl #[.agg #[.slice Ao60 t753.length co60], .agg #[.slice Ao75 t765.length co75]] (by rfl) rfl rfl (aq) ?_
      with_reducible refine (jua.calls k _ _ t753 _ _ t765 true _ ?side1 ?side2 ?side3 ?side4 A32.out).mono ?_
      (case side1=>exact cq (Kd.jq HO755.out).2.2)
      (case side2=>exact (Kd.jq HO755.out).2.1)
      (case side3=>exact cq (Kd.jq HO767.out).2.2)
      (case side4=>exact (Kd.jq HO767.out).2.1)
      rintro e w76 ⟨rfl,hb⟩
      refine ⟨_,rfl,?_⟩
      replace HO742:=am (Kd.jU (rq HO742.out) hb)
      replace HO745:=am (Kd.jU (rq HO745.out) hb)
      replace HO748:=am (Kd.jU (rq HO748.out) hb)
      replace HO751:=am (Kd.jU (rq HO751.out) hb)
      replace HO755:=am (Kd.jU (rq HO755.out) hb)
      replace HO759:=am (Kd.jU (rq HO759.out) hb)
      replace HO763:=am (Kd.jU (rq HO763.out) hb)
      replace HO767:=am (Kd.jU (rq HO767.out) hb)
      replace BK736:=am (jb (g:=gb736) (o:=.cells #[.slice A0_0 l0_0.length c0_0] 24 (0,0)) (kq BK736.out) hb)
      replace BK737:=am (jb (g:=gb737) (o:=.cells #[.slice A1_0 l1_0.length c1_0] 27 (0,0)) (kq BK737.out) hb)
      replace BK752:=am (jb (g:=gb752) (o:=.cells #[.slice Ao53 t749.length co53] 37 (0,0)) (kq BK752.out) hb)
      replace BK756:=am (jb (g:=gb756) (o:=.cells #[.slice Ao60 t753.length co60] 32 (0,0)) (kq BK756.out) hb)
      replace HB:=am (jd (Y7) hb)
      (try clear hb)
      (try clear hb2)
      (try clear hk)
      (try clear hi)
      refine hK.out _ _ ⟨(jL BK756.out 0).trans rfl,(jL BK737.out 0).trans rfl⟩ (fun hHeld=>?_)
      clear hK K
      refine norm_ (a':=?_) ?_ ?_
      rotate_left
      ·show Act.put _ (some 52) _=_
       simp only [Act.put,List.setIfInBounds_toArray,List.set_cons_zero,List.set_cons_succ,jLb,jOb]
       rfl
      refine pure_ (i:=4) (N:=some 53) (v:=?_) (a':=?_) #[true,true,true,true,true] rfl rfl (by kernel_rfl) (fun _ _ _ h=>h) (Or.inl ⟨by rfl,?_⟩) ?_ ?_
      rotate_left
      ·exact sb
      rotate_left
      ·exact sa
      refine done_ (by kernel_rfl) ?_
      have hcz77_0:=bc0 BK752.out
      have hfz77_0:=ja BK752.out 0
      go_upto_region 21 with (first |((with_reducible refine jw (f:=17) rfl ?_);refine gL (some 56) Try.func17 #[.agg #[.slice Ao53 t749.length co53], .int .i64 1] ?_;(with_reducible refine (jfa.calls k (fun k_=>some k_=(.slice Ao53 t749.length co53:Value).ownBlock) (.slice Ao53 t749.length co53) t749 1 t769 t770 w _ ?side1 ?side2 A34.out).mono ?_);(case side1=>exact Y7);(case side2=>exact Kd.jdc rfl HO751.out);rintro e w78 ⟨rfl,hy0,hb,hkp⟩;refine ⟨_,rfl,?_⟩;replace BK736:=am (jPa (kq BK736.out) hkp (fun hs_=>(fun e_=>(Kd.R_ne HO751.out BK736.out (by decide)) e_) hs_));replace BK737:=am (jPa (kq BK737.out) hkp (fun hs_=>(fun e_=>(Kd.R_ne HO751.out BK737.out (by decide)) e_) hs_));replace HO742:=am (Kd.jia (ok':=fun k_=>some k_≠(.slice Ao53 t749.length co53:Value).ownBlock∧some k_≠(.slice Ao71 t761.length co71:Value).ownBlock) (Kd.jkb (HO742.out) hkp (fun k_ hk_ hs_=>(hk_.1.2) hs_)) (fun k_ hk_=>⟨hk_.1.1.2,hk_.1.2⟩));replace HO745:=am (Kd.jia (ok':=fun k_=>some k_≠(.slice Ao60 t753.length co60:Value).ownBlock∧some k_≠(.slice Ao75 t765.length co75:Value).ownBlock) (Kd.jkb ((Kd.jub HO745.out (Kd.jMb HO751.out) (by decide))) hkp (fun k_ hk_ hs_=>(hk_.2) hs_)) (fun k_ hk_=>⟨hk_.1.1.1.2,hk_.1.1.2⟩));replace HO748:=am (Kd.jia (ok':=fun k_=>some k_≠(.slice Ao67 t757.length co67:Value).ownBlock) (Kd.jkb ((Kd.jub HO748.out (Kd.jMb HO751.out) (by decide))) hkp (fun k_ hk_ hs_=>(hk_.2) hs_)) (fun k_ hk_=>hk_.1.1.2));replace BK752:=am (jPa (kq BK752.out) hkp (fun hs_=>(fun e_=>(Kd.R_ne HO751.out BK752.out (by decide)) e_) hs_));replace HO755:=am (Kd.jia (ok':=fun k_=>some k_≠(.slice Ao48 t743.length co48:Value).ownBlock∧some k_≠(.slice Ao75 t765.length co75:Value).ownBlock) (Kd.jkb ((Kd.jub HO755.out (Kd.jMb HO751.out) (by decide))) hkp (fun k_ hk_ hs_=>(hk_.2) hs_)) (fun k_ hk_=>⟨hk_.1.1.1.2,hk_.1.1.2⟩));replace BK756:=am (jPa (kq BK756.out) hkp (fun hs_=>(fun e_=>(Kd.R_ne HO751.out BK756.out (by decide)) e_) hs_));replace HO759:=am (Kd.jia (ok':=fun k_=>some k_≠(.slice Ao68 t746.length co68:Value).ownBlock) (Kd.jkb ((Kd.jub HO759.out (Kd.jMb HO751.out) (by decide))) hkp (fun k_ hk_ hs_=>(hk_.2) hs_)) (fun k_ hk_=>hk_.1.1.2));replace HO763:=am (Kd.jia (ok':=fun k_=>some k_≠(.slice Ao47 t740.length co47:Value).ownBlock∧some k_≠(.slice Ao53 t749.length co53:Value).ownBlock) (Kd.jkb (HO763.out) hkp (fun k_ hk_ hs_=>(hk_.2) hs_)) (fun k_ hk_=>⟨hk_.1.1.2,hk_.1.2⟩));replace HO767:=am (Kd.jia (ok':=fun k_=>some k_≠(.slice Ao48 t743.length co48:Value).ownBlock∧some k_≠(.slice Ao60 t753.length co60:Value).ownBlock) (Kd.jkb ((Kd.jub HO767.out (Kd.jMb HO751.out) (by decide))) hkp (fun k_ hk_ hs_=>(hk_.2) hs_)) (fun k_ hk_=>⟨hk_.1.1.1.2,hk_.1.1.2⟩));replace HO751:=am (Kd.R_reok rfl hy0 (fun k_ e_=>HO751.out.1 k_ e_));replace HB:=am (hb);(try clear hb);(try clear hkp);(try clear hy0);have hcz79_0:=bc0 BK756.out;have hfz79_0:=ja BK756.out 0) |((with_reducible refine jw (f:=18) rfl ?_);refine gL (some 59) Try.func18 #[.agg #[.slice Ao60 t753.length co60], .int .i64 t769] ?_;(with_reducible refine (jba.calls k (fun k_=>some k_=(.slice Ao60 t753.length co60:Value).ownBlock) (.slice Ao60 t753.length co60) t753 t769 t771 t772 w _ ?side1 ?side2 A35.out).mono ?_);(case side1=>exact Y7);(case side2=>exact Kd.jdc rfl HO755.out);rintro e w80 ⟨rfl,hy0,hb,hkp⟩;refine ⟨_,rfl,?_⟩;replace BK736:=am (jPa (kq BK736.out) hkp (fun hs_=>(fun e_=>(Kd.R_ne HO755.out BK736.out (by decide)) e_) hs_));replace BK737:=am (jPa (kq BK737.out) hkp (fun hs_=>(fun e_=>(Kd.R_ne HO755.out BK737.out (by decide)) e_) hs_));replace HO742:=am (Kd.jia (ok':=fun k_=>some k_≠(.slice Ao53 t749.length co53:Value).ownBlock∧some k_≠(.slice Ao71 t761.length co71:Value).ownBlock) (Kd.jkb ((Kd.jub HO742.out (Kd.jMb HO755.out) (by decide))) hkp (fun k_ hk_ hs_=>(hk_.2) hs_)) (fun k_ hk_=>⟨hk_.1.1.1,hk_.1.1.2⟩));replace HO745:=am (Kd.jia (ok':=fun k_=>some k_≠(.slice Ao60 t753.length co60:Value).ownBlock∧some k_≠(.slice Ao75 t765.length co75:Value).ownBlock) (Kd.jkb (HO745.out) hkp (fun k_ hk_ hs_=>(hk_.1) hs_)) (fun k_ hk_=>⟨hk_.1.1,hk_.1.2⟩));replace HO748:=am (Kd.jia (ok':=fun k_=>some k_≠(.slice Ao67 t757.length co67:Value).ownBlock) (Kd.jkb ((Kd.jub HO748.out (Kd.jMb HO755.out) (by decide))) hkp (fun k_ hk_ hs_=>(hk_.2) hs_)) (fun k_ hk_=>hk_.1.1));replace HO751:=am (Kd.jia (ok':=fun k_=>some k_≠(.slice Ao47 t740.length co47:Value).ownBlock∧some k_≠(.slice Ao71 t761.length co71:Value).ownBlock) (Kd.jkb ((Kd.jub HO751.out (Kd.jMb HO755.out) (by decide))) hkp (fun k_ hk_ hs_=>(hk_.2) hs_)) (fun k_ hk_=>⟨hk_.1.1.1.2,hk_.1.1.2⟩));replace BK752:=am (jPa (kq BK752.out) hkp (fun hs_=>(fun e_=>(Kd.R_ne HO755.out BK752.out (by decide)) e_) hs_));replace BK756:=am (jPa (kq BK756.out) hkp (fun hs_=>(fun e_=>(Kd.R_ne HO755.out BK756.out (by decide)) e_) hs_));replace HO759:=am (Kd.jia (ok':=fun k_=>some k_≠(.slice Ao68 t746.length co68:Value).ownBlock) (Kd.jkb ((Kd.jub HO759.out (Kd.jMb HO755.out) (by decide))) hkp (fun k_ hk_ hs_=>(hk_.2) hs_)) (fun k_ hk_=>hk_.1.1));replace HO763:=am (Kd.jia (ok':=fun k_=>some k_≠(.slice Ao47 t740.length co47:Value).ownBlock∧some k_≠(.slice Ao53 t749.length co53:Value).ownBlock) (Kd.jkb ((Kd.jub HO763.out (Kd.jMb HO755.out) (by decide))) hkp (fun k_ hk_ hs_=>(hk_.2) hs_)) (fun k_ hk_=>⟨hk_.1.1.1,hk_.1.1.2⟩));replace HO755:=am (Kd.R_reok rfl hy0 (fun k_ e_=>HO755.out.1 k_ e_));replace HO767:=am (Kd.jia (ok':=fun k_=>some k_≠(.slice Ao48 t743.length co48:Value).ownBlock∧some k_≠(.slice Ao60 t753.length co60:Value).ownBlock) (Kd.jkb (HO767.out) hkp (fun k_ hk_ hs_=>(hk_.2) hs_)) (fun k_ hk_=>⟨hk_.1.1,hk_.1.2⟩));replace HB:=am (hb);(try clear hb);(try clear hkp);(try clear hy0)))
      (try simp only [Act.put,List.setIfInBounds_toArray,List.set_cons_zero,List.set_cons_succ])
      go_cut [67] (fun v67 wc=>∃ (kq:Nat) (x67_35:Bool),v67=.bool x67_35∧jy (jg.j0 kq a2 t746 t757 x67_35 l0_0 l1_0=some r)∧jy (kq≤k)∧jy (Kd.R (Kd.int .i64) 3 wc w.heap.size (fun k_=>some k_≠((.slice Ao67 t757.length co67):Value).ownBlock) (.slice Ao68 t746.length co68) t746)∧jy (Kd.R (Kd.int .i64) 3 wc w.heap.size (fun k_=>some k_≠((.slice Ao68 t746.length co68):Value).ownBlock) (.slice Ao67 t757.length co67) t757)∧jy (Kd.R k94 94 wc w.heap.size (fun _=>True) (.slice Ao53 t749.length co53) t770)∧jy (Kd.R k54 54 wc w.heap.size (fun _=>True) (.slice Ao60 t753.length co60) t772)∧jy (wc.heap[gb736]?=some (.cells #[(.slice A0_0 l0_0.length c0_0)] 24 (0,0)))∧jy (wc.heap[gb737]?=some (.cells #[(.slice A1_0 l1_0.length c1_0)] 27 (0,0)))∧jy (wc.heap[gb752]?=some (.cells #[(.slice Ao53 t749.length co53)] 37 (0,0)))∧jy (wc.heap[gb756]?=some (.cells #[(.slice Ao60 t753.length co60)] 32 (0,0)))∧jy (Below w.heap.size w wc))
      case first =>
       have H:=HC36.out
       clear HC36
       by_cases c81:t771<0
       ·rw [if_pos c81] at H
        have c81b0:decide (t771<0)=true:=dzT c81
        clear c81
        (first | rw [c81b0] |(simp only [jLb,jOb];rw [c81b0]) | skip)
        have H':=am H
        clear H
        go_wp2
        go_meet
        case rel=>exact ⟨_,(true),(sq),H',⟨by first | omega | exact Nat.le_refl _⟩,⟨rq HO748.out⟩,⟨rq HO759.out⟩,⟨by (with_reducible repeat (first | apply Kd.jNa | apply Kd.jYa | apply Kd.jHa));exact Kd.jia HO751.out (fun _ hk=>trivial)⟩,⟨by (with_reducible repeat (first | apply Kd.jNa | apply Kd.jYa | apply Kd.jHa));exact Kd.jia HO755.out (fun _ hk=>trivial)⟩,⟨kq BK736.out⟩,⟨kq BK737.out⟩,⟨kq BK752.out⟩,⟨kq BK756.out⟩,⟨Y7⟩⟩
       ·rw [if_neg c81] at H
        have c81b0:decide (t771<0)=false:=dzF c81
        clear c81
        (first | rw [c81b0] |(simp only [jLb,jOb];rw [c81b0]) | skip)
        replace H:=bzS H
        obtain ⟨t773,A820,H⟩:=H
        replace H:(jg.j0 k a2 t746 t757 (!t773) l0_0 l1_0)=some r:=H
        have A82:=am A820
        clear A820
        have H':=am H
        clear H
        go_wp2_with (first |(go_at_call 22;(with_reducible refine (jD.calls k _ _ t757 _ _ t746 t773 _ ?side1 ?side2 ?side3 ?side4 A82.out).mono ?_);(case side1=>exact cq (Kd.jq HO759.out).2.2);(case side2=>exact (Kd.jq HO759.out).2.1);(case side3=>exact cq (Kd.jq HO748.out).2.2);(case side4=>exact (Kd.jq HO748.out).2.1);rintro e w' ⟨rfl,⟨nd,rfl⟩⟩))
        go_meet
        case rel=>exact ⟨_,(!t773),(sq),H',⟨by first | omega | exact Nat.le_refl _⟩,⟨rq HO748.out⟩,⟨rq HO759.out⟩,⟨by (with_reducible repeat (first | apply Kd.jNa | apply Kd.jYa | apply Kd.jHa));exact Kd.jia HO751.out (fun _ hk=>trivial)⟩,⟨by (with_reducible repeat (first | apply Kd.jNa | apply Kd.jYa | apply Kd.jHa));exact Kd.jia HO755.out (fun _ hk=>trivial)⟩,⟨kq BK736.out⟩,⟨kq BK737.out⟩,⟨kq BK752.out⟩,⟨kq BK756.out⟩,⟨Y7⟩⟩
      case rest =>
       clear HC36
       try clear c1
       try clear c2
       try clear p2
       try clear c3
       try clear c4
       try clear c5
       try clear c6
       try clear c8
       try clear c9
       try clear c10
       try clear c12
       try clear c13
       try clear c15
       try clear c16
       try clear c17
       try clear c18
       try clear c20
       try clear c21
       try clear c22
       try clear c30
       try clear c33
       try clear c39
       try clear c54
       try clear c55
       try clear c61
       try clear c62
       try clear c63
       try clear c81
       try clear c81b0
       try clear hcz40_0
       try clear hcz42_0
       try clear hcz50_0
       try clear hcz56_0
       try clear hcz57_0
       try clear hcz64_0
       try clear hcz65_0
       try clear hcz77_0
       try clear hcz79_0
       try clear hfz40_0
       try clear hfz42_0
       try clear hfz50_0
       try clear hfz56_0
       try clear hfz57_0
       try clear hfz64_0
       try clear hfz65_0
       try clear hfz77_0
       try clear hfz79_0
       obtain ⟨kq,x67_35,rfl,HA,HJ35,HO_8,HO_11,HO_753000,HO_757000,BK736,BK737,BK752,BK756,HB⟩:=hcut
       have hl753000_35:=(Kd.jq HO_753000.out).1
       rw [hl753000_35] at HO_753000
       (try simp only [hl753000_35])
       (try simp only [hl753000_35] at BK736)
       (try simp only [hl753000_35] at BK737)
       (try simp only [hl753000_35] at BK752)
       (try simp only [hl753000_35] at BK756)
       (try simp only [hl753000_35] at HO_8)
       (try simp only [hl753000_35] at HO_11)
       (try simp only [hl753000_35] at HO_757000)
       have hl757000_35:=(Kd.jq HO_757000.out).1
       rw [hl757000_35] at HO_757000
       (try simp only [hl757000_35])
       (try simp only [hl757000_35] at BK736)
       (try simp only [hl757000_35] at BK737)
       (try simp only [hl757000_35] at BK752)
       (try simp only [hl757000_35] at BK756)
       (try simp only [hl757000_35] at HO_8)
       (try simp only [hl757000_35] at HO_11)
       (try simp only [hl757000_35] at HO_753000)
       cases kq with
       | zero=>exact absurd HA.out (by simp [jg.j0])
       | succ kj35 =>
        have H:=HA.out
        clear HA
        simp only [jg.j0] at H
        by_cases c83:x67_35=true
        ·subst c83
         have H1:(some false)=some r:=by rw [if_pos rfl] at H;exact H
         clear H
         have H:=H1
         clear H1
         exact absurd ((Option.some.inj H).trans hT) Bool.false_ne_true
        ·replace c83:=Bool.eq_false_iff.mpr c83
         subst c83
         have H1:((jra.f kj35 t757 1).bind fun bt774=>((jV.f kj35 bt774.2 1).bind fun t776=>(if t776<0 then (some false) else (if t776=bt774.1 then ((jW.f kj35 l0_0).bind fun t777=>((jM.f kj35 l1_0).bind fun t780=>((jna.f kj35 t777 t780 a2).bind fun t783=>((jD.f kj35 t783 t746).bind fun t786=>(if t786=true then ((jV.f kj35 bt774.2 1).bind fun t787=>(if t787<0 then (some false) else (if t787=bt774.1 then (some true) else (some false)))) else (some false)))))) else (some false)))))=some r:=by rw [if_neg (show ¬ (false=true) by decide)] at H;exact H
         clear H
         have H:=H1
         clear H1
         replace H:=bzS H
         obtain ⟨⟨t774,t775⟩,A840,H⟩:=H
         replace H:((jV.f kj35 t775 1).bind fun t776=>(if t776<0 then (some false) else (if t776=t774 then ((jW.f kj35 l0_0).bind fun t777=>((jM.f kj35 l1_0).bind fun t780=>((jna.f kj35 t777 t780 a2).bind fun t783=>((jD.f kj35 t783 t746).bind fun t786=>(if t786=true then ((jV.f kj35 t775 1).bind fun t787=>(if t787<0 then (some false) else (if t787=t774 then (some true) else (some false)))) else (some false)))))) else (some false))))=some r:=H
         have A84:=am A840
         clear A840
         replace H:=bzS H
         obtain ⟨t776,A850,H⟩:=H
         replace H:(if t776<0 then (some false) else (if t776=t774 then ((jW.f kj35 l0_0).bind fun t777=>((jM.f kj35 l1_0).bind fun t780=>((jna.f kj35 t777 t780 a2).bind fun t783=>((jD.f kj35 t783 t746).bind fun t786=>(if t786=true then ((jV.f kj35 t775 1).bind fun t787=>(if t787<0 then (some false) else (if t787=t774 then (some true) else (some false)))) else (some false)))))) else (some false)))=some r:=H
         have A85:=am A850
         clear A850
         by_cases c86:t776<0
         ·rw [if_pos c86] at H
          have c86b0:decide (t776<0)=true:=dzT c86
          clear c86
          exact absurd ((Option.some.inj H).trans hT) Bool.false_ne_true
         ·rw [if_neg c86] at H
          have c86b0:decide (t776<0)=false:=dzF c86
          clear c86
          by_cases c87:t776=t774
          ·rw [if_pos c87] at H
           have c87b0:(t776 == t774)=true:=beq_iff_eq.mpr c87
           have c87b1:(t776 != t774)=false:=bne_eq_false_iff_eq.mpr c87
           clear c87
           replace H:=bzS H
           obtain ⟨t777,A880,H⟩:=H
           replace H:((jM.f kj35 l1_0).bind fun t780=>((jna.f kj35 t777 t780 a2).bind fun t783=>((jD.f kj35 t783 t746).bind fun t786=>(if t786=true then ((jV.f kj35 t775 1).bind fun t787=>(if t787<0 then (some false) else (if t787=t774 then (some true) else (some false)))) else (some false)))))=some r:=H
           have A88:=am A880
           clear A880
           replace H:=bzS H
           obtain ⟨t780,A890,H⟩:=H
           replace H:((jna.f kj35 t777 t780 a2).bind fun t783=>((jD.f kj35 t783 t746).bind fun t786=>(if t786=true then ((jV.f kj35 t775 1).bind fun t787=>(if t787<0 then (some false) else (if t787=t774 then (some true) else (some false)))) else (some false))))=some r:=H
           have A89:=am A890
           clear A890
           replace H:=bzS H
           obtain ⟨t783,A900,H⟩:=H
           replace H:((jD.f kj35 t783 t746).bind fun t786=>(if t786=true then ((jV.f kj35 t775 1).bind fun t787=>(if t787<0 then (some false) else (if t787=t774 then (some true) else (some false)))) else (some false)))=some r:=H
           have A90:=am A900
           clear A900
           replace H:=bzS H
           obtain ⟨t786,A910,H⟩:=H
           replace H:(if t786=true then ((jV.f kj35 t775 1).bind fun t787=>(if t787<0 then (some false) else (if t787=t774 then (some true) else (some false)))) else (some false))=some r:=H
           have A91:=am A910
           clear A910
           by_cases c92:t786=true
           ·subst c92
            have H1:((jV.f kj35 t775 1).bind fun t787=>(if t787<0 then (some false) else (if t787=t774 then (some true) else (some false))))=some r:=by rw [if_pos rfl] at H;exact H
            clear H
            have H:=H1
            clear H1
            replace H:=bzS H
            obtain ⟨t787,A930,H⟩:=H
            replace H:(if t787<0 then (some false) else (if t787=t774 then (some true) else (some false)))=some r:=H
            have A93:=am A930
            clear A930
            by_cases c94:t787<0
            ·rw [if_pos c94] at H
             have c94b0:decide (t787<0)=true:=dzT c94
             clear c94
             exact absurd ((Option.some.inj H).trans hT) Bool.false_ne_true
            ·rw [if_neg c94] at H
             have c94b0:decide (t787<0)=false:=dzF c94
             clear c94
             by_cases c95:t787=t774
             ·rw [if_pos c95] at H
              have c95b0:(t787 == t774)=true:=beq_iff_eq.mpr c95
              have c95b1:(t787 != t774)=false:=bne_eq_false_iff_eq.mpr c95
              clear c95
              obtain rfl:=Option.some.inj H
              try go_wp2_with (first |((with_reducible refine jw (f:=23) rfl ?_);refine gL (some 70) Try.func23 #[.slice Ao67 t757.length co67, .int .i64 1] ?_;(with_reducible refine (jra.calls kj35 (fun k_=>some k_=(.slice Ao67 t757.length co67:Value).ownBlock) (.slice Ao67 t757.length co67) t757 1 t774 t775 w _ ?side1 ?side2 A84.out).mono ?_);(case side1=>exact Y7);(case side2=>exact Kd.jdc rfl HO_11.out);rintro e w96 ⟨rfl,hy0,hb,hkp⟩;refine ⟨_,rfl,?_⟩;replace HO_8:=am (Kd.jia (ok':=fun k_=>some k_≠(.slice Ao67 t757.length co67:Value).ownBlock) (Kd.jkb (HO_8.out) hkp (fun k_ hk_ hs_=>(hk_) hs_)) (fun k_ hk_=>hk_.1));replace HO_753000:=am (Kd.jia (ok':=fun k_=>True) (Kd.jkb ((Kd.jub HO_753000.out (Kd.jMb HO_11.out) (by decide))) hkp (fun k_ hk_ hs_=>(hk_.2) hs_)) (fun k_ hk_=>trivial));replace HO_757000:=am (Kd.jia (ok':=fun k_=>True) (Kd.jkb ((Kd.jub HO_757000.out (Kd.jMb HO_11.out) (by decide))) hkp (fun k_ hk_ hs_=>(hk_.2) hs_)) (fun k_ hk_=>trivial));replace BK736:=am (jPa (kq BK736.out) hkp (fun hs_=>(fun e_=>(Kd.R_ne HO_11.out BK736.out (by decide)) e_) hs_));replace BK737:=am (jPa (kq BK737.out) hkp (fun hs_=>(fun e_=>(Kd.R_ne HO_11.out BK737.out (by decide)) e_) hs_));replace BK752:=am (jPa (kq BK752.out) hkp (fun hs_=>(fun e_=>(Kd.R_ne HO_11.out BK752.out (by decide)) e_) hs_));replace BK756:=am (jPa (kq BK756.out) hkp (fun hs_=>(fun e_=>(Kd.R_ne HO_11.out BK756.out (by decide)) e_) hs_));replace HO_11:=am (Kd.R_reok rfl hy0 (fun k_ e_=>HO_11.out.1 k_ e_));replace HB:=am (hb);(try clear hb);(try clear hkp);(try clear hy0)) |((with_reducible refine jw (f:=24) rfl ?_);refine goesL_ (some 73) rfl rfl Try.func24 (by kernel_rfl) rfl #[.slice Ao67 t775.length co67, .int .i64 1] rfl (by (try simp only [List.map_toArray,List.map_cons,List.map_nil]);first | done |(rw [show t775.length=t757.length from (Kd.jq HO_11.out).1.symm] <;> rfl) | rfl |(simp only [List.length_drop,List.length_take];rfl)) ?_;(with_reducible refine (jV.calls kj35 _ _ t775 1 t776 _ ?side1 ?side2 A85.out).mono ?_);(case side1=>exact cq (Kd.jq HO_11.out).2.2);(case side2=>rw [show t775.length=t757.length from (Kd.jq HO_11.out).1.symm];exact (Kd.jq HO_11.out).2.1);rintro e w' ⟨rfl,⟨nd,rfl⟩⟩;refine ⟨_,rfl,?_⟩))
              (try (rw [drewN_self w96];generalize hq_:World.drewN w96 _=w96;have n0_:jy (Kd.R (Kd.int .i64) 3 w96 w.heap.size (fun k_=>some k_≠(.slice Ao68 t746.length co68:Value).ownBlock) (.slice Ao67 t757.length co67) t775):=⟨by rw [← hq_];exact (rq HO_11.out)⟩;have n1_:jy (Kd.R k94 94 w96 w.heap.size (fun _=>True) (.slice Ao53 t770.length co53) t770):=⟨by rw [← hq_];exact (rq HO_753000.out)⟩;have n2_:jy (Kd.R k54 54 w96 w.heap.size (fun _=>True) (.slice Ao60 t772.length co60) t772):=⟨by rw [← hq_];exact (rq HO_757000.out)⟩;have n3_:jy (Kd.R (Kd.int .i64) 3 w96 w.heap.size (fun k_=>some k_≠(.slice Ao67 t757.length co67:Value).ownBlock) (.slice Ao68 t746.length co68) t746):=⟨by rw [← hq_];exact (rq HO_8.out)⟩;have n4_:jy (w96.heap[gb736]?=some (.cells #[.slice A0_0 l0_0.length c0_0] 24 (0,0))):=⟨by rw [← hq_];exact (kq BK736.out)⟩;have n5_:jy (w96.heap[gb737]?=some (.cells #[.slice A1_0 l1_0.length c1_0] 27 (0,0))):=⟨by rw [← hq_];exact (kq BK737.out)⟩;have n6_:jy (w96.heap[gb752]?=some (.cells #[.slice Ao53 t770.length co53] 37 (0,0))):=⟨by rw [← hq_];exact (kq BK752.out)⟩;have n7_:jy (w96.heap[gb756]?=some (.cells #[.slice Ao60 t772.length co60] 32 (0,0))):=⟨by rw [← hq_];exact (kq BK756.out)⟩;have n8_:jy (Below w.heap.size w w96):=⟨by rw [← hq_];exact (Y7)⟩;clear HO_11 HO_753000 HO_757000 HO_8 BK736 BK737 BK752 BK756 HB hq_;have HO_11:=n0_;have HO_753000:=n1_;have HO_757000:=n2_;have HO_8:=n3_;have BK736:=n4_;have BK737:=n5_;have BK752:=n6_;have BK756:=n7_;have HB:=n8_;clear n0_ n1_ n2_ n3_ n4_ n5_ n6_ n7_ n8_))
              replace HO_8:=am (Kd.jHa HO_8.out)
              replace HO_11:=am (Kd.jHa HO_11.out)
              replace HO_753000:=am (Kd.jHa HO_753000.out)
              replace HO_757000:=am (Kd.jHa HO_757000.out)
              replace BK736:=am (jC BK736.out)
              replace BK737:=am (jC BK737.out)
              replace BK752:=am (jC BK752.out)
              replace BK756:=am (jC BK756.out)
              replace HB:=am (jl HB.out)
              refine start_ (n:=7) (S:=fun w'=>w'.cell? ⟨gb736,0,none⟩=some (.slice A0_0 l0_0.length c0_0)∧w'.cell? ⟨gb737,0,none⟩=some (.slice A1_0 l1_0.length c1_0)) (ds:=[]) #[false,false,false,false,false,false,false] (by kernel_rfl) rfl rfl ⟨(jL BK736.out 0).trans rfl,(jL BK737.out 0).trans rfl⟩ (fun hHeld=>?_)
              generalize w96.drew=w97 at HO_8 HO_11 HO_753000 HO_757000 BK736 BK737 BK752 BK756 HB hHeld ⊢
              refine pure_ (i:=4) (N:=some 83) (v:=?_) (a':=?_) #[false,false,false,false,true,false,false] rfl rfl (by kernel_rfl) (fun _ _ _ h=>h) (Or.inl ⟨by rfl,?_⟩) ?_ ?_
              rotate_left
              ·exact sb
              rotate_left
              ·exact sa
              refine jKb (i:=0) (N:=some 79) (v:=?_) (a':=?_) #[true,false,false,false,true,false,false] rfl rfl (by kernel_rfl) (fun _ _ _ h=>h) (Or.inl ⟨by rfl,?_⟩) hHeld ?_ ?_
              rotate_left
              ·rintro w' ⟨s0,s1⟩
               go_simp
               with_reducible rfl
              rotate_left
              ·exact sa
              refine jKb (i:=2) (N:=some 81) (v:=?_) (a':=?_) #[true,false,true,false,true,false,false] rfl rfl (by kernel_rfl) (fun _ _ _ h=>h) (Or.inl ⟨by rfl,?_⟩) hHeld ?_ ?_
              rotate_left
              ·rintro w' ⟨s0,s1⟩
               go_simp
               with_reducible rfl
              rotate_left
              ·exact sa
              refine one_ (i:=1) (N:=some 80) #[true,true,true,false,true,false,false] rfl rfl (by kernel_rfl) (by decide) (fun K hK=>?_)
              refine goes_ Try.func12 (by kernel_rfl) rfl #[.agg #[.slice A0_0 l0_0.length c0_0]] (by rfl) rfl rfl (aq) ?_
              with_reducible refine (jW.calls kj35 _ _ l0_0 t777 _ ?side1 ?side2 A88.out).mono ?_
              (case side1=>exact cq (Kd.jI HR0_0.out HB.out))
              (case side2=>exact HC0_0.out)
              rintro e w98 ⟨v778,rfl,ho0,hb⟩
              refine ⟨_,rfl,?_⟩
              have HO779:=am (Kd.jya (Kd.jac ho0 (Kd.R_lt (rq HO_753000.out))) (jE (Y7)))
              replace HO_8:=am (Kd.jU (rq HO_8.out) hb)
              replace HO_11:=am (Kd.jU (rq HO_11.out) hb)
              replace HO_753000:=am (Kd.job (rq HO_753000.out) (Kd.jVb ho0) hb)
              replace HO_757000:=am (Kd.jU (rq HO_757000.out) hb)
              replace BK736:=am (jb (g:=gb736) (o:=.cells #[.slice A0_0 l0_0.length c0_0] 24 (0,0)) (kq BK736.out) hb)
              replace BK737:=am (jb (g:=gb737) (o:=.cells #[.slice A1_0 l1_0.length c1_0] 27 (0,0)) (kq BK737.out) hb)
              replace BK752:=am (jb (g:=gb752) (o:=.cells #[.slice Ao53 t770.length co53] 37 (0,0)) (kq BK752.out) hb)
              replace BK756:=am (jb (g:=gb756) (o:=.cells #[.slice Ao60 t772.length co60] 32 (0,0)) (kq BK756.out) hb)
              replace HB:=am (jd (Y7) hb)
              (try clear hb)
              (try clear hb2)
              (try clear hk)
              (try clear hi)
              (try clear ho0)
              refine hK.out _ _ ⟨(jL BK736.out 0).trans rfl,(jL BK737.out 0).trans rfl⟩ (fun hHeld=>?_)
              clear hK K
              refine norm_ (a':=?_) ?_ ?_
              rotate_left
              ·show Act.put _ (some 80) _=_
               simp only [Act.put,List.setIfInBounds_toArray,List.set_cons_zero,List.set_cons_succ,jLb,jOb]
               rfl
              refine one_ (i:=3) (N:=some 82) #[true,true,true,true,true,false,false] rfl rfl (by kernel_rfl) (by decide) (fun K hK=>?_)
              refine goes_ Try.func13 (by kernel_rfl) rfl #[.agg #[.slice A1_0 l1_0.length c1_0]] (by rfl) rfl rfl (aq) ?_
              with_reducible refine (jM.calls kj35 _ _ l1_0 t780 _ ?side1 ?side2 A89.out).mono ?_
              (case side1=>exact cq (Kd.jI HR1_0.out HB.out))
              (case side2=>exact HC1_0.out)
              rintro e w99 ⟨v781,rfl,ho0,hb⟩
              refine ⟨_,rfl,?_⟩
              have HO782:=am (Kd.jya (Kd.jac ho0 (Kd.R_lt (rq HO_757000.out))) (jE (Y7)))
              replace HO_8:=am (Kd.jU (rq HO_8.out) hb)
              replace HO_11:=am (Kd.jU (rq HO_11.out) hb)
              replace HO_753000:=am (Kd.jU (rq HO_753000.out) hb)
              replace HO_757000:=am (Kd.job (rq HO_757000.out) (Kd.jVb ho0) hb)
              replace HO779:=am (Kd.jU (rq HO779.out) hb)
              replace BK736:=am (jb (g:=gb736) (o:=.cells #[.slice A0_0 l0_0.length c0_0] 24 (0,0)) (kq BK736.out) hb)
              replace BK737:=am (jb (g:=gb737) (o:=.cells #[.slice A1_0 l1_0.length c1_0] 27 (0,0)) (kq BK737.out) hb)
              replace BK752:=am (jb (g:=gb752) (o:=.cells #[.slice Ao53 t770.length co53] 37 (0,0)) (kq BK752.out) hb)
              replace BK756:=am (jb (g:=gb756) (o:=.cells #[.slice Ao60 t772.length co60] 32 (0,0)) (kq BK756.out) hb)
              replace HB:=am (jd (Y7) hb)
              (try clear hb)
              (try clear hb2)
              (try clear hk)
              (try clear hi)
              (try clear ho0)
              obtain ⟨Ao100,co100,eo100⟩:=Kd.jwa HO779.out
              (first | subst eo100 |(injection eo100 with f1_ f2_ f3_;have f4_:=f1_.symm;have f5_:=f3_.symm;clear f1_ f2_ f3_;subst f4_;subst f5_))
              obtain ⟨Ao101,co101,eo101⟩:=Kd.jwa HO782.out
              (first | subst eo101 |(injection eo101 with f1_ f2_ f3_;have f4_:=f1_.symm;have f5_:=f3_.symm;clear f1_ f2_ f3_;subst f4_;subst f5_))
              refine hK.out _ _ ⟨(jL BK736.out 0).trans rfl,(jL BK737.out 0).trans rfl⟩ (fun hHeld=>?_)
              clear hK K
              refine norm_ (a':=?_) ?_ ?_
              rotate_left
              ·show Act.put _ (some 82) _=_
               simp only [Act.put,List.setIfInBounds_toArray,List.set_cons_zero,List.set_cons_succ,jLb,jOb]
               rfl
              refine one_ (i:=5) (N:=some 84) #[true,true,true,true,true,true,false] rfl rfl (by kernel_rfl) (by decide) (fun K hK=>?_)
              refine goes_ Try.func21 (by kernel_rfl) rfl #[.agg #[.slice Ao100 t777.length co100], .agg #[.slice Ao101 t780.length co101], .int .i64 a2] (by rfl) rfl rfl (aq) ?_
              with_reducible refine (jna.calls kj35 _ _ t777 _ _ t780 a2 t783 _ ?side1 ?side2 ?side3 ?side4 A90.out).mono ?_
              (case side1=>exact cq (Kd.jq HO779.out).2.2)
              (case side2=>exact (Kd.jq HO779.out).2.1)
              (case side3=>exact cq (Kd.jq HO782.out).2.2)
              (case side4=>exact (Kd.jq HO782.out).2.1)
              rintro e w102 ⟨v784,rfl,ho0,hb⟩
              refine ⟨_,rfl,?_⟩
              have HO785:=am (Kd.jya (Kd.jac (Kd.jac ho0 (Kd.R_lt (rq HO_8.out))) (Kd.R_lt (rq HO_11.out))) (jE (Y7)))
              replace HO_8:=am (Kd.job (rq HO_8.out) (Kd.jVb ho0) hb)
              replace HO_11:=am (Kd.job (rq HO_11.out) (Kd.jVb ho0) hb)
              replace HO_753000:=am (Kd.jU (rq HO_753000.out) hb)
              replace HO_757000:=am (Kd.jU (rq HO_757000.out) hb)
              replace HO779:=am (Kd.jU (rq HO779.out) hb)
              replace HO782:=am (Kd.jU (rq HO782.out) hb)
              replace BK736:=am (jb (g:=gb736) (o:=.cells #[.slice A0_0 l0_0.length c0_0] 24 (0,0)) (kq BK736.out) hb)
              replace BK737:=am (jb (g:=gb737) (o:=.cells #[.slice A1_0 l1_0.length c1_0] 27 (0,0)) (kq BK737.out) hb)
              replace BK752:=am (jb (g:=gb752) (o:=.cells #[.slice Ao53 t770.length co53] 37 (0,0)) (kq BK752.out) hb)
              replace BK756:=am (jb (g:=gb756) (o:=.cells #[.slice Ao60 t772.length co60] 32 (0,0)) (kq BK756.out) hb)
              replace HB:=am (jd (Y7) hb)
              (try clear hb)
              (try clear hb2)
              (try clear hk)
              (try clear hi)
              (try clear ho0)
              refine hK.out _ _ ⟨(jL BK736.out 0).trans rfl,(jL BK737.out 0).trans rfl⟩ (fun hHeld=>?_)
              clear hK K
              refine norm_ (a':=?_) ?_ ?_
              rotate_left
              ·show Act.put _ (some 84) _=_
               simp only [Act.put,List.setIfInBounds_toArray,List.set_cons_zero,List.set_cons_succ,jLb,jOb]
               rfl
              refine pure_ (i:=6) (N:=some 15) (v:=?_) (a':=?_) #[true,true,true,true,true,true,true] rfl rfl (by kernel_rfl) (fun _ _ _ h=>h) (Or.inl ⟨by rfl,?_⟩) ?_ ?_
              rotate_left
              ·exact sb
              rotate_left
              ·exact sa
              refine done_ (by kernel_rfl) ?_
              obtain ⟨Ao103,co103,eo103⟩:=Kd.jwa HO785.out
              subst eo103
              try go_wp2_with (first |((with_reducible refine jw (f:=22) rfl ?_);refine gL (some 87) Try.func22 #[.slice Ao103 t783.length co103, .slice Ao68 t746.length co68] ?_;(with_reducible refine (jD.calls kj35 _ _ t783 _ _ t746 true _ ?side1 ?side2 ?side3 ?side4 A91.out).mono ?_);(case side1=>exact cq (Kd.jq HO785.out).2.2);(case side2=>exact (Kd.jq HO785.out).2.1);(case side3=>exact cq (Kd.jq HO_8.out).2.2);(case side4=>exact (Kd.jq HO_8.out).2.1);rintro e w' ⟨rfl,⟨nd,rfl⟩⟩;refine ⟨_,rfl,?_⟩) |((with_reducible refine jw (f:=24) rfl ?_);refine goesL_ (some 91) rfl rfl Try.func24 (by kernel_rfl) rfl #[.slice Ao67 t775.length co67, .int .i64 1] rfl (by (try simp only [List.map_toArray,List.map_cons,List.map_nil]);first | done |(rw [show t775.length=t757.length from (Kd.jq HO_11.out).1.symm] <;> rfl) | rfl |(simp only [List.length_drop,List.length_take];rfl)) ?_;(with_reducible refine (jV.calls kj35 _ _ t775 1 t787 _ ?side1 ?side2 A93.out).mono ?_);(case side1=>exact cq (Kd.jq HO_11.out).2.2);(case side2=>rw [show t775.length=t757.length from (Kd.jq HO_11.out).1.symm];exact (Kd.jq HO_11.out).2.1);rintro e w' ⟨rfl,⟨nd,rfl⟩⟩;refine ⟨_,rfl,?_⟩))
              go_ret
              exact ⟨Y1,Y7⟩
             ·rw [if_neg c95] at H
              have c95b0:(t787 == t774)=false:=beq_eq_false_iff_ne.mpr c95
              have c95b1:(t787 != t774)=true:=bne_iff_ne.mpr c95
              exact absurd ((Option.some.inj H).trans hT) Bool.false_ne_true
           ·replace c92:=Bool.eq_false_iff.mpr c92
            subst c92
            have H1:(some false)=some r:=by rw [if_neg (show ¬ (false=true) by decide)] at H;exact H
            clear H
            have H:=H1
            clear H1
            exact absurd ((Option.some.inj H).trans hT) Bool.false_ne_true
          ·rw [if_neg c87] at H
           have c87b0:(t776 == t774)=false:=beq_eq_false_iff_ne.mpr c87
           have c87b1:(t776 != t774)=true:=bne_iff_ne.mpr c87
           exact absurd ((Option.some.inj H).trans hT) Bool.false_ne_true
     ·replace c33:=Bool.eq_false_iff.mpr c33
      subst c33
      have H1:(some false)=some r:=by rw [if_neg (show ¬ (false=true) by decide)] at H;exact H
      clear H
      have H:=H1
      clear H1
      exact absurd ((Option.some.inj H).trans hT) Bool.false_ne_true
    ·replace c30:=Bool.eq_false_iff.mpr c30
     subst c30
     have H1:(some false)=some r:=by rw [if_neg (show ¬ (false=true) by decide)] at H;exact H
     clear H
     have H:=H1
     clear H1
     exact absurd ((Option.some.inj H).trans hT) Bool.false_ne_true
   ·replace c27:=Bool.eq_false_iff.mpr c27
    subst c27
    have H1:(some false)=some r:=by rw [if_neg (show ¬ (false=true) by decide)] at H;exact H
    clear H
    have H:=H1
    clear H1
    exact absurd ((Option.some.inj H).trans hT) Bool.false_ne_true
def jZa (w0 W : World) (g : Nat) (f0 : List Int) (f1 : Int) : Prop := ∃ A0 c0, W.heap[g]? = some (.cells #[.slice A0 f0.length c0, .int .i64 f1] 106 (0, 0)) ∧ w0.heap.size ≤ g ∧ Kd.C (Kd.int .u8) w0 A0 f0.length f0
theorem jZa.grown {w0 W : World} {g : Nat} {f0 : List Int} {f1 : Int} {W1 : World} {row : Option Nat} (h : jZa w0 W g f0 f1) (hw : W.grownBy W1 row) (hne : some g ≠ row) : jZa w0 W1 g f0 f1 := by
 obtain ⟨A0,c0,hb,hg,hr0⟩:=h
 exact ⟨A0,c0,jAb hb hw hne,hg,hr0⟩
theorem jZa.kept {w0 W : World} {g : Nat} {f0 : List Int} {f1 : Int} {W1 : World} {S : Nat → Prop} (h : jZa w0 W g f0 f1) (hk : Kept W W1 S) (hne : ¬ S g) : jZa w0 W1 g f0 f1 := by
 obtain ⟨A0,c0,hb,hg,hr0⟩:=h
 exact ⟨A0,c0,jPa hb hk hne,hg,hr0⟩
theorem jZa.below {w0 W : World} {g : Nat} {f0 : List Int} {f1 : Int} {W1 : World} (h : jZa w0 W g f0 f1) (hw : Below W.heap.size W W1) : jZa w0 W1 g f0 f1 := h.grown (grown_of_below hw none) (by simp)
theorem jZa.alloc {w0 W : World} {g : Nat} {f0 : List Int} {f1 : Int} (h : jZa w0 W g f0 f1) (o : Obj) : jZa w0 (W.alloc o) g f0 f1 := h.below (jk (Below.refl _ _) o)
theorem jZa.drewN {w0 W : World} {g : Nat} {f0 : List Int} {f1 : Int} (h : jZa w0 W g f0 f1) (m : Nat) : jZa w0 (W.drewN m) g f0 f1 := h
theorem jZa.drew {w0 W : World} {g : Nat} {f0 : List Int} {f1 : Int} (h : jZa w0 W g f0 f1) : jZa w0 W.drew g f0 f1 := h
theorem jZa.at_ {w0 W : World} {g : Nat} {f0 : List Int} {f1 : Int} {w' : World} {m : Nat} (hq : W.drewN m = w') (h : jZa w0 W g f0 f1) : jZa w0 w' g f0 f1 := by subst hq; exact jZa.drewN h m
theorem jZa.apart {w0 W : World} {g : Nat} {f0 : List Int} {f1 : Int} {α : Type} {d : Kd α} {e : Nat} {base : Nat} {ok : Nat → Prop} {v : Value} {xs : List α} (h : jZa w0 W g f0 f1) (ho : d.R e W base ok v xs) (ht : ∀ q, q ∈ e :: d.E → q ≠ 106) : d.R e W base (fun k => ok k ∧ k ≠ g) v xs := by
 obtain ⟨A0,c0,hb,hg,hr0⟩:=h
 exact Kd.jBb ho hb ht
theorem jZa.own_ne {w0 W : World} {g : Nat} {f0 : List Int} {f1 : Int} {α : Type} {d : Kd α} {e : Nat} {base : Nat} {ok : Nat → Prop} {v : Value} {xs : List α} (h : jZa w0 W g f0 f1) (ho : d.R e W base ok v xs) (ht : e ≠ 106) : some g ≠ v.ownBlock := by
 obtain ⟨A0,c0,hb,hg,hr0⟩:=h
 exact Kd.R_ne ho hb ht
theorem jZa.lt {w0 W : World} {g : Nat} {f0 : List Int} {f1 : Int} (h : jZa w0 W g f0 f1) : g < W.heap.size := by
 obtain ⟨A0,c0,hb,hg,hr0⟩:=h
 exact jZ hb
end Go.Proofs.Ytecdfgejmbpclaa.P
end
