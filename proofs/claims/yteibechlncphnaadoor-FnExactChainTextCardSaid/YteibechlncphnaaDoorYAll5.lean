/- One part of the proofs on this program: functions of the program as plain functions, that the code comes to them, and facts on them. -/
import Derived.Test.YteibechlncphnaaDoorYAll1
import Derived.Test.YteibechlncphnaaDoorYAll2
import Derived.Test.YteibechlncphnaaDoorYAll4
import Derived.Test.YteibechlncphnaaDoorYWAuto
section
namespace Go.Proofs.YteibechlncphnaaDoor.P
open Go.RowKit Go.Proofs.YteibechlncphnaaDoorW.PrintWords Go.Proofs.YteibechlncphnaaDoorW.PrintLast Go.Proofs.YteibechlncphnaaDoorW.PrintMore
attribute [local go_sem] jS jQ jba jaa jK jJ jR jP jg
set_option linter.unusedVariables false
set_option linter.unusedSimpArgs false
def jza.f (k : Nat) (l0_0 : List (S98)) (l1_0 : List (S102)) (a2 : Int) : Option (Bool) := (jQa.f k l0_0 1048576).bind fun t580 => (if t580 < 0 then (some true) else ((jRa.f l1_0 t580).bind fun t581 => (if t581 < 0 then (some true) else ((jV.f k l0_0).bind fun t582 => ((jO.f k l1_0).bind fun t585 => ((jxa.f k t582 t585 a2).bind fun t588 => ((jV.f k l0_0).bind fun t589 => ((jO.f k l1_0).bind fun t593 => ((jla.f k t589 t593 a2).bind fun t597 => (if t597.toList = t588.toList then ((jV.f k l0_0).bind fun t598 => ((jwa.f k t589 t598).bind fun t601 => (if t601 = true then ((jO.f k l1_0).bind fun t602 => ((joa.f k t593 t602).bind fun t605 => (if t605 = true then (some true) else (some false)))) else (some false)))) else (some false)))))))))))
set_option maxHeartbeats 8000000 in
set_option maxRecDepth 100000 in
theorem jza.calls (k : Nat) (A0_0 : Option Addr) (c0_0 : Nat) (l0_0 : List (S98)) (A1_0 : Option Addr) (c1_0 : Nat) (l1_0 : List (S102)) (a2 : Int) (r : Bool) (w : World) (hr0_0 : Kd.C k98 w A0_0 l0_0.length l0_0) (hc0_0 : l0_0.length ≤ c0_0) (hr1_0 : Kd.C k102 w A1_0 l1_0.length l1_0) (hc1_0 : l1_0.length ≤ c1_0) (hT : r = true) (h : jza.f k l0_0 l1_0 a2 = some r) :
  Calls Tryd.prog 5 #[.agg #[.slice A0_0 l0_0.length c0_0], .agg #[.slice A1_0 l1_0.length c1_0], .int .i64 a2] w fun e w'=>e=.returned (.bool r)∧Below w.heap.size w w':=by
 have hu41:=Tryd.underlying41
 have hu44:=Tryd.underlying44
 have hu25:=Tryd.underlying25
 have hu28:=Tryd.underlying28
 have HR0_0:=am hr0_0
 have HC0_0:=am hc0_0
 clear hr0_0 hc0_0
 have HR1_0:=am hr1_0
 have HC1_0:=am hc1_0
 clear hr1_0 hc1_0
 have HB:=am (Below.refl w.heap.size w)
 have H:((jQa.f k l0_0 1048576).bind fun t580=>(if t580<0 then (some true) else ((jRa.f l1_0 t580).bind fun t581=>(if t581<0 then (some true) else ((jV.f k l0_0).bind fun t582=>((jO.f k l1_0).bind fun t585=>((jxa.f k t582 t585 a2).bind fun t588=>((jV.f k l0_0).bind fun t589=>((jO.f k l1_0).bind fun t593=>((jla.f k t589 t593 a2).bind fun t597=>(if t597.toList=t588.toList then ((jV.f k l0_0).bind fun t598=>((jwa.f k t589 t598).bind fun t601=>(if t601=true then ((jO.f k l1_0).bind fun t602=>((joa.f k t593 t602).bind fun t605=>(if t605=true then (some true) else (some false)))) else (some false)))) else (some false))))))))))))=some r:=h
 clear h
 replace H:=bzS H
 obtain ⟨t580,A40,H⟩:=H
 replace H:(if t580<0 then (some true) else ((jRa.f l1_0 t580).bind fun t581=>(if t581<0 then (some true) else ((jV.f k l0_0).bind fun t582=>((jO.f k l1_0).bind fun t585=>((jxa.f k t582 t585 a2).bind fun t588=>((jV.f k l0_0).bind fun t589=>((jO.f k l1_0).bind fun t593=>((jla.f k t589 t593 a2).bind fun t597=>(if t597.toList=t588.toList then ((jV.f k l0_0).bind fun t598=>((jwa.f k t589 t598).bind fun t601=>(if t601=true then ((jO.f k l1_0).bind fun t602=>((joa.f k t593 t602).bind fun t605=>(if t605=true then (some true) else (some false)))) else (some false)))) else (some false)))))))))))=some r:=H
 have A4:=am A40
 clear A40
 by_cases c5:t580<0
 ·rw [if_pos c5] at H
  have c5b0:decide (t580<0)=true:=dzT c5
  clear c5
  obtain rfl:=Option.some.inj H
  go_enter Tryd.func5,Tryd.ntmps5
  go_wp2_with (first |((with_reducible refine jr (N:=3) rfl ?_);refine bE (N:=3) (cs:=#[.slice A0_0 l0_0.length c0_0]) (t:=41) ?_;intro gb578 hg w6 hbox hb;have BK578:=am (hbox);have GW578:=am ((Y0:w.heap.size≤gb578));have GE578:=am ((Y0:w.heap.size≤gb578));replace HB:=am (jd (bq) hb);clear hb hbox hg) |((with_reducible refine jr (N:=4) rfl ?_);refine bE (N:=4) (cs:=#[.slice A1_0 l1_0.length c1_0]) (t:=44) ?_;intro gb579 hg w7 hbox hb;have BK579:=am (hbox);have GW579:=am ((Y32:w.heap.size≤gb579));have GE579:=am ((Y32:w.heap.size≤gb579));have NB578_579:=am ((Y42:gb578≠gb579));have NB579_578:=am ((Y43:gb579≠gb578));replace BK578:=am (jc (g:=gb578) (o:=.cells #[.slice A0_0 l0_0.length c0_0] 41 (0,0)) (kq BK578.out) hb);replace HB:=am (jd (Y78) hb);clear hb hbox hg;have hnb8:=NB578_579.out;have hnc8:=NB579_578.out;have hcz9_0:=bc0 BK578.out;have hfz9_0:=ja BK578.out 0) |((with_reducible refine jB (f:=16) rfl ?_);refine gL (some 14) Tryd.func16 #[.agg #[.slice A0_0 l0_0.length c0_0], .int .i64 1048576] ?_;(with_reducible refine (jQa.calls k _ _ l0_0 1048576 t580 _ ?side1 ?side2 A4.out).mono ?_);(case side1=>exact cq (Kd.jD HR0_0.out HB.out));(case side2=>exact HC0_0.out);rintro e w10 ⟨rfl,hb⟩;refine ⟨_,rfl,?_⟩;replace BK578:=am (jc (g:=gb578) (o:=.cells #[.slice A0_0 l0_0.length c0_0] 41 (0,0)) (kq BK578.out) hb);replace BK579:=am (jc (g:=gb579) (o:=.cells #[.slice A1_0 l1_0.length c1_0] 44 (0,0)) (kq BK579.out) hb);replace HB:=am (jd (Y7) hb);(try clear hb);(try clear hb2);(try clear hk);(try clear hi)))
  go_ret
  exact ⟨Y1,Y7⟩
 ·rw [if_neg c5] at H
  have c5b0:decide (t580<0)=false:=dzF c5
  clear c5
  replace H:=bzS H
  obtain ⟨t581,A110,H⟩:=H
  replace H:(if t581<0 then (some true) else ((jV.f k l0_0).bind fun t582=>((jO.f k l1_0).bind fun t585=>((jxa.f k t582 t585 a2).bind fun t588=>((jV.f k l0_0).bind fun t589=>((jO.f k l1_0).bind fun t593=>((jla.f k t589 t593 a2).bind fun t597=>(if t597.toList=t588.toList then ((jV.f k l0_0).bind fun t598=>((jwa.f k t589 t598).bind fun t601=>(if t601=true then ((jO.f k l1_0).bind fun t602=>((joa.f k t593 t602).bind fun t605=>(if t605=true then (some true) else (some false)))) else (some false)))) else (some false)))))))))=some r:=H
  have A11:=am A110
  clear A110
  by_cases c12:t581<0
  ·rw [if_pos c12] at H
   have c12b0:decide (t581<0)=true:=dzT c12
   clear c12
   obtain rfl:=Option.some.inj H
   go_enter Tryd.func5,Tryd.ntmps5
   go_wp2_with (first |((with_reducible refine jr (N:=3) rfl ?_);refine bE (N:=3) (cs:=#[.slice A0_0 l0_0.length c0_0]) (t:=41) ?_;intro gb578 hg w13 hbox hb;have BK578:=am (hbox);have GW578:=am ((Y0:w.heap.size≤gb578));have GE578:=am ((Y0:w.heap.size≤gb578));replace HB:=am (jd (bq) hb);clear hb hbox hg) |((with_reducible refine jr (N:=4) rfl ?_);refine bE (N:=4) (cs:=#[.slice A1_0 l1_0.length c1_0]) (t:=44) ?_;intro gb579 hg w14 hbox hb;have BK579:=am (hbox);have GW579:=am ((Y32:w.heap.size≤gb579));have GE579:=am ((Y32:w.heap.size≤gb579));have NB578_579:=am ((Y42:gb578≠gb579));have NB579_578:=am ((Y43:gb579≠gb578));replace BK578:=am (jc (g:=gb578) (o:=.cells #[.slice A0_0 l0_0.length c0_0] 41 (0,0)) (kq BK578.out) hb);replace HB:=am (jd (Y78) hb);clear hb hbox hg;have hnb15:=NB578_579.out;have hnc15:=NB579_578.out;have hcz16_0:=bc0 BK578.out;have hfz16_0:=ja BK578.out 0) |((with_reducible refine jB (f:=16) rfl ?_);refine gL (some 14) Tryd.func16 #[.agg #[.slice A0_0 l0_0.length c0_0], .int .i64 1048576] ?_;(with_reducible refine (jQa.calls k _ _ l0_0 1048576 t580 _ ?side1 ?side2 A4.out).mono ?_);(case side1=>exact cq (Kd.jD HR0_0.out HB.out));(case side2=>exact HC0_0.out);rintro e w17 ⟨rfl,hb⟩;refine ⟨_,rfl,?_⟩;replace BK578:=am (jc (g:=gb578) (o:=.cells #[.slice A0_0 l0_0.length c0_0] 41 (0,0)) (kq BK578.out) hb);replace BK579:=am (jc (g:=gb579) (o:=.cells #[.slice A1_0 l1_0.length c1_0] 44 (0,0)) (kq BK579.out) hb);replace HB:=am (jd (Y7) hb);(try clear hb);(try clear hb2);(try clear hk);(try clear hi);have hcz18_0:=bc0 BK579.out;have hfz18_0:=ja BK579.out 0) |((with_reducible refine jB (f:=17) rfl ?_);refine gL (some 19) Tryd.func17 #[.agg #[.slice A1_0 l1_0.length c1_0], .int .i64 t580] ?_;(with_reducible refine (jRa.calls _ _ l1_0 t580 t581 _ ?side1 ?side2 A11.out).mono ?_);(case side1=>exact cq (Kd.jD HR1_0.out HB.out));(case side2=>exact HC1_0.out);rintro e w19 ⟨rfl,hb⟩;refine ⟨_,rfl,?_⟩;replace BK578:=am (jc (g:=gb578) (o:=.cells #[.slice A0_0 l0_0.length c0_0] 41 (0,0)) (kq BK578.out) hb);replace BK579:=am (jc (g:=gb579) (o:=.cells #[.slice A1_0 l1_0.length c1_0] 44 (0,0)) (kq BK579.out) hb);replace HB:=am (jd (Y7) hb);(try clear hb);(try clear hb2);(try clear hk);(try clear hi)))
   go_ret
   exact ⟨Y1,Y7⟩
  ·rw [if_neg c12] at H
   have c12b0:decide (t581<0)=false:=dzF c12
   clear c12
   replace H:=bzS H
   obtain ⟨t582,A200,H⟩:=H
   replace H:((jO.f k l1_0).bind fun t585=>((jxa.f k t582 t585 a2).bind fun t588=>((jV.f k l0_0).bind fun t589=>((jO.f k l1_0).bind fun t593=>((jla.f k t589 t593 a2).bind fun t597=>(if t597.toList=t588.toList then ((jV.f k l0_0).bind fun t598=>((jwa.f k t589 t598).bind fun t601=>(if t601=true then ((jO.f k l1_0).bind fun t602=>((joa.f k t593 t602).bind fun t605=>(if t605=true then (some true) else (some false)))) else (some false)))) else (some false)))))))=some r:=H
   have A20:=am A200
   clear A200
   replace H:=bzS H
   obtain ⟨t585,A210,H⟩:=H
   replace H:((jxa.f k t582 t585 a2).bind fun t588=>((jV.f k l0_0).bind fun t589=>((jO.f k l1_0).bind fun t593=>((jla.f k t589 t593 a2).bind fun t597=>(if t597.toList=t588.toList then ((jV.f k l0_0).bind fun t598=>((jwa.f k t589 t598).bind fun t601=>(if t601=true then ((jO.f k l1_0).bind fun t602=>((joa.f k t593 t602).bind fun t605=>(if t605=true then (some true) else (some false)))) else (some false)))) else (some false))))))=some r:=H
   have A21:=am A210
   clear A210
   replace H:=bzS H
   obtain ⟨t588,A220,H⟩:=H
   replace H:((jV.f k l0_0).bind fun t589=>((jO.f k l1_0).bind fun t593=>((jla.f k t589 t593 a2).bind fun t597=>(if t597.toList=t588.toList then ((jV.f k l0_0).bind fun t598=>((jwa.f k t589 t598).bind fun t601=>(if t601=true then ((jO.f k l1_0).bind fun t602=>((joa.f k t593 t602).bind fun t605=>(if t605=true then (some true) else (some false)))) else (some false)))) else (some false)))))=some r:=H
   have A22:=am A220
   clear A220
   replace H:=bzS H
   obtain ⟨t589,A230,H⟩:=H
   replace H:((jO.f k l1_0).bind fun t593=>((jla.f k t589 t593 a2).bind fun t597=>(if t597.toList=t588.toList then ((jV.f k l0_0).bind fun t598=>((jwa.f k t589 t598).bind fun t601=>(if t601=true then ((jO.f k l1_0).bind fun t602=>((joa.f k t593 t602).bind fun t605=>(if t605=true then (some true) else (some false)))) else (some false)))) else (some false))))=some r:=H
   have A23:=am A230
   clear A230
   replace H:=bzS H
   obtain ⟨t593,A240,H⟩:=H
   replace H:((jla.f k t589 t593 a2).bind fun t597=>(if t597.toList=t588.toList then ((jV.f k l0_0).bind fun t598=>((jwa.f k t589 t598).bind fun t601=>(if t601=true then ((jO.f k l1_0).bind fun t602=>((joa.f k t593 t602).bind fun t605=>(if t605=true then (some true) else (some false)))) else (some false)))) else (some false)))=some r:=H
   have A24:=am A240
   clear A240
   replace H:=bzS H
   obtain ⟨t597,A250,H⟩:=H
   replace H:(if t597.toList=t588.toList then ((jV.f k l0_0).bind fun t598=>((jwa.f k t589 t598).bind fun t601=>(if t601=true then ((jO.f k l1_0).bind fun t602=>((joa.f k t593 t602).bind fun t605=>(if t605=true then (some true) else (some false)))) else (some false)))) else (some false))=some r:=H
   have A25:=am A250
   clear A250
   by_cases c26:t597.toList=t588.toList
   ·rw [if_pos c26] at H
    have c26b0:(t597.toList == t588.toList)=true:=beq_iff_eq.mpr c26
    have c26b1:(t597.toList != t588.toList)=false:=bne_eq_false_iff_eq.mpr c26
    clear c26
    replace H:=bzS H
    obtain ⟨t598,A270,H⟩:=H
    replace H:((jwa.f k t589 t598).bind fun t601=>(if t601=true then ((jO.f k l1_0).bind fun t602=>((joa.f k t593 t602).bind fun t605=>(if t605=true then (some true) else (some false)))) else (some false)))=some r:=H
    have A27:=am A270
    clear A270
    replace H:=bzS H
    obtain ⟨t601,A280,H⟩:=H
    replace H:(if t601=true then ((jO.f k l1_0).bind fun t602=>((joa.f k t593 t602).bind fun t605=>(if t605=true then (some true) else (some false)))) else (some false))=some r:=H
    have A28:=am A280
    clear A280
    by_cases c29:t601=true
    ·subst c29
     have H1:((jO.f k l1_0).bind fun t602=>((joa.f k t593 t602).bind fun t605=>(if t605=true then (some true) else (some false))))=some r:=by rw [if_pos rfl] at H;exact H
     clear H
     have H:=H1
     clear H1
     replace H:=bzS H
     obtain ⟨t602,A300,H⟩:=H
     replace H:((joa.f k t593 t602).bind fun t605=>(if t605=true then (some true) else (some false)))=some r:=H
     have A30:=am A300
     clear A300
     replace H:=bzS H
     obtain ⟨t605,A310,H⟩:=H
     replace H:(if t605=true then (some true) else (some false))=some r:=H
     have A31:=am A310
     clear A310
     by_cases c32:t605=true
     ·subst c32
      have H1:(some true)=some r:=by rw [if_pos rfl] at H;exact H
      clear H
      have H:=H1
      clear H1
      obtain rfl:=Option.some.inj H
      go_enter Tryd.func5,Tryd.ntmps5
      try go_wp2_with (first |((with_reducible refine jr (N:=3) rfl ?_);refine bE (N:=3) (cs:=#[.slice A0_0 l0_0.length c0_0]) (t:=41) ?_;intro gb578 hg w33 hbox hb;have BK578:=am (hbox);have GW578:=am ((Y0:w.heap.size≤gb578));have GE578:=am ((Y0:w.heap.size≤gb578));replace HB:=am (jd (bq) hb);clear hb hbox hg) |((with_reducible refine jr (N:=4) rfl ?_);refine bE (N:=4) (cs:=#[.slice A1_0 l1_0.length c1_0]) (t:=44) ?_;intro gb579 hg w34 hbox hb;have BK579:=am (hbox);have GW579:=am ((Y32:w.heap.size≤gb579));have GE579:=am ((Y32:w.heap.size≤gb579));have NB578_579:=am ((Y42:gb578≠gb579));have NB579_578:=am ((Y43:gb579≠gb578));replace BK578:=am (jc (g:=gb578) (o:=.cells #[.slice A0_0 l0_0.length c0_0] 41 (0,0)) (kq BK578.out) hb);replace HB:=am (jd (Y78) hb);clear hb hbox hg;have hnb35:=NB578_579.out;have hnc35:=NB579_578.out;have hcz36_0:=bc0 BK578.out;have hfz36_0:=ja BK578.out 0) |((with_reducible refine jB (f:=16) rfl ?_);refine gL (some 14) Tryd.func16 #[.agg #[.slice A0_0 l0_0.length c0_0], .int .i64 1048576] ?_;(with_reducible refine (jQa.calls k _ _ l0_0 1048576 t580 _ ?side1 ?side2 A4.out).mono ?_);(case side1=>exact cq (Kd.jD HR0_0.out HB.out));(case side2=>exact HC0_0.out);rintro e w37 ⟨rfl,hb⟩;refine ⟨_,rfl,?_⟩;replace BK578:=am (jc (g:=gb578) (o:=.cells #[.slice A0_0 l0_0.length c0_0] 41 (0,0)) (kq BK578.out) hb);replace BK579:=am (jc (g:=gb579) (o:=.cells #[.slice A1_0 l1_0.length c1_0] 44 (0,0)) (kq BK579.out) hb);replace HB:=am (jd (Y7) hb);(try clear hb);(try clear hb2);(try clear hk);(try clear hi);have hcz38_0:=bc0 BK579.out;have hfz38_0:=ja BK579.out 0) |((with_reducible refine jB (f:=17) rfl ?_);refine gL (some 19) Tryd.func17 #[.agg #[.slice A1_0 l1_0.length c1_0], .int .i64 t580] ?_;(with_reducible refine (jRa.calls _ _ l1_0 t580 t581 _ ?side1 ?side2 A11.out).mono ?_);(case side1=>exact cq (Kd.jD HR1_0.out HB.out));(case side2=>exact HC1_0.out);rintro e w39 ⟨rfl,hb⟩;refine ⟨_,rfl,?_⟩;replace BK578:=am (jc (g:=gb578) (o:=.cells #[.slice A0_0 l0_0.length c0_0] 41 (0,0)) (kq BK578.out) hb);replace BK579:=am (jc (g:=gb579) (o:=.cells #[.slice A1_0 l1_0.length c1_0] 44 (0,0)) (kq BK579.out) hb);replace HB:=am (jd (Y7) hb);(try clear hb);(try clear hb2);(try clear hk);(try clear hi)))
      replace BK578:=am (jv BK578.out)
      replace BK579:=am (jv BK579.out)
      replace HB:=am (jk HB.out)
      refine start_ (n:=7) (S:=fun w'=>w'.cell? ⟨gb578,0,none⟩=some (.slice A0_0 l0_0.length c0_0)∧w'.cell? ⟨gb579,0,none⟩=some (.slice A1_0 l1_0.length c1_0)) (ds:=[]) #[false,false,false,false,false,false,false] (by kernel_rfl) rfl rfl ⟨(jC BK578.out 0).trans rfl,(jC BK579.out 0).trans rfl⟩ (fun hHeld=>?_)
      generalize w39.drew=w40 at BK578 BK579 HB hHeld ⊢
      refine pure_ (i:=4) (N:=some 26) (v:=?_) (a':=?_) #[false,false,false,false,true,false,false] rfl rfl (by kernel_rfl) (fun _ _ _ h=>h) (Or.inl ⟨by rfl,?_⟩) ?_ ?_
      rotate_left
      ·exact sb
      rotate_left
      ·exact sa
      refine jzb (i:=0) (N:=some 22) (v:=?_) (a':=?_) #[true,false,false,false,true,false,false] rfl rfl (by kernel_rfl) (fun _ _ _ h=>h) (Or.inl ⟨by rfl,?_⟩) hHeld ?_ ?_
      rotate_left
      ·rintro w' ⟨s0,s1⟩
       go_simp
       with_reducible rfl
      rotate_left
      ·exact sa
      refine jzb (i:=2) (N:=some 24) (v:=?_) (a':=?_) #[true,false,true,false,true,false,false] rfl rfl (by kernel_rfl) (fun _ _ _ h=>h) (Or.inl ⟨by rfl,?_⟩) hHeld ?_ ?_
      rotate_left
      ·rintro w' ⟨s0,s1⟩
       go_simp
       with_reducible rfl
      rotate_left
      ·exact sa
      refine one_ (i:=1) (N:=some 23) #[true,true,true,false,true,false,false] rfl rfl (by kernel_rfl) (by decide) (fun K hK=>?_)
      refine goes_ Tryd.func18 (by kernel_rfl) rfl #[.agg #[.slice A0_0 l0_0.length c0_0]] (by rfl) rfl rfl (aq) ?_
      with_reducible refine (jV.calls k _ _ l0_0 t582 _ ?side1 ?side2 A20.out).mono ?_
      (case side1=>exact cq (Kd.jD HR0_0.out HB.out))
      (case side2=>exact HC0_0.out)
      rintro e w41 ⟨v583,rfl,ho0,hb⟩
      refine ⟨_,rfl,?_⟩
      have HO584:=am (Kd.jGa ho0 (jE (Y7)))
      replace BK578:=am (jc (g:=gb578) (o:=.cells #[.slice A0_0 l0_0.length c0_0] 41 (0,0)) (kq BK578.out) hb)
      replace BK579:=am (jc (g:=gb579) (o:=.cells #[.slice A1_0 l1_0.length c1_0] 44 (0,0)) (kq BK579.out) hb)
      replace HB:=am (jd (Y7) hb)
      (try clear hb)
      (try clear hb2)
      (try clear hk)
      (try clear hi)
      (try clear ho0)
      refine hK.out _ _ ⟨(jC BK578.out 0).trans rfl,(jC BK579.out 0).trans rfl⟩ (fun hHeld=>?_)
      clear hK K
      refine norm_ (a':=?_) ?_ ?_
      rotate_left
      ·show Act.put _ (some 23) _=_
       simp only [Act.put,List.setIfInBounds_toArray,List.set_cons_zero,List.set_cons_succ,jEb,i32_w]
       rfl
      refine one_ (i:=3) (N:=some 25) #[true,true,true,true,true,false,false] rfl rfl (by kernel_rfl) (by decide) (fun K hK=>?_)
      refine goes_ Tryd.func19 (by kernel_rfl) rfl #[.agg #[.slice A1_0 l1_0.length c1_0]] (by rfl) rfl rfl (aq) ?_
      with_reducible refine (jO.calls k _ _ l1_0 t585 _ ?side1 ?side2 A21.out).mono ?_
      (case side1=>exact cq (Kd.jD HR1_0.out HB.out))
      (case side2=>exact HC1_0.out)
      rintro e w42 ⟨v586,rfl,ho0,hb⟩
      refine ⟨_,rfl,?_⟩
      have HO587:=am (Kd.jGa ho0 (jE (Y7)))
      replace HO584:=am (Kd.jfa (rq HO584.out) hb)
      replace BK578:=am (jc (g:=gb578) (o:=.cells #[.slice A0_0 l0_0.length c0_0] 41 (0,0)) (kq BK578.out) hb)
      replace BK579:=am (jc (g:=gb579) (o:=.cells #[.slice A1_0 l1_0.length c1_0] 44 (0,0)) (kq BK579.out) hb)
      replace HB:=am (jd (Y7) hb)
      (try clear hb)
      (try clear hb2)
      (try clear hk)
      (try clear hi)
      (try clear ho0)
      obtain ⟨Ao43,co43,eo43⟩:=Kd.jEa HO584.out
      (first | subst eo43 |(injection eo43 with f1_ f2_ f3_;have f4_:=f1_.symm;have f5_:=f3_.symm;clear f1_ f2_ f3_;subst f4_;subst f5_))
      obtain ⟨Ao44,co44,eo44⟩:=Kd.jEa HO587.out
      (first | subst eo44 |(injection eo44 with f1_ f2_ f3_;have f4_:=f1_.symm;have f5_:=f3_.symm;clear f1_ f2_ f3_;subst f4_;subst f5_))
      refine hK.out _ _ ⟨(jC BK578.out 0).trans rfl,(jC BK579.out 0).trans rfl⟩ (fun hHeld=>?_)
      clear hK K
      refine norm_ (a':=?_) ?_ ?_
      rotate_left
      ·show Act.put _ (some 25) _=_
       simp only [Act.put,List.setIfInBounds_toArray,List.set_cons_zero,List.set_cons_succ,jEb,i32_w]
       rfl
      refine one_ (i:=5) (N:=some 27) #[true,true,true,true,true,true,false] rfl rfl (by kernel_rfl) (by decide) (fun K hK=>?_)
      refine goes_ Tryd.func15 (by kernel_rfl) rfl #[.agg #[.slice Ao43 t582.length co43], .agg #[.slice Ao44 t585.length co44], .int .i64 a2] (by rfl) rfl rfl (aq) ?_
      with_reducible refine (jxa.calls k _ _ t582 _ _ t585 a2 t588 _ ?side1 ?side2 ?side3 ?side4 A22.out).mono ?_
      (case side1=>exact cq (Kd.jN HO584.out).2.2)
      (case side2=>exact (Kd.jN HO584.out).2.1)
      (case side3=>exact cq (Kd.jN HO587.out).2.2)
      (case side4=>exact (Kd.jN HO587.out).2.1)
      rintro e w45 ⟨rfl,hb⟩
      refine ⟨_,rfl,?_⟩
      replace HO584:=am (Kd.jfa (rq HO584.out) hb)
      replace HO587:=am (Kd.jfa (rq HO587.out) hb)
      replace BK578:=am (jc (g:=gb578) (o:=.cells #[.slice A0_0 l0_0.length c0_0] 41 (0,0)) (kq BK578.out) hb)
      replace BK579:=am (jc (g:=gb579) (o:=.cells #[.slice A1_0 l1_0.length c1_0] 44 (0,0)) (kq BK579.out) hb)
      replace HB:=am (jd (Y7) hb)
      (try clear hb)
      (try clear hb2)
      (try clear hk)
      (try clear hi)
      refine hK.out _ _ ⟨(jC BK578.out 0).trans rfl,(jC BK579.out 0).trans rfl⟩ (fun hHeld=>?_)
      clear hK K
      refine norm_ (a':=?_) ?_ ?_
      rotate_left
      ·show Act.put _ (some 27) _=_
       simp only [Act.put,List.setIfInBounds_toArray,List.set_cons_zero,List.set_cons_succ,jEb,i32_w]
       rfl
      refine pure_ (i:=6) (N:=some 8) (v:=?_) (a':=?_) #[true,true,true,true,true,true,true] rfl rfl (by kernel_rfl) (fun _ _ _ h=>h) (Or.inl ⟨by rfl,?_⟩) ?_ ?_
      rotate_left
      ·exact sb
      rotate_left
      ·exact sa
      refine done_ (by kernel_rfl) ?_
      have hcz46_0:=bc0 BK578.out
      have hfz46_0:=ja BK578.out 0
      try go_wp2_with (first |((with_reducible refine jB (f:=18) rfl ?_);refine gL (some 29) Tryd.func18 #[.agg #[.slice A0_0 l0_0.length c0_0]] ?_;(with_reducible refine (jV.calls k _ _ l0_0 t589 _ ?side1 ?side2 A23.out).mono ?_);(case side1=>exact cq (Kd.jD HR0_0.out HB.out));(case side2=>exact HC0_0.out);rintro e w47 ⟨v590,rfl,ho0,hb⟩;refine ⟨_,rfl,?_⟩;have HO591:=am (Kd.jGa (Kd.R_new' ho0 (Kd.R_lt (rq HO584.out))) (jE (Y7)));replace HO584:=am (Kd.R_elder' (rq HO584.out) (Kd.R_base ho0) hb);replace HO587:=am (Kd.jfa (rq HO587.out) hb);replace BK578:=am (jc (g:=gb578) (o:=.cells #[.slice A0_0 l0_0.length c0_0] 41 (0,0)) (kq BK578.out) hb);replace BK579:=am (jc (g:=gb579) (o:=.cells #[.slice A1_0 l1_0.length c1_0] 44 (0,0)) (kq BK579.out) hb);replace HB:=am (jd (Y7) hb);(try clear hb);(try clear hb2);(try clear hk);(try clear hi);(try clear ho0)) |((with_reducible refine jr (N:=9) rfl ?_);refine bE (N:=9) (cs:=#[.slice none 0 0]) (t:=25) ?_;intro gb592 hg w48 hbox hb;have BK592:=am (hbox);have GW592:=am ((Y100:w.heap.size≤gb592));have GE592:=am ((Y100:w.heap.size≤gb592));have NB578_592:=am ((Y42:gb578≠gb592));have NB592_578:=am ((Y43:gb592≠gb578));have NB579_592:=am ((by rw [hg];exact Nat.ne_of_lt (jT (g:=gb579) (o:=.cells #[.slice A1_0 l1_0.length c1_0] 44 (0,0)) (kq BK579.out)):gb579≠gb592));have NB592_579:=am ((by rw [hg];exact Nat.ne_of_gt (jT (g:=gb579) (o:=.cells #[.slice A1_0 l1_0.length c1_0] 44 (0,0)) (kq BK579.out)):gb592≠gb579));replace HO584:=am (Kd.jfa (rq HO584.out) hb);replace HO587:=am (Kd.jfa (rq HO587.out) hb);replace HO591:=am (Kd.jfa (rq HO591.out) hb);replace BK578:=am (jc (g:=gb578) (o:=.cells #[.slice A0_0 l0_0.length c0_0] 41 (0,0)) (kq BK578.out) hb);replace BK579:=am (jc (g:=gb579) (o:=.cells #[.slice A1_0 l1_0.length c1_0] 44 (0,0)) (kq BK579.out) hb);replace HB:=am (jd (Y7) hb);clear hb hbox hg;obtain ⟨Ao49,co49,eo49⟩:=Kd.jEa HO591.out;subst eo49;have hnb50:=NB592_578.out;have hnc50:=NB578_592.out;have hnb51:=NB592_579.out;have hnc51:=NB579_592.out;have hcz52_0:=bc0 BK592.out;have hfz52_0:=ja BK592.out 0;have hcz53_0:=bc0 BK579.out;have hfz53_0:=ja BK579.out 0) |((with_reducible refine jB (f:=19) rfl ?_);refine gL (some 31) Tryd.func19 #[.agg #[.slice A1_0 l1_0.length c1_0]] ?_;(with_reducible refine (jO.calls k _ _ l1_0 t593 _ ?side1 ?side2 A24.out).mono ?_);(case side1=>exact Kd.jD HR1_0.out (Y56));(case side2=>exact HC1_0.out);rintro e w54 ⟨v594,rfl,ho0,hb⟩;refine ⟨_,rfl,?_⟩;have HO595:=am (Kd.jGa (Kd.R_new' ho0 (Kd.R_lt (Y101))) (jE (Y56)));replace HO584:=am (Kd.jfa (by (with_reducible repeat (first | apply Kd.jpb | apply Kd.jyb | apply Kd.jWa));exact (Kd.jcb (Kd.R_far (p:=⟨gb592,0,none⟩) (Kd.jnb HO584.out BK592.out (by decide)) (fun _ hk=>hk.2) (.slice Ao49 t589.length co49)) (fun _ h_=>h_.1))) hb);replace HO587:=am (Kd.R_elder' (Y101) (Kd.R_base ho0) hb);replace HO591:=am (Kd.jfa (by (with_reducible repeat (first | apply Kd.jpb | apply Kd.jyb | apply Kd.jWa));exact (Kd.jcb (Kd.R_far (p:=⟨gb592,0,none⟩) (Kd.jnb HO591.out BK592.out (by decide)) (fun _ hk=>hk.2) (.slice Ao49 t589.length co49)) (fun _ h_=>h_.1))) hb);replace BK578:=am (jc (g:=gb578) (o:=.cells #[.slice A0_0 l0_0.length c0_0] 41 (0,0)) (by (with_reducible repeat (first | refine jm ?_ _ | refine jv ?_ | refine jw ?_ _));refine jma ?_ NB578_592.out _;(with_reducible repeat (first | refine jm ?_ _ | refine jv ?_ | refine jw ?_ _));exact BK578.out) hb);replace BK579:=am (jc (g:=gb579) (o:=.cells #[.slice A1_0 l1_0.length c1_0] 44 (0,0)) (by (with_reducible repeat (first | refine jm ?_ _ | refine jv ?_ | refine jw ?_ _));refine jma ?_ NB579_592.out _;(with_reducible repeat (first | refine jm ?_ _ | refine jv ?_ | refine jw ?_ _));exact BK579.out) hb);replace BK592:=am (jc (g:=gb592) (o:=.cells #[.slice Ao49 t589.length co49] 25 (0,0)) (by (with_reducible repeat (first | refine jm ?_ _ | refine jv ?_ | refine jw ?_ _));refine jDa (cs:=#[.slice none 0 0]) ?_ 0 _ rfl;(with_reducible repeat (first | refine jm ?_ _ | refine jv ?_ | refine jw ?_ _));exact BK592.out) hb);replace HB:=am (jd (Y56) hb);(try clear hb);(try clear hb2);(try clear hk);(try clear hi);(try clear ho0)) |((with_reducible refine jr (N:=10) rfl ?_);refine bE (N:=10) (cs:=#[.slice none 0 0]) (t:=28) ?_;intro gb596 hg w55 hbox hb;have BK596:=am (hbox);have GW596:=am ((Y102:w.heap.size≤gb596));have GE596:=am ((Y102:w.heap.size≤gb596));have NB578_596:=am ((Y42:gb578≠gb596));have NB596_578:=am ((Y43:gb596≠gb578));have NB579_596:=am ((by rw [hg];exact Nat.ne_of_lt (jT (g:=gb579) (o:=.cells #[.slice A1_0 l1_0.length c1_0] 44 (0,0)) (kq BK579.out)):gb579≠gb596));have NB596_579:=am ((by rw [hg];exact Nat.ne_of_gt (jT (g:=gb579) (o:=.cells #[.slice A1_0 l1_0.length c1_0] 44 (0,0)) (kq BK579.out)):gb596≠gb579));have NB592_596:=am ((by rw [hg];exact Nat.ne_of_lt (jT (g:=gb592) (o:=.cells #[.slice Ao49 t589.length co49] 25 (0,0)) (kq BK592.out)):gb592≠gb596));have NB596_592:=am ((by rw [hg];exact Nat.ne_of_gt (jT (g:=gb592) (o:=.cells #[.slice Ao49 t589.length co49] 25 (0,0)) (kq BK592.out)):gb596≠gb592));replace HO584:=am (Kd.jfa (rq HO584.out) hb);replace HO587:=am (Kd.jfa (rq HO587.out) hb);replace HO591:=am (Kd.jfa (rq HO591.out) hb);replace HO595:=am (Kd.jfa (rq HO595.out) hb);replace BK578:=am (jc (g:=gb578) (o:=.cells #[.slice A0_0 l0_0.length c0_0] 41 (0,0)) (kq BK578.out) hb);replace BK579:=am (jc (g:=gb579) (o:=.cells #[.slice A1_0 l1_0.length c1_0] 44 (0,0)) (kq BK579.out) hb);replace BK592:=am (jc (g:=gb592) (o:=.cells #[.slice Ao49 t589.length co49] 25 (0,0)) (kq BK592.out) hb);replace HB:=am (jd (Y56) hb);clear hb hbox hg;obtain ⟨Ao56,co56,eo56⟩:=Kd.jEa HO595.out;subst eo56;have hnb57:=NB596_578.out;have hnc57:=NB578_596.out;have hnb58:=NB596_579.out;have hnc58:=NB579_596.out;have hnb59:=NB596_592.out;have hnc59:=NB592_596.out;have hcz60_0:=bc0 BK596.out;have hfz60_0:=ja BK596.out 0;have hcz61_0:=bc0 BK592.out;have hfz61_0:=ja BK592.out 0) |((with_reducible refine jB (f:=11) rfl ?_);refine gL (some 35) Tryd.func11 #[.agg #[.slice Ao49 t589.length co49], .agg #[.slice Ao56 t593.length co56], .int .i64 a2] ?_;(with_reducible refine (jla.calls k _ _ t589 _ _ t593 a2 t597 _ ?side1 ?side2 ?side3 ?side4 A25.out).mono ?_);(case side1=>refine (Kd.jN (e:=99) (base:=w.heap.size) (ok:=fun k_=>(True∧some k_≠(.slice Ao43 t582.length co43:Value).ownBlock)) (n:=t589.length) (c:=co49) ?_).2.2;exact (Y103));(case side2=>exact (Kd.jN HO591.out).2.1);(case side3=>refine (Kd.jN (e:=66) (base:=w.heap.size) (ok:=fun k_=>(True∧some k_≠(.slice Ao44 t585.length co44:Value).ownBlock)) (n:=t593.length) (c:=co56) ?_).2.2;exact (Y104));(case side4=>exact (Kd.jN HO595.out).2.1);rintro e w62 ⟨rfl,hb⟩;refine ⟨_,rfl,?_⟩;replace HO584:=am (Kd.jfa (by (with_reducible repeat (first | apply Kd.jpb | apply Kd.jyb | apply Kd.jWa));exact (Kd.jcb (Kd.R_far (p:=⟨gb596,0,none⟩) (Kd.jnb HO584.out BK596.out (by decide)) (fun _ hk=>hk.2) (.slice Ao56 t593.length co56)) (fun _ h_=>h_.1))) hb);replace HO587:=am (Kd.jfa (by (with_reducible repeat (first | apply Kd.jpb | apply Kd.jyb | apply Kd.jWa));exact (Kd.jcb (Kd.R_far (p:=⟨gb596,0,none⟩) (Kd.jnb HO587.out BK596.out (by decide)) (fun _ hk=>hk.2) (.slice Ao56 t593.length co56)) (fun _ h_=>h_.1))) hb);replace HO591:=am (Kd.jfa (Y103) hb);replace HO595:=am (Kd.jfa (Y104) hb);replace BK578:=am (jc (g:=gb578) (o:=.cells #[.slice A0_0 l0_0.length c0_0] 41 (0,0)) (by (with_reducible repeat (first | refine jm ?_ _ | refine jv ?_ | refine jw ?_ _));refine jma ?_ NB578_596.out _;(with_reducible repeat (first | refine jm ?_ _ | refine jv ?_ | refine jw ?_ _));exact BK578.out) hb);replace BK579:=am (jc (g:=gb579) (o:=.cells #[.slice A1_0 l1_0.length c1_0] 44 (0,0)) (by (with_reducible repeat (first | refine jm ?_ _ | refine jv ?_ | refine jw ?_ _));refine jma ?_ NB579_596.out _;(with_reducible repeat (first | refine jm ?_ _ | refine jv ?_ | refine jw ?_ _));exact BK579.out) hb);replace BK592:=am (jc (g:=gb592) (o:=.cells #[.slice Ao49 t589.length co49] 25 (0,0)) (by (with_reducible repeat (first | refine jm ?_ _ | refine jv ?_ | refine jw ?_ _));refine jma ?_ NB592_596.out _;(with_reducible repeat (first | refine jm ?_ _ | refine jv ?_ | refine jw ?_ _));exact BK592.out) hb);replace BK596:=am (jc (g:=gb596) (o:=.cells #[.slice Ao56 t593.length co56] 28 (0,0)) (by (with_reducible repeat (first | refine jm ?_ _ | refine jv ?_ | refine jw ?_ _));refine jDa (cs:=#[.slice none 0 0]) ?_ 0 _ rfl;(with_reducible repeat (first | refine jm ?_ _ | refine jv ?_ | refine jw ?_ _));exact BK596.out) hb);replace HB:=am (jd (Y17) hb);(try clear hb);(try clear hb2);(try clear hk);(try clear hi)))
      replace HO584:=am (Kd.jWa HO584.out)
      replace HO587:=am (Kd.jWa HO587.out)
      replace HO591:=am (Kd.jWa HO591.out)
      replace HO595:=am (Kd.jWa HO595.out)
      replace BK578:=am (jv BK578.out)
      replace BK579:=am (jv BK579.out)
      replace BK592:=am (jv BK592.out)
      replace BK596:=am (jv BK596.out)
      replace HB:=am (jk HB.out)
      refine start_ (n:=5) (S:=fun w'=>w'.cell? ⟨gb592,0,none⟩=some (.slice Ao49 t589.length co49)∧w'.cell? ⟨gb578,0,none⟩=some (.slice A0_0 l0_0.length c0_0)) (ds:=[]) #[false,false,false,false,false] (by kernel_rfl) rfl rfl ⟨(jC BK592.out 0).trans rfl,(jC BK578.out 0).trans rfl⟩ (fun hHeld=>?_)
      generalize w62.drew=w63 at HO584 HO587 HO591 HO595 BK578 BK579 BK592 BK596 HB hHeld ⊢
      refine jzb (i:=0) (N:=some 39) (v:=?_) (a':=?_) #[true,false,false,false,false] rfl rfl (by kernel_rfl) (fun _ _ _ h=>h) (Or.inl ⟨by rfl,?_⟩) hHeld ?_ ?_
      rotate_left
      ·rintro w' ⟨s0,s1⟩
       go_simp
       with_reducible rfl
      rotate_left
      ·exact sa
      refine jzb (i:=1) (N:=some 40) (v:=?_) (a':=?_) #[true,true,false,false,false] rfl rfl (by kernel_rfl) (fun _ _ _ h=>h) (Or.inl ⟨by rfl,?_⟩) hHeld ?_ ?_
      rotate_left
      ·rintro w' ⟨s0,s1⟩
       go_simp
       with_reducible rfl
      rotate_left
      ·exact sa
      refine one_ (i:=2) (N:=some 41) #[true,true,true,false,false] rfl rfl (by kernel_rfl) (by decide) (fun K hK=>?_)
      refine goes_ Tryd.func18 (by kernel_rfl) rfl #[.agg #[.slice A0_0 l0_0.length c0_0]] (by rfl) rfl rfl (aq) ?_
      with_reducible refine (jV.calls k _ _ l0_0 t598 _ ?side1 ?side2 A27.out).mono ?_
      (case side1=>exact cq (Kd.jD HR0_0.out HB.out))
      (case side2=>exact HC0_0.out)
      rintro e w64 ⟨v599,rfl,ho0,hb⟩
      refine ⟨_,rfl,?_⟩
      have HO600:=am (Kd.jGa (Kd.R_new' (Kd.R_new' ho0 (Kd.R_lt (rq HO584.out))) (Kd.R_lt (rq HO591.out))) (jE (Y17)))
      replace HO584:=am (Kd.R_elder' (rq HO584.out) (Kd.R_base ho0) hb)
      replace HO587:=am (Kd.jfa (rq HO587.out) hb)
      replace HO591:=am (Kd.R_elder' (rq HO591.out) (Kd.R_base ho0) hb)
      replace HO595:=am (Kd.jfa (rq HO595.out) hb)
      replace BK578:=am (jc (g:=gb578) (o:=.cells #[.slice A0_0 l0_0.length c0_0] 41 (0,0)) (kq BK578.out) hb)
      replace BK579:=am (jc (g:=gb579) (o:=.cells #[.slice A1_0 l1_0.length c1_0] 44 (0,0)) (kq BK579.out) hb)
      replace BK592:=am (jc (g:=gb592) (o:=.cells #[.slice Ao49 t589.length co49] 25 (0,0)) (kq BK592.out) hb)
      replace BK596:=am (jc (g:=gb596) (o:=.cells #[.slice Ao56 t593.length co56] 28 (0,0)) (kq BK596.out) hb)
      replace HB:=am (jd (Y17) hb)
      (try clear hb)
      (try clear hb2)
      (try clear hk)
      (try clear hi)
      (try clear ho0)
      obtain ⟨Ao65,co65,eo65⟩:=Kd.jEa HO600.out
      (first | subst eo65 |(injection eo65 with f1_ f2_ f3_;have f4_:=f1_.symm;have f5_:=f3_.symm;clear f1_ f2_ f3_;subst f4_;subst f5_))
      refine hK.out _ _ ⟨(jC BK592.out 0).trans rfl,(jC BK578.out 0).trans rfl⟩ (fun hHeld=>?_)
      clear hK K
      refine norm_ (a':=?_) ?_ ?_
      rotate_left
      ·show Act.put _ (some 41) _=_
       simp only [Act.put,List.setIfInBounds_toArray,List.set_cons_zero,List.set_cons_succ,jEb,i32_w]
       rfl
      refine one_ (i:=3) (N:=some 42) #[true,true,true,true,false] rfl rfl (by kernel_rfl) (by decide) (fun K hK=>?_)
      refine goes_ Tryd.func20 (by kernel_rfl) rfl #[.agg #[.slice Ao49 t589.length co49], .agg #[.slice Ao65 t598.length co65]] (by rfl) rfl rfl (aq) ?_
      with_reducible refine (jwa.calls k _ _ t589 _ _ t598 true _ ?side1 ?side2 ?side3 ?side4 A28.out).mono ?_
      (case side1=>exact cq (Kd.jN HO591.out).2.2)
      (case side2=>exact (Kd.jN HO591.out).2.1)
      (case side3=>exact cq (Kd.jN HO600.out).2.2)
      (case side4=>exact (Kd.jN HO600.out).2.1)
      rintro e w66 ⟨rfl,hb⟩
      refine ⟨_,rfl,?_⟩
      replace HO584:=am (Kd.jfa (rq HO584.out) hb)
      replace HO587:=am (Kd.jfa (rq HO587.out) hb)
      replace HO591:=am (Kd.jfa (rq HO591.out) hb)
      replace HO595:=am (Kd.jfa (rq HO595.out) hb)
      replace HO600:=am (Kd.jfa (rq HO600.out) hb)
      replace BK578:=am (jc (g:=gb578) (o:=.cells #[.slice A0_0 l0_0.length c0_0] 41 (0,0)) (kq BK578.out) hb)
      replace BK579:=am (jc (g:=gb579) (o:=.cells #[.slice A1_0 l1_0.length c1_0] 44 (0,0)) (kq BK579.out) hb)
      replace BK592:=am (jc (g:=gb592) (o:=.cells #[.slice Ao49 t589.length co49] 25 (0,0)) (kq BK592.out) hb)
      replace BK596:=am (jc (g:=gb596) (o:=.cells #[.slice Ao56 t593.length co56] 28 (0,0)) (kq BK596.out) hb)
      replace HB:=am (jd (Y17) hb)
      (try clear hb)
      (try clear hb2)
      (try clear hk)
      (try clear hi)
      refine hK.out _ _ ⟨(jC BK592.out 0).trans rfl,(jC BK578.out 0).trans rfl⟩ (fun hHeld=>?_)
      clear hK K
      refine norm_ (a':=?_) ?_ ?_
      rotate_left
      ·show Act.put _ (some 42) _=_
       simp only [Act.put,List.setIfInBounds_toArray,List.set_cons_zero,List.set_cons_succ,jEb,i32_w]
       rfl
      refine pure_ (i:=4) (N:=some 43) (v:=?_) (a':=?_) #[true,true,true,true,true] rfl rfl (by kernel_rfl) (fun _ _ _ h=>h) (Or.inl ⟨by rfl,?_⟩) ?_ ?_
      rotate_left
      ·exact sb
      rotate_left
      ·exact sa
      refine done_ (by kernel_rfl) ?_
      try go_wp2
      replace HO584:=am (Kd.jWa HO584.out)
      replace HO587:=am (Kd.jWa HO587.out)
      replace HO591:=am (Kd.jWa HO591.out)
      replace HO595:=am (Kd.jWa HO595.out)
      replace HO600:=am (Kd.jWa HO600.out)
      replace BK578:=am (jv BK578.out)
      replace BK579:=am (jv BK579.out)
      replace BK592:=am (jv BK592.out)
      replace BK596:=am (jv BK596.out)
      replace HB:=am (jk HB.out)
      refine start_ (n:=5) (S:=fun w'=>w'.cell? ⟨gb596,0,none⟩=some (.slice Ao56 t593.length co56)∧w'.cell? ⟨gb579,0,none⟩=some (.slice A1_0 l1_0.length c1_0)) (ds:=[]) #[false,false,false,false,false] (by kernel_rfl) rfl rfl ⟨(jC BK596.out 0).trans rfl,(jC BK579.out 0).trans rfl⟩ (fun hHeld=>?_)
      generalize w66.drew=w67 at HO584 HO587 HO591 HO595 HO600 BK578 BK579 BK592 BK596 HB hHeld ⊢
      refine jzb (i:=0) (N:=some 44) (v:=?_) (a':=?_) #[true,false,false,false,false] rfl rfl (by kernel_rfl) (fun _ _ _ h=>h) (Or.inl ⟨by rfl,?_⟩) hHeld ?_ ?_
      rotate_left
      ·rintro w' ⟨s0,s1⟩
       go_simp
       with_reducible rfl
      rotate_left
      ·exact sa
      refine jzb (i:=1) (N:=some 45) (v:=?_) (a':=?_) #[true,true,false,false,false] rfl rfl (by kernel_rfl) (fun _ _ _ h=>h) (Or.inl ⟨by rfl,?_⟩) hHeld ?_ ?_
      rotate_left
      ·rintro w' ⟨s0,s1⟩
       go_simp
       with_reducible rfl
      rotate_left
      ·exact sa
      refine one_ (i:=2) (N:=some 46) #[true,true,true,false,false] rfl rfl (by kernel_rfl) (by decide) (fun K hK=>?_)
      refine goes_ Tryd.func19 (by kernel_rfl) rfl #[.agg #[.slice A1_0 l1_0.length c1_0]] (by rfl) rfl rfl (aq) ?_
      with_reducible refine (jO.calls k _ _ l1_0 t602 _ ?side1 ?side2 A30.out).mono ?_
      (case side1=>exact cq (Kd.jD HR1_0.out HB.out))
      (case side2=>exact HC1_0.out)
      rintro e w68 ⟨v603,rfl,ho0,hb⟩
      refine ⟨_,rfl,?_⟩
      have HO604:=am (Kd.jGa (Kd.R_new' (Kd.R_new' ho0 (Kd.R_lt (rq HO587.out))) (Kd.R_lt (rq HO595.out))) (jE (Y17)))
      replace HO584:=am (Kd.jfa (rq HO584.out) hb)
      replace HO587:=am (Kd.R_elder' (rq HO587.out) (Kd.R_base ho0) hb)
      replace HO591:=am (Kd.jfa (rq HO591.out) hb)
      replace HO595:=am (Kd.R_elder' (rq HO595.out) (Kd.R_base ho0) hb)
      replace HO600:=am (Kd.jfa (rq HO600.out) hb)
      replace BK578:=am (jc (g:=gb578) (o:=.cells #[.slice A0_0 l0_0.length c0_0] 41 (0,0)) (kq BK578.out) hb)
      replace BK579:=am (jc (g:=gb579) (o:=.cells #[.slice A1_0 l1_0.length c1_0] 44 (0,0)) (kq BK579.out) hb)
      replace BK592:=am (jc (g:=gb592) (o:=.cells #[.slice Ao49 t589.length co49] 25 (0,0)) (kq BK592.out) hb)
      replace BK596:=am (jc (g:=gb596) (o:=.cells #[.slice Ao56 t593.length co56] 28 (0,0)) (kq BK596.out) hb)
      replace HB:=am (jd (Y17) hb)
      (try clear hb)
      (try clear hb2)
      (try clear hk)
      (try clear hi)
      (try clear ho0)
      obtain ⟨Ao69,co69,eo69⟩:=Kd.jEa HO604.out
      (first | subst eo69 |(injection eo69 with f1_ f2_ f3_;have f4_:=f1_.symm;have f5_:=f3_.symm;clear f1_ f2_ f3_;subst f4_;subst f5_))
      refine hK.out _ _ ⟨(jC BK596.out 0).trans rfl,(jC BK579.out 0).trans rfl⟩ (fun hHeld=>?_)
      clear hK K
      refine norm_ (a':=?_) ?_ ?_
      rotate_left
      ·show Act.put _ (some 46) _=_
       simp only [Act.put,List.setIfInBounds_toArray,List.set_cons_zero,List.set_cons_succ,jEb,i32_w]
       rfl
      refine one_ (i:=3) (N:=some 47) #[true,true,true,true,false] rfl rfl (by kernel_rfl) (by decide) (fun K hK=>?_)
      refine goes_ Tryd.func21 (by kernel_rfl) rfl #[.agg #[.slice Ao56 t593.length co56], .agg #[.slice Ao69 t602.length co69]] (by rfl) rfl rfl (aq) ?_
      with_reducible refine (joa.calls k _ _ t593 _ _ t602 true _ ?side1 ?side2 ?side3 ?side4 A31.out).mono ?_
      (case side1=>exact cq (Kd.jN HO595.out).2.2)
      (case side2=>exact (Kd.jN HO595.out).2.1)
      (case side3=>exact cq (Kd.jN HO604.out).2.2)
      (case side4=>exact (Kd.jN HO604.out).2.1)
      rintro e w70 ⟨rfl,hb⟩
      refine ⟨_,rfl,?_⟩
      replace HO584:=am (Kd.jfa (rq HO584.out) hb)
      replace HO587:=am (Kd.jfa (rq HO587.out) hb)
      replace HO591:=am (Kd.jfa (rq HO591.out) hb)
      replace HO595:=am (Kd.jfa (rq HO595.out) hb)
      replace HO600:=am (Kd.jfa (rq HO600.out) hb)
      replace HO604:=am (Kd.jfa (rq HO604.out) hb)
      replace BK578:=am (jc (g:=gb578) (o:=.cells #[.slice A0_0 l0_0.length c0_0] 41 (0,0)) (kq BK578.out) hb)
      replace BK579:=am (jc (g:=gb579) (o:=.cells #[.slice A1_0 l1_0.length c1_0] 44 (0,0)) (kq BK579.out) hb)
      replace BK592:=am (jc (g:=gb592) (o:=.cells #[.slice Ao49 t589.length co49] 25 (0,0)) (kq BK592.out) hb)
      replace BK596:=am (jc (g:=gb596) (o:=.cells #[.slice Ao56 t593.length co56] 28 (0,0)) (kq BK596.out) hb)
      replace HB:=am (jd (Y17) hb)
      (try clear hb)
      (try clear hb2)
      (try clear hk)
      (try clear hi)
      refine hK.out _ _ ⟨(jC BK596.out 0).trans rfl,(jC BK579.out 0).trans rfl⟩ (fun hHeld=>?_)
      clear hK K
      refine norm_ (a':=?_) ?_ ?_
      rotate_left
      ·show Act.put _ (some 47) _=_
       simp only [Act.put,List.setIfInBounds_toArray,List.set_cons_zero,List.set_cons_succ,jEb,i32_w]
       rfl
      refine pure_ (i:=4) (N:=some 48) (v:=?_) (a':=?_) #[true,true,true,true,true] rfl rfl (by kernel_rfl) (fun _ _ _ h=>h) (Or.inl ⟨by rfl,?_⟩) ?_ ?_
      rotate_left
      ·exact sb
      rotate_left
      ·exact sa
      refine done_ (by kernel_rfl) ?_
      try go_wp2
      go_ret
      exact ⟨Y1,Y17⟩
     ·replace c32:=Bool.eq_false_iff.mpr c32
      subst c32
      have H1:(some false)=some r:=by rw [if_neg (show ¬ (false=true) by decide)] at H;exact H
      clear H
      have H:=H1
      clear H1
      exact absurd ((Option.some.inj H).trans hT) Bool.false_ne_true
    ·replace c29:=Bool.eq_false_iff.mpr c29
     subst c29
     have H1:(some false)=some r:=by rw [if_neg (show ¬ (false=true) by decide)] at H;exact H
     clear H
     have H:=H1
     clear H1
     exact absurd ((Option.some.inj H).trans hT) Bool.false_ne_true
   ·rw [if_neg c26] at H
    have c26b0:(t597.toList == t588.toList)=false:=beq_eq_false_iff_ne.mpr c26
    have c26b1:(t597.toList != t588.toList)=true:=bne_iff_ne.mpr c26
    exact absurd ((Option.some.inj H).trans hT) Bool.false_ne_true
end Go.Proofs.YteibechlncphnaaDoor.P
end
