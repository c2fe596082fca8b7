/- One part of the proofs on this program: functions of the program as plain functions, that the code comes to them, and facts on them. -/
import Derived.Test.YteibechlncphnaaDoorYAll1
import Derived.Test.YteibechlncphnaaDoorYAll3
import Derived.Test.YteibechlncphnaaDoorYWAuto
section
namespace Go.Proofs.YteibechlncphnaaDoor.P
open Go.RowKit Go.Proofs.YteibechlncphnaaDoorW.PrintWords Go.Proofs.YteibechlncphnaaDoorW.PrintLast Go.Proofs.YteibechlncphnaaDoorW.PrintMore
attribute [local go_sem] jS jQ jba jaa jK jJ jR jP jg
set_option linter.unusedVariables false
set_option linter.unusedSimpArgs false
def jxa.f (k : Nat) (l0_0 : List (S99)) (l1_0 : List (S66)) (a2 : Int) : Option (ByteArray) := (jIa.f k l0_0 l1_0 a2).bind fun t506 => (if t506 = true then ((jl.f k l0_0 l1_0 a2).bind fun t507 => (some t507)) else (some (⟨#[]⟩ : ByteArray)))
set_option maxHeartbeats 8000000 in
set_option maxRecDepth 100000 in
theorem jxa.calls (k : Nat) (A0_0 : Option Addr) (c0_0 : Nat) (l0_0 : List (S99)) (A1_0 : Option Addr) (c1_0 : Nat) (l1_0 : List (S66)) (a2 : Int) (r : ByteArray) (w : World) (hr0_0 : Kd.C k99 w A0_0 l0_0.length l0_0) (hc0_0 : l0_0.length ≤ c0_0) (hr1_0 : Kd.C k66 w A1_0 l1_0.length l1_0) (hc1_0 : l1_0.length ≤ c1_0) (h : jxa.f k l0_0 l1_0 a2 = some r) :
  Calls Tryd.prog 15 #[.agg #[.slice A0_0 l0_0.length c0_0], .agg #[.slice A1_0 l1_0.length c1_0], .int .i64 a2] w fun e w'=>e=.returned (.string r)∧Below w.heap.size w w':=by
 have hu25:=Tryd.underlying25
 have hu28:=Tryd.underlying28
 have HR0_0:=am hr0_0
 have HC0_0:=am hc0_0
 clear hr0_0 hc0_0
 have HR1_0:=am hr1_0
 have HC1_0:=am hc1_0
 clear hr1_0 hc1_0
 have HB:=am (Below.refl w.heap.size w)
 have H:((jIa.f k l0_0 l1_0 a2).bind fun t506=>(if t506=true then ((jl.f k l0_0 l1_0 a2).bind fun t507=>(some t507)) else (some (⟨#[]⟩:ByteArray))))=some r:=h
 clear h
 replace H:=bzS H
 obtain ⟨t506,A40,H⟩:=H
 replace H:(if t506=true then ((jl.f k l0_0 l1_0 a2).bind fun t507=>(some t507)) else (some (⟨#[]⟩:ByteArray)))=some r:=H
 have A4:=am A40
 clear A40
 by_cases c5:t506=true
 ·subst c5
  have H1:((jl.f k l0_0 l1_0 a2).bind fun t507=>(some t507))=some r:=by rw [if_pos rfl] at H;exact H
  clear H
  have H:=H1
  clear H1
  replace H:=bzS H
  obtain ⟨t507,A60,H⟩:=H
  replace H:(some t507)=some r:=H
  have A6:=am A60
  clear A60
  obtain rfl:=Option.some.inj H
  go_enter Tryd.func15,Tryd.ntmps15
  go_wp2_with (first |((with_reducible refine jr (N:=3) rfl ?_);refine bE (N:=3) (cs:=#[.slice A0_0 l0_0.length c0_0]) (t:=25) ?_;intro gb504 hg w7 hbox hb;have BK504:=am (hbox);have GW504:=am ((Y0:w.heap.size≤gb504));have GE504:=am ((Y0:w.heap.size≤gb504));replace HB:=am (jd (bq) hb);clear hb hbox hg) |((with_reducible refine jr (N:=4) rfl ?_);refine bE (N:=4) (cs:=#[.slice A1_0 l1_0.length c1_0]) (t:=28) ?_;intro gb505 hg w8 hbox hb;have BK505:=am (hbox);have GW505:=am ((Y50:w.heap.size≤gb505));have GE505:=am ((Y50:w.heap.size≤gb505));have NB504_505:=am ((by rw [hg];exact Nat.ne_of_lt (jT (g:=gb504) (o:=.cells #[.slice A0_0 l0_0.length c0_0] 25 (0,0)) (kq BK504.out)):gb504≠gb505));have NB505_504:=am ((by rw [hg];exact Nat.ne_of_gt (jT (g:=gb504) (o:=.cells #[.slice A0_0 l0_0.length c0_0] 25 (0,0)) (kq BK504.out)):gb505≠gb504));replace BK504:=am (jc (g:=gb504) (o:=.cells #[.slice A0_0 l0_0.length c0_0] 25 (0,0)) (kq BK504.out) hb);replace HB:=am (jd (Y85) hb);clear hb hbox hg;have hnb9:=NB504_505.out;have hnc9:=NB505_504.out;have hcz10_0:=bc0 BK504.out;have hfz10_0:=ja BK504.out 0;have hcz11_0:=bc0 BK505.out;have hfz11_0:=ja BK505.out 0) |((with_reducible refine jB (f:=31) rfl ?_);refine gL (some 10) Tryd.func31 #[.agg #[.slice A0_0 l0_0.length c0_0], .agg #[.slice A1_0 l1_0.length c1_0], .int .i64 a2] ?_;(with_reducible refine (jIa.calls k _ _ l0_0 _ _ l1_0 a2 true _ ?side1 ?side2 ?side3 ?side4 A4.out).mono ?_);(case side1=>exact cq (Kd.jD HR0_0.out HB.out));(case side2=>exact HC0_0.out);(case side3=>exact cq (Kd.jD HR1_0.out HB.out));(case side4=>exact HC1_0.out);rintro e w12 ⟨rfl,hb⟩;refine ⟨_,rfl,?_⟩;replace BK504:=am (jc (g:=gb504) (o:=.cells #[.slice A0_0 l0_0.length c0_0] 25 (0,0)) (kq BK504.out) hb);replace BK505:=am (jc (g:=gb505) (o:=.cells #[.slice A1_0 l1_0.length c1_0] 28 (0,0)) (kq BK505.out) hb);replace HB:=am (jd (Y41) hb);(try clear hb);(try clear hb2);(try clear hk);(try clear hi);have hcz13_0:=bc0 BK504.out;have hfz13_0:=ja BK504.out 0;have hcz14_0:=bc0 BK505.out;have hfz14_0:=ja BK505.out 0) |((with_reducible refine jB (f:=36) rfl ?_);refine gL (some 15) Tryd.func36 #[.agg #[.slice A0_0 l0_0.length c0_0], .agg #[.slice A1_0 l1_0.length c1_0], .int .i64 a2] ?_;(with_reducible refine (jl.calls k _ _ l0_0 _ _ l1_0 a2 t507 _ ?side1 ?side2 ?side3 ?side4 A6.out).mono ?_);(case side1=>exact cq (Kd.jD HR0_0.out HB.out));(case side2=>exact HC0_0.out);(case side3=>exact cq (Kd.jD HR1_0.out HB.out));(case side4=>exact HC1_0.out);rintro e w15 ⟨rfl,hb⟩;refine ⟨_,rfl,?_⟩;replace BK504:=am (jc (g:=gb504) (o:=.cells #[.slice A0_0 l0_0.length c0_0] 25 (0,0)) (kq BK504.out) hb);replace BK505:=am (jc (g:=gb505) (o:=.cells #[.slice A1_0 l1_0.length c1_0] 28 (0,0)) (kq BK505.out) hb);replace HB:=am (jd (Y41) hb);(try clear hb);(try clear hb2);(try clear hk);(try clear hi)))
  go_ret
  exact ⟨Y1,Y41⟩
 ·replace c5:=Bool.eq_false_iff.mpr c5
  subst c5
  have H1:(some (⟨#[]⟩:ByteArray))=some r:=by rw [if_neg (show ¬ (false=true) by decide)] at H;exact H
  clear H
  have H:=H1
  clear H1
  obtain rfl:=Option.some.inj H
  go_enter Tryd.func15,Tryd.ntmps15
  go_wp2_with (first |((with_reducible refine jr (N:=3) rfl ?_);refine bE (N:=3) (cs:=#[.slice A0_0 l0_0.length c0_0]) (t:=25) ?_;intro gb504 hg w16 hbox hb;have BK504:=am (hbox);have GW504:=am ((Y0:w.heap.size≤gb504));have GE504:=am ((Y0:w.heap.size≤gb504));replace HB:=am (jd (bq) hb);clear hb hbox hg) |((with_reducible refine jr (N:=4) rfl ?_);refine bE (N:=4) (cs:=#[.slice A1_0 l1_0.length c1_0]) (t:=28) ?_;intro gb505 hg w17 hbox hb;have BK505:=am (hbox);have GW505:=am ((Y50:w.heap.size≤gb505));have GE505:=am ((Y50:w.heap.size≤gb505));have NB504_505:=am ((by rw [hg];exact Nat.ne_of_lt (jT (g:=gb504) (o:=.cells #[.slice A0_0 l0_0.length c0_0] 25 (0,0)) (kq BK504.out)):gb504≠gb505));have NB505_504:=am ((by rw [hg];exact Nat.ne_of_gt (jT (g:=gb504) (o:=.cells #[.slice A0_0 l0_0.length c0_0] 25 (0,0)) (kq BK504.out)):gb505≠gb504));replace BK504:=am (jc (g:=gb504) (o:=.cells #[.slice A0_0 l0_0.length c0_0] 25 (0,0)) (kq BK504.out) hb);replace HB:=am (jd (Y85) hb);clear hb hbox hg;have hnb18:=NB504_505.out;have hnc18:=NB505_504.out;have hcz19_0:=bc0 BK504.out;have hfz19_0:=ja BK504.out 0;have hcz20_0:=bc0 BK505.out;have hfz20_0:=ja BK505.out 0) |((with_reducible refine jB (f:=31) rfl ?_);refine gL (some 10) Tryd.func31 #[.agg #[.slice A0_0 l0_0.length c0_0], .agg #[.slice A1_0 l1_0.length c1_0], .int .i64 a2] ?_;(with_reducible refine (jIa.calls k _ _ l0_0 _ _ l1_0 a2 false _ ?side1 ?side2 ?side3 ?side4 A4.out).mono ?_);(case side1=>exact cq (Kd.jD HR0_0.out HB.out));(case side2=>exact HC0_0.out);(case side3=>exact cq (Kd.jD HR1_0.out HB.out));(case side4=>exact HC1_0.out);rintro e w21 ⟨rfl,hb⟩;refine ⟨_,rfl,?_⟩;replace BK504:=am (jc (g:=gb504) (o:=.cells #[.slice A0_0 l0_0.length c0_0] 25 (0,0)) (kq BK504.out) hb);replace BK505:=am (jc (g:=gb505) (o:=.cells #[.slice A1_0 l1_0.length c1_0] 28 (0,0)) (kq BK505.out) hb);replace HB:=am (jd (Y41) hb);(try clear hb);(try clear hb2);(try clear hk);(try clear hi)))
  go_ret
  exact ⟨Y1,Y41⟩
def jVa.f (a0_0 : ByteArray) (a0_1 : Int) (a1 : Int) : Option (Int) := if (wrap64 (a1 - (a0_0.size : Int))) < 0 then (some (-1)) else (some (wrap64 (a1 - (a0_0.size : Int))))
set_option maxHeartbeats 8000000 in
set_option maxRecDepth 100000 in
theorem jVa.calls (a0_0 : ByteArray) (a0_1 : Int) (a1 : Int) (r : Int) (w : World) (h : jVa.f a0_0 a0_1 a1 = some r) :
  Calls Tryd.prog 62 #[.agg #[.string a0_0, .int .i64 a0_1], .int .i64 a1] w fun e w'=>e=.returned (.int .i64 r)∧Below w.heap.size w w':=by
 have hu98:=Tryd.underlying98
 have HB:=am (Below.refl w.heap.size w)
 have H:(if (wrap64 (a1 - (a0_0.size:Int)))<0 then (some (-1)) else (some (wrap64 (a1 - (a0_0.size:Int)))))=some r:=h
 clear h
 by_cases c3:(wrap64 (a1 - (a0_0.size:Int)))<0
 ·rw [if_pos c3] at H
  have c3b0:decide ((wrap64 (a1 - (a0_0.size:Int)))<0)=true:=dzT c3
  clear c3
  obtain rfl:=Option.some.inj H
  go_enter Tryd.func62,Tryd.ntmps62
  go_wp2_with (first |((with_reducible refine jr (N:=2) rfl ?_);refine bE (N:=2) (cs:=#[.string a0_0, .int .i64 a0_1]) (t:=98) ?_;intro gb520 hg w4 hbox hb;have BK520:=am (hbox);have GW520:=am ((Y0:w.heap.size≤gb520));have GE520:=am ((Y0:w.heap.size≤gb520));replace HB:=am (jd (bq) hb);clear hb hbox hg;have hcz5_0:=bc0 BK520.out;have hcz5_1:=bc1 BK520.out;have hfz5_0:=ja BK520.out 0;have hfz5_1:=ja BK520.out 1))
  go_ret
  exact ⟨Y1,Y86⟩
 ·rw [if_neg c3] at H
  have c3b0:decide ((wrap64 (a1 - (a0_0.size:Int)))<0)=false:=dzF c3
  clear c3
  obtain rfl:=Option.some.inj H
  go_enter Tryd.func62,Tryd.ntmps62
  go_wp2_with (first |((with_reducible refine jr (N:=2) rfl ?_);refine bE (N:=2) (cs:=#[.string a0_0, .int .i64 a0_1]) (t:=98) ?_;intro gb520 hg w6 hbox hb;have BK520:=am (hbox);have GW520:=am ((Y0:w.heap.size≤gb520));have GE520:=am ((Y0:w.heap.size≤gb520));replace HB:=am (jd (bq) hb);clear hb hbox hg;have hcz7_0:=bc0 BK520.out;have hcz7_1:=bc1 BK520.out;have hfz7_0:=ja BK520.out 0;have hfz7_1:=ja BK520.out 1))
  go_ret
  exact ⟨Y1,Y86⟩
def jZ.l0 : Nat → List (S98) → Int → Int → Option (Int)
 | 0,_,_,_=>none
 | k+1,x0,x1,x5=>if x5<(x0.length:Int) then (if 0≤x5 then ((jVa.f ((jbb x0 x5).f0) ((jbb x0 x5).f1) x1).bind fun t522=>(if t522<0 then (some (-1)) else (jZ.l0 k x0 t522 (wrap64 (x5+1))))) else (none)) else (some x1)
def jZ.f (k : Nat) (l0 : List (S98)) (a1 : Int) : Option (Int) := if (wrap64 (a1 - (l0.length : Int))) < 0 then (some (-1)) else (jZ.l0 k l0 (wrap64 (a1 - (l0.length : Int))) 0)
set_option maxHeartbeats 8000000 in
set_option maxRecDepth 100000 in
theorem jZ.calls (k : Nat) (A0 : Option Addr) (c0 : Nat) (l0 : List (S98)) (a1 : Int) (r : Int) (w : World) (hr0 : Kd.C k98 w A0 l0.length l0) (hc0 : l0.length ≤ c0) (h : jZ.f k l0 a1 = some r) :
  Calls Tryd.prog 37 #[.slice A0 l0.length c0, .int .i64 a1] w fun e w'=>e=.returned (.int .i64 r)∧Below w.heap.size w w':=by
 have hu98:=Tryd.underlying98
 have HR0:=am hr0
 have HC0:=am hc0
 clear hr0 hc0
 have HB:=am (Below.refl w.heap.size w)
 have H:(if (wrap64 (a1 - (l0.length:Int)))<0 then (some (-1)) else (jZ.l0 k l0 (wrap64 (a1 - (l0.length:Int))) 0))=some r:=h
 clear h
 by_cases c3:(wrap64 (a1 - (l0.length:Int)))<0
 ·rw [if_pos c3] at H
  have c3b0:decide ((wrap64 (a1 - (l0.length:Int)))<0)=true:=dzT c3
  clear c3
  obtain rfl:=Option.some.inj H
  go_enter Tryd.func37,Tryd.ntmps37
  go_wp2
  go_ret
  exact ⟨Y1,bq⟩
 ·rw [if_neg c3] at H
  have c3b0:decide ((wrap64 (a1 - (l0.length:Int)))<0)=false:=dzF c3
  clear c3
  have H':=am H
  clear H
  go_enter Tryd.func37,Tryd.ntmps37
  go_wp2
  go_loopg [1,5] k (fun kq v1 v5 w'=>∃ (x1_1:Int) (x5_1:Int),v1=.int .i64 x1_1∧v5=.int .i64 x5_1∧jH (jZ.l0 kq l0 x1_1 x5_1=some r)∧jH (kq≤k)∧jH (Below w.heap.size w w'))
  case atStart=>exact ⟨(wrap64 (a1 - (l0.length:Int))),(0),(sq),(sq),H',⟨Nat.le_refl _⟩,⟨bq⟩⟩
  case round =>
   clear H'
   try clear p2
   try clear c3
   try clear c3b0
   obtain ⟨x1_1,x5_1,rfl,rfl,HA,HK1,HB⟩:=hrel
   cases gk with
   | zero=>exact absurd HA.out (by simp [jZ.l0])
   | succ k1 =>
    have H:=HA.out
    clear HA
    simp only [jZ.l0] at H
    by_cases c4:x5_1<(l0.length:Int)
    ·rw [if_pos c4] at H
     have c4b0:decide (x5_1<(l0.length:Int))=true:=dzT c4
     clear c4
     by_cases c5:0≤x5_1
     ·rw [if_pos c5] at H
      have c5b0:decide (0≤x5_1)=true:=dzT c5
      clear c5
      replace H:=bzS H
      obtain ⟨t522,A60,H⟩:=H
      replace H:(if t522<0 then (some (-1)) else (jZ.l0 k1 l0 t522 (wrap64 (x5_1+1))))=some r:=H
      have A6:=am A60
      clear A60
      by_cases c7:t522<0
      ·rw [if_pos c7] at H
       have c7b0:decide (t522<0)=true:=dzT c7
       clear c7
       obtain rfl:=Option.some.inj H
       have p521:0≤(x5_1:Int):=ozD (uq)
       have q521:x5_1<(l0.length:Int):=ozD (uq)
       obtain ⟨ad521,e521,hx521_0,hx521_1⟩:=at_T98 HR0.out x5_1 p521 q521
       cases e521
       replace hx521_0:=cb HB.out hx521_0
       replace hx521_1:=cb HB.out hx521_1
       replace p521:=ezT p521
       replace q521:=ezT q521
       go_wp2_with (first |((with_reducible refine jB (f:=62) rfl ?_);refine gL (some 23) Tryd.func62 #[.agg #[.string ((jbb l0 x5_1).f0), .int .i64 ((jbb l0 x5_1).f1)], .int .i64 x1_1] ?_;(with_reducible refine (jVa.calls ((jbb l0 x5_1).f0) ((jbb l0 x5_1).f1) x1_1 t522 _ A6.out).mono ?_);rintro e w8 ⟨rfl,hb⟩;refine ⟨_,rfl,?_⟩;replace HB:=am (jd (bq) hb);(try clear hb);(try clear hb2);(try clear hk);(try clear hi)))
       go_ret
       exact ⟨Y1,bq⟩
      ·rw [if_neg c7] at H
       have c7b0:decide (t522<0)=false:=dzF c7
       clear c7
       have H':=am H
       clear H
       have p521:0≤(x5_1:Int):=ozD (uq)
       have q521:x5_1<(l0.length:Int):=ozD (uq)
       obtain ⟨ad521,e521,hx521_0,hx521_1⟩:=at_T98 HR0.out x5_1 p521 q521
       cases e521
       replace hx521_0:=cb HB.out hx521_0
       replace hx521_1:=cb HB.out hx521_1
       replace p521:=ezT p521
       replace q521:=ezT q521
       go_wp2_with (first |((with_reducible refine jB (f:=62) rfl ?_);refine gL (some 23) Tryd.func62 #[.agg #[.string ((jbb l0 x5_1).f0), .int .i64 ((jbb l0 x5_1).f1)], .int .i64 x1_1] ?_;(with_reducible refine (jVa.calls ((jbb l0 x5_1).f0) ((jbb l0 x5_1).f1) x1_1 t522 _ A6.out).mono ?_);rintro e w9 ⟨rfl,hb⟩;refine ⟨_,rfl,?_⟩;replace HB:=am (jd (bq) hb);(try clear hb);(try clear hb2);(try clear hk);(try clear hi)))
       go_roundg k1
       case measure=>have:=HK1.out;omega
       case rel=>exact ⟨(t522),(wrap64 (x5_1+1)),(sq),(sq),H',⟨by have:=HK1.out;omega⟩,⟨bq⟩⟩
     ·rw [if_neg c5] at H
      exact absurd H (by simp)
    ·rw [if_neg c4] at H
     have c4b0:decide (x5_1<(l0.length:Int))=false:=dzF c4
     clear c4
     obtain rfl:=Option.some.inj H
     go_wp2
     go_ret
     exact ⟨Y1,bq⟩
def jQa.f (k : Nat) (l0_0 : List (S98)) (a1 : Int) : Option (Int) := (jZ.f k l0_0 a1).bind fun t524 => (if t524 < 0 then (some (-1)) else (some t524))
set_option maxHeartbeats 8000000 in
set_option maxRecDepth 100000 in
theorem jQa.calls (k : Nat) (A0_0 : Option Addr) (c0_0 : Nat) (l0_0 : List (S98)) (a1 : Int) (r : Int) (w : World) (hr0_0 : Kd.C k98 w A0_0 l0_0.length l0_0) (hc0_0 : l0_0.length ≤ c0_0) (h : jQa.f k l0_0 a1 = some r) :
  Calls Tryd.prog 16 #[.agg #[.slice A0_0 l0_0.length c0_0], .int .i64 a1] w fun e w'=>e=.returned (.int .i64 r)∧Below w.heap.size w w':=by
 have hu41:=Tryd.underlying41
 have HR0_0:=am hr0_0
 have HC0_0:=am hc0_0
 clear hr0_0 hc0_0
 have HB:=am (Below.refl w.heap.size w)
 have H:((jZ.f k l0_0 a1).bind fun t524=>(if t524<0 then (some (-1)) else (some t524)))=some r:=h
 clear h
 replace H:=bzS H
 obtain ⟨t524,A30,H⟩:=H
 replace H:(if t524<0 then (some (-1)) else (some t524))=some r:=H
 have A3:=am A30
 clear A30
 by_cases c4:t524<0
 ·rw [if_pos c4] at H
  have c4b0:decide (t524<0)=true:=dzT c4
  clear c4
  obtain rfl:=Option.some.inj H
  go_enter Tryd.func16,Tryd.ntmps16
  go_wp2_with (first |((with_reducible refine jr (N:=2) rfl ?_);refine bE (N:=2) (cs:=#[.slice A0_0 l0_0.length c0_0]) (t:=41) ?_;intro gb523 hg w5 hbox hb;have BK523:=am (hbox);have GW523:=am ((Y0:w.heap.size≤gb523));have GE523:=am ((Y0:w.heap.size≤gb523));replace HB:=am (jd (bq) hb);clear hb hbox hg;have hcz6_0:=bc0 BK523.out;have hfz6_0:=ja BK523.out 0) |((with_reducible refine jB (f:=37) rfl ?_);refine gL (some 8) Tryd.func37 #[.slice A0_0 l0_0.length c0_0, .int .i64 a1] ?_;(with_reducible refine (jZ.calls k _ _ l0_0 a1 t524 _ ?side1 ?side2 A3.out).mono ?_);(case side1=>exact cq (Kd.jD HR0_0.out HB.out));(case side2=>exact HC0_0.out);rintro e w7 ⟨rfl,hb⟩;refine ⟨_,rfl,?_⟩;replace BK523:=am (jc (g:=gb523) (o:=.cells #[.slice A0_0 l0_0.length c0_0] 41 (0,0)) (kq BK523.out) hb);replace HB:=am (jd (Y51) hb);(try clear hb);(try clear hb2);(try clear hk);(try clear hi)))
  go_ret
  exact ⟨Y1,Y51⟩
 ·rw [if_neg c4] at H
  have c4b0:decide (t524<0)=false:=dzF c4
  clear c4
  obtain rfl:=Option.some.inj H
  go_enter Tryd.func16,Tryd.ntmps16
  go_wp2_with (first |((with_reducible refine jr (N:=2) rfl ?_);refine bE (N:=2) (cs:=#[.slice A0_0 l0_0.length c0_0]) (t:=41) ?_;intro gb523 hg w8 hbox hb;have BK523:=am (hbox);have GW523:=am ((Y0:w.heap.size≤gb523));have GE523:=am ((Y0:w.heap.size≤gb523));replace HB:=am (jd (bq) hb);clear hb hbox hg;have hcz9_0:=bc0 BK523.out;have hfz9_0:=ja BK523.out 0) |((with_reducible refine jB (f:=37) rfl ?_);refine gL (some 8) Tryd.func37 #[.slice A0_0 l0_0.length c0_0, .int .i64 a1] ?_;(with_reducible refine (jZ.calls k _ _ l0_0 a1 t524 _ ?side1 ?side2 A3.out).mono ?_);(case side1=>exact cq (Kd.jD HR0_0.out HB.out));(case side2=>exact HC0_0.out);rintro e w10 ⟨rfl,hb⟩;refine ⟨_,rfl,?_⟩;replace BK523:=am (jc (g:=gb523) (o:=.cells #[.slice A0_0 l0_0.length c0_0] 41 (0,0)) (kq BK523.out) hb);replace HB:=am (jd (Y51) hb);(try clear hb);(try clear hb2);(try clear hk);(try clear hi)))
  go_ret
  exact ⟨Y1,Y51⟩
def jSa.f (l0 : List (S102)) (a1 : Int) : Option (Int) := if (wrap64 (a1 - (l0.length : Int))) < 0 then (some (-1)) else (some (wrap64 (a1 - (l0.length : Int))))
set_option maxHeartbeats 8000000 in
set_option maxRecDepth 100000 in
theorem jSa.calls (A0 : Option Addr) (c0 : Nat) (l0 : List (S102)) (a1 : Int) (r : Int) (w : World) (hr0 : Kd.C k102 w A0 l0.length l0) (hc0 : l0.length ≤ c0) (h : jSa.f l0 a1 = some r) :
  Calls Tryd.prog 38 #[.slice A0 l0.length c0, .int .i64 a1] w fun e w'=>e=.returned (.int .i64 r)∧jMa w w':=by
 have HR0:=am hr0
 have HC0:=am hc0
 clear hr0 hc0
 have H:(if (wrap64 (a1 - (l0.length:Int)))<0 then (some (-1)) else (some (wrap64 (a1 - (l0.length:Int)))))=some r:=h
 clear h
 by_cases c3:(wrap64 (a1 - (l0.length:Int)))<0
 ·rw [if_pos c3] at H
  have c3b0:decide ((wrap64 (a1 - (l0.length:Int)))<0)=true:=dzT c3
  clear c3
  obtain rfl:=Option.some.inj H
  go_enter Tryd.func38,Tryd.ntmps38
  go_wp2
  go_ret
  exact ⟨sq,Y2⟩
 ·rw [if_neg c3] at H
  have c3b0:decide ((wrap64 (a1 - (l0.length:Int)))<0)=false:=dzF c3
  clear c3
  obtain rfl:=Option.some.inj H
  go_enter Tryd.func38,Tryd.ntmps38
  go_wp2
  go_ret
  exact ⟨sq,Y2⟩
def jRa.f (l0_0 : List (S102)) (a1 : Int) : Option (Int) := (jSa.f l0_0 a1).bind fun t526 => (if t526 < 0 then (some (-1)) else (some t526))
set_option maxHeartbeats 8000000 in
set_option maxRecDepth 100000 in
theorem jRa.calls (A0_0 : Option Addr) (c0_0 : Nat) (l0_0 : List (S102)) (a1 : Int) (r : Int) (w : World) (hr0_0 : Kd.C k102 w A0_0 l0_0.length l0_0) (hc0_0 : l0_0.length ≤ c0_0) (h : jRa.f l0_0 a1 = some r) :
  Calls Tryd.prog 17 #[.agg #[.slice A0_0 l0_0.length c0_0], .int .i64 a1] w fun e w'=>e=.returned (.int .i64 r)∧Below w.heap.size w w':=by
 have hu44:=Tryd.underlying44
 have HR0_0:=am hr0_0
 have HC0_0:=am hc0_0
 clear hr0_0 hc0_0
 have HB:=am (Below.refl w.heap.size w)
 have H:((jSa.f l0_0 a1).bind fun t526=>(if t526<0 then (some (-1)) else (some t526)))=some r:=h
 clear h
 replace H:=bzS H
 obtain ⟨t526,A30,H⟩:=H
 replace H:(if t526<0 then (some (-1)) else (some t526))=some r:=H
 have A3:=am A30
 clear A30
 by_cases c4:t526<0
 ·rw [if_pos c4] at H
  have c4b0:decide (t526<0)=true:=dzT c4
  clear c4
  obtain rfl:=Option.some.inj H
  go_enter Tryd.func17,Tryd.ntmps17
  go_wp2_with (first |((with_reducible refine jr (N:=2) rfl ?_);refine bE (N:=2) (cs:=#[.slice A0_0 l0_0.length c0_0]) (t:=44) ?_;intro gb525 hg w5 hbox hb;have BK525:=am (hbox);have GW525:=am ((Y0:w.heap.size≤gb525));have GE525:=am ((Y0:w.heap.size≤gb525));replace HB:=am (jd (bq) hb);clear hb hbox hg;have hcz6_0:=bc0 BK525.out;have hfz6_0:=ja BK525.out 0) |((with_reducible refine jB (f:=38) rfl ?_);refine gL (some 8) Tryd.func38 #[.slice A0_0 l0_0.length c0_0, .int .i64 a1] ?_;(with_reducible refine (jSa.calls _ _ l0_0 a1 t526 _ ?side1 ?side2 A3.out).mono ?_);(case side1=>exact cq (Kd.jD HR0_0.out HB.out));(case side2=>exact HC0_0.out);rintro e w' ⟨rfl,⟨nd,rfl⟩⟩;refine ⟨_,rfl,?_⟩))
  go_ret
  exact ⟨Y1,Y87⟩
 ·rw [if_neg c4] at H
  have c4b0:decide (t526<0)=false:=dzF c4
  clear c4
  obtain rfl:=Option.some.inj H
  go_enter Tryd.func17,Tryd.ntmps17
  go_wp2_with (first |((with_reducible refine jr (N:=2) rfl ?_);refine bE (N:=2) (cs:=#[.slice A0_0 l0_0.length c0_0]) (t:=44) ?_;intro gb525 hg w7 hbox hb;have BK525:=am (hbox);have GW525:=am ((Y0:w.heap.size≤gb525));have GE525:=am ((Y0:w.heap.size≤gb525));replace HB:=am (jd (bq) hb);clear hb hbox hg;have hcz8_0:=bc0 BK525.out;have hfz8_0:=ja BK525.out 0) |((with_reducible refine jB (f:=38) rfl ?_);refine gL (some 8) Tryd.func38 #[.slice A0_0 l0_0.length c0_0, .int .i64 a1] ?_;(with_reducible refine (jSa.calls _ _ l0_0 a1 t526 _ ?side1 ?side2 A3.out).mono ?_);(case side1=>exact cq (Kd.jD HR0_0.out HB.out));(case side2=>exact HC0_0.out);rintro e w' ⟨rfl,⟨nd,rfl⟩⟩;refine ⟨_,rfl,?_⟩))
  go_ret
  exact ⟨Y1,Y87⟩
def jsb.f (a0_0 : ByteArray) (a0_1 : Int) : Option (ByteArray × Int) := some (a0_0, a0_1)
set_option maxHeartbeats 8000000 in
set_option maxRecDepth 100000 in
theorem jsb.calls (a0_0 : ByteArray) (a0_1 : Int) (r1 : ByteArray) (r2 : Int) (w : World) (h : jsb.f a0_0 a0_1 = some (r1, r2)) :
  Calls Tryd.prog 63 #[.agg #[.string a0_0, .int .i64 a0_1]] w fun e w'=>e=.returned (.agg #[.string r1, .int .i64 r2])∧Below w.heap.size w w':=by
 have hu98:=Tryd.underlying98
 have hu99:=Tryd.underlying99
 have HB:=am (Below.refl w.heap.size w)
 have H:(some (a0_0,a0_1))=some (r1,r2):=h
 clear h
 simp only [Option.some.injEq,Prod.mk.injEq] at H
 obtain ⟨rfl,rfl⟩:=H
 go_enter Tryd.func63,Tryd.ntmps63
 go_wp2_with (first |((with_reducible refine jr (N:=1) rfl ?_);refine bE (N:=1) (cs:=#[.string a0_0, .int .i64 a0_1]) (t:=98) ?_;intro gb527 hg w2 hbox hb;have BK527:=am (hbox);have GW527:=am ((Y0:w.heap.size≤gb527));have GE527:=am ((Y0:w.heap.size≤gb527));replace HB:=am (jd (bq) hb);clear hb hbox hg) |((with_reducible refine jr (N:=2) rfl ?_);refine bE (N:=2) (cs:=#[.string (⟨#[]⟩:ByteArray), .int .i64 0]) (t:=99) ?_;intro gb528 hg w3 hbox hb;have BK528:=am (hbox);have GW528:=am ((Y88:w.heap.size≤gb528));have GE528:=am ((Y88:w.heap.size≤gb528));have NB527_528:=am ((by rw [hg];exact Nat.ne_of_lt (jT (g:=gb527) (o:=.cells #[.string a0_0, .int .i64 a0_1] 98 (0,0)) (kq BK527.out)):gb527≠gb528));have NB528_527:=am ((by rw [hg];exact Nat.ne_of_gt (jT (g:=gb527) (o:=.cells #[.string a0_0, .int .i64 a0_1] 98 (0,0)) (kq BK527.out)):gb528≠gb527));replace BK527:=am (jc (g:=gb527) (o:=.cells #[.string a0_0, .int .i64 a0_1] 98 (0,0)) (kq BK527.out) hb);replace HB:=am (jd (by repeat (first |(with_reducible first | exact HB.out | apply jh | apply je | apply jk | refine jf ?_ GE527.out) | exact HB.out)) hb);clear hb hbox hg) |((with_reducible refine jr (N:=3) rfl ?_);refine bE (N:=3) (cs:=#[.string (⟨#[]⟩:ByteArray), .int .i64 0]) (t:=99) ?_;intro gb529 hg w4 hbox hb;have BK529:=am (hbox);have GW529:=am ((Y89:w.heap.size≤gb529));have GE529:=am ((Y89:w.heap.size≤gb529));have NB527_529:=am ((by rw [hg];exact Nat.ne_of_lt (jT (g:=gb527) (o:=.cells #[.string a0_0, .int .i64 a0_1] 98 (0,0)) (kq BK527.out)):gb527≠gb529));have NB529_527:=am ((by rw [hg];exact Nat.ne_of_gt (jT (g:=gb527) (o:=.cells #[.string a0_0, .int .i64 a0_1] 98 (0,0)) (kq BK527.out)):gb529≠gb527));have NB528_529:=am ((by rw [hg];exact Nat.ne_of_lt (jT (g:=gb528) (o:=.cells #[.string (⟨#[]⟩:ByteArray), .int .i64 0] 99 (0,0)) (kq BK528.out)):gb528≠gb529));have NB529_528:=am ((by rw [hg];exact Nat.ne_of_gt (jT (g:=gb528) (o:=.cells #[.string (⟨#[]⟩:ByteArray), .int .i64 0] 99 (0,0)) (kq BK528.out)):gb529≠gb528));replace BK527:=am (jc (g:=gb527) (o:=.cells #[.string a0_0, .int .i64 a0_1] 98 (0,0)) (kq BK527.out) hb);replace BK528:=am (jc (g:=gb528) (o:=.cells #[.string (⟨#[]⟩:ByteArray), .int .i64 0] 99 (0,0)) (kq BK528.out) hb);replace HB:=am (jd (by repeat (first |(with_reducible first | exact HB.out | apply jh | apply je | apply jk | refine jf ?_ GE527.out | refine jf ?_ GE528.out) | exact HB.out)) hb);clear hb hbox hg;have hnb5:=NB527_528.out;have hnc5:=NB528_527.out;have hnb6:=NB527_529.out;have hnc6:=NB529_527.out;have hcz7_0:=bc0 BK527.out;have hcz7_1:=bc1 BK527.out;have hfz7_0:=ja BK527.out 0;have hfz7_1:=ja BK527.out 1;have hnb8:=NB529_528.out;have hnc8:=NB528_529.out;have hcz9_0:=bc0 BK529.out;have hcz9_1:=bc1 BK529.out;have hfz9_0:=ja BK529.out 0;have hfz9_1:=ja BK529.out 1;have hcz10_0:=bc0 BK528.out;have hcz10_1:=bc1 BK528.out;have hfz10_0:=ja BK528.out 0;have hfz10_1:=ja BK528.out 1))
 refine bodyPost_ret (results_cell_row rfl _ _ gb528 99 #[.string a0_0, .int .i64 a0_1] (0,0) _ rfl (by (with_reducible repeat (first | refine jm ?_ _ | refine jv ?_ | refine jw ?_ _));refine jDa (cs:=#[.string a0_0, .int .i64 0]) ?_ 1 _ rfl;(with_reducible repeat (first | refine jm ?_ _ | refine jv ?_ | refine jw ?_ _));refine jDa (cs:=#[.string (⟨#[]⟩:ByteArray), .int .i64 0]) ?_ 0 _ rfl;(with_reducible repeat (first | refine jm ?_ _ | refine jv ?_ | refine jw ?_ _));refine jma ?_ NB528_529.out _;(with_reducible repeat (first | refine jm ?_ _ | refine jv ?_ | refine jw ?_ _));refine jma ?_ NB528_529.out _;(with_reducible repeat (first | refine jm ?_ _ | refine jv ?_ | refine jw ?_ _));exact BK528.out) Tryd.underlying99 rfl (by kernel_rfl)) rfl ?_
 exact ⟨Y1,by repeat (first |(with_reducible first | exact HB.out | apply jh | apply je | apply jk | refine jf ?_ GE527.out | refine jf ?_ GE528.out | refine jf ?_ GE529.out) | exact HB.out)⟩
def jY.l0 : Nat → List (S98) → List (S99) → Int → Option ((List (S99)))
 | 0,_,_,_=>none
 | k+1,x0,x3,x4=>if x4<(x0.length:Int) then (if 0≤x4 then ((jsb.f ((jbb x0 x4).f0) ((jbb x0 x4).f1)).bind fun bt534=>(if x4<(x3.length:Int) then (jY.l0 k x0 (x3.set (x4:Int).toNat (⟨bt534.1,bt534.2⟩:S99)) (wrap64 (x4+1))) else (none))) else (none)) else (some x3)
def jY.f (k : Nat) (l0 : List (S98)) : Option ((List (S99))) := if 0 ≤ (l0.length : Int) then (if ((l0.length : Int) : Int).toNat ≤ 11728124029610 then (jY.l0 k l0 (List.replicate ((l0.length : Int) : Int).toNat z99) 0) else (none)) else (none)
set_option maxHeartbeats 8000000 in
set_option maxRecDepth 100000 in
theorem jY.calls (k : Nat) (A0 : Option Addr) (c0 : Nat) (l0 : List (S98)) (r : List (S99)) (w : World) (hr0 : Kd.C k98 w A0 l0.length l0) (hc0 : l0.length ≤ c0) (h : jY.f k l0 = some r) :
  Calls Tryd.prog 39 #[.slice A0 l0.length c0] w fun e w'=>∃ v0_:Value,e=.returned (v0_)∧Kd.R k99 99 w' w.heap.size (fun _=>True) v0_ r∧Below w.heap.size w w':=by
 have hu98:=Tryd.underlying98
 have hu99:=Tryd.underlying99
 have HR0:=am hr0
 have HC0:=am hc0
 clear hr0 hc0
 have HB:=am (Below.refl w.heap.size w)
 have H:(if 0≤(l0.length:Int) then (if ((l0.length:Int):Int).toNat≤11728124029610 then (jY.l0 k l0 (List.replicate ((l0.length:Int):Int).toNat z99) 0) else (none)) else (none))=some r:=h
 clear h
 by_cases c2:0≤(l0.length:Int)
 ·rw [if_pos c2] at H
  have c2b0:=ezT c2
  have c2b1:decide (0≤(l0.length:Int))=true:=dzT c2
  clear c2
  by_cases c3:((l0.length:Int):Int).toNat≤11728124029610
  ·rw [if_pos c3] at H
   have c3b0:=ezT c3
   have c3b1:decide (((l0.length:Int):Int).toNat≤11728124029610)=true:=dzT c3
   clear c3
   obtain ⟨y530,hy530⟩:∃ y_:List (S99),y_=(List.replicate ((l0.length:Int):Int).toNat z99):=⟨_,rfl⟩
   replace H:(jY.l0 k l0 y530 0)=some r:=by first |(rw [hy530];with_reducible exact H) |(have H2_:=(Option.bind_some _ _).symm.trans H;rw [hy530];with_reducible exact H2_) |(have H2_:=(Option.bind_some _ _).symm.trans H;with_reducible exact H2_) | with_reducible exact H |(rw [hy530];exact H) | exact H
   have Ny530:=am hy530
   clear hy530
   have H':=am H
   clear H
   go_enter Tryd.func39,Tryd.ntmps39
   go_wp2_with (first |((with_reducible refine jr (N:=7) rfl ?_);refine Kd.R_make k99 _ 99 rfl (N:=7) rfl 23 _ _ rfl (l0.length:Int) rfl rfl Tryd.underlying23 (.agg #[(.string ⟨#[]⟩),(.int .i64 0)]) 24 info99 rfl (by decide) (by omega) z99 (ok:=fun _=>True) (okp:=fun _=>True) (k99_mkM _ _ _ z99 ) (fun _ hk=>hk) trivial (ozD (uq)) (Nat.le_trans (Nat.mul_le_mul_right _ (ozD (uq):(l0.length:Int).toNat≤11728124029610)) (by omega)) (Below.refl _ _) (Nat.le_refl _) ?_;intro v531 w4 ho5 hb hg_ hnew_;clear hg_ hnew_;(first | rw [← Ny530.out] at ho5 |(simp only [Int.reduceToNat] at ho5;rw [← Ny530.out] at ho5));have HO532:=am (Kd.jGa ho5 (jE (bq)));replace HB:=am (jd (bq) hb);clear hb ho5))
   go_loopg [4] k (fun kq v4 w'=>∃ (x3_1:List (S99)) (x4_1:Int),v4=.int .i64 x4_1∧jH (jY.l0 kq l0 x3_1 x4_1=some r)∧jH (kq≤k)∧jH (Kd.R k99 99 w' w.heap.size (fun _=>True) v531 x3_1)∧jH (Below w.heap.size w w'))
   case atStart=>exact ⟨(y530),(0),(sq),H',⟨Nat.le_refl _⟩,⟨rq HO532.out⟩,⟨bq⟩⟩
   case round =>
    clear H'
    try clear c2
    try clear c2b0
    try clear c2b1
    try clear p2
    try clear c3
    try clear c3b0
    try clear c3b1
    obtain ⟨x3_1,x4_1,rfl,HA,HK1,HO_3,HB⟩:=hrel
    cases gk with
    | zero=>exact absurd HA.out (by simp [jY.l0])
    | succ k1 =>
     have H:=HA.out
     clear HA
     simp only [jY.l0] at H
     by_cases c6:x4_1<(l0.length:Int)
     ·rw [if_pos c6] at H
      have c6b0:decide (x4_1<(l0.length:Int))=true:=dzT c6
      clear c6
      by_cases c7:0≤x4_1
      ·rw [if_pos c7] at H
       have c7b0:decide (0≤x4_1)=true:=dzT c7
       clear c7
       replace H:=bzS H
       obtain ⟨⟨t534,t535⟩,A80,H⟩:=H
       replace H:(if x4_1<(x3_1.length:Int) then (jY.l0 k1 l0 (x3_1.set (x4_1:Int).toNat (⟨t534,t535⟩:S99)) (wrap64 (x4_1+1))) else (none))=some r:=H
       have A8:=am A80
       clear A80
       by_cases c9:x4_1<(x3_1.length:Int)
       ·rw [if_pos c9] at H
        have c9b0:decide (x4_1<(x3_1.length:Int))=true:=dzT c9
        clear c9
        obtain ⟨y536,hy536⟩:∃ y_:List (S99),y_=(x3_1.set (x4_1:Int).toNat (⟨t534,t535⟩:S99)):=⟨_,rfl⟩
        replace H:(jY.l0 k1 l0 y536 (wrap64 (x4_1+1)))=some r:=by first |(rw [hy536];with_reducible exact H) |(have H2_:=(Option.bind_some _ _).symm.trans H;rw [hy536];with_reducible exact H2_) |(have H2_:=(Option.bind_some _ _).symm.trans H;with_reducible exact H2_) | with_reducible exact H |(rw [hy536];exact H) | exact H
        have Ny536:=am hy536
        clear hy536
        have H':=am H
        clear H
        have p533:0≤(x4_1:Int):=ozD (uq)
        have q533:x4_1<(l0.length:Int):=ozD (uq)
        obtain ⟨ad533,e533,hx533_0,hx533_1⟩:=at_T98 HR0.out x4_1 p533 q533
        cases e533
        replace hx533_0:=cb HB.out hx533_0
        replace hx533_1:=cb HB.out hx533_1
        replace p533:=ezT p533
        replace q533:=ezT q533
        go_wp2_with (first |((with_reducible refine jB (f:=63) rfl ?_);refine gL (some 20) Tryd.func63 #[.agg #[.string ((jbb l0 x4_1).f0), .int .i64 ((jbb l0 x4_1).f1)]] ?_;(with_reducible refine (jsb.calls ((jbb l0 x4_1).f0) ((jbb l0 x4_1).f1) t534 t535 _ A8.out).mono ?_);rintro e w11 ⟨rfl,hb⟩;refine ⟨_,rfl,?_⟩;replace HO_3:=am (Kd.jfa (rq HO_3.out) hb);replace HB:=am (jd (bq) hb);(try clear hb);(try clear hb2);(try clear hk);(try clear hi);have p10:0≤(x4_1:Int):=ozD (uq);have q10:(x4_1:Int)<((x3_1.length:Int):Int):=ozD (uq);obtain ⟨go10,co10,eo10,gb10,gl10,cl10,HG10⟩:=Kd.R_form HO_3.out (by omega);(first | cases eo10 |(injection eo10 with ea_ en_ ec_;(first | subst ea_ |(injection ea_ with ea_;subst ea_));subst ec_;clear en_));have GB10:=am gb10;have GG10:=am HG10;clear gb10 gl10 HG10;obtain ⟨ce10,hcl10,hM10,hcc10,hfr10⟩:=Kd.R_elem HO_3.out z99 (x4_1:Int) p10 q10;obtain rfl:=k99_openM hM10;have hx10_0:w11.cell? ⟨go10,(x4_1:Int).toNat * 2,none⟩=some (.string ((jA x3_1 x4_1).f0)):=hcc10 0 _ rfl;have hx10_1:w11.cell? ⟨go10,(x4_1:Int).toNat * 2+1,none⟩=some (.int .i64 ((jA x3_1 x4_1).f1)):=hcc10 1 _ rfl;have hf10_0:w11.frozen? ⟨go10,(x4_1:Int).toNat * 2,none⟩=false:=hfr10 0;have hf10_1:w11.frozen? ⟨go10,(x4_1:Int).toNat * 2+1,none⟩=false:=hfr10 1;clear hcl10 hcc10 hfr10 hM10;replace p10:=ezT p10;replace q10:=ezT q10;have HX12:=am (show Kd.R k99 99 w11 w.heap.size (fun _=>True) (.slice (some ⟨go10,0,none⟩) x3_1.length co10) x3_1 from (rq HO_3.out));obtain ⟨ce12,hcl12,hM12,hcc12,hfr12⟩:=Kd.R_elem HX12.out z99 (x4_1:Int) (ozD (uq)) (by have h_:(x4_1:Int)<((x3_1.length:Int):Int):=ozD (uq);first | exact h_ |(have e_:=(Kd.jN HO_3.out).1;omega) | simpa using h_);obtain rfl:=k99_openM hM12;have HP12:=Kd.R_seg HX12.out (x4_1:Int) (ozD (uq)) (by have h_:(x4_1:Int)<((x3_1.length:Int):Int):=ozD (uq);first | exact h_ |(have e_:=(Kd.jN HO_3.out).1;omega) | simpa using h_) (seg:=[.string t534, .int .i64 t535]) (j:=0) hcl12 hcc12 (show 2≤2 from by decide) (x':=(⟨t534,t535⟩:S99)) (k99_mkM _ _ _ (⟨t534,t535⟩:S99) ) (fun _ hk=>hk);have hx12_0:=hcc12 0 _ rfl;(try simp only [show (k99).sz=2 from rfl,Nat.mul_one,Nat.add_zero] at hx12_0);have hf12_0:=hfr12 0;(try simp only [show (k99).sz=2 from rfl,Nat.mul_one,Nat.add_zero] at hf12_0);have hx12_1:=hcc12 1 _ rfl;(try simp only [show (k99).sz=2 from rfl,Nat.mul_one,Nat.add_zero] at hx12_1);have hf12_1:=hfr12 1;(try simp only [show (k99).sz=2 from rfl,Nat.mul_one,Nat.add_zero] at hf12_1);clear hcl12 hcc12 hfr12 hM12) |((with_reducible refine gate_store (t:=99) (p:=21) rfl ?_);refine store_event (t:=99) (p:=21) (v:=?vo_w13) (w1:=((w11.setCell ⟨go10,(x4_1:Int).toNat * 2,none⟩ (.string t534)).setCell ⟨go10,(x4_1:Int).toNat * 2+1,none⟩ (.int .i64 t535))) ?hg ?ho ?hn ?hr ?_;(case ho=>rfl);(case hg=>rfl);(case hn=>rfl);(case hr=>exact Y6);intro w13 hw;have hg:w11.grownBy w13 (some go10):=(by rw [hw];exact HP12.2);have hp_:Kd.R k99 99 w13 w.heap.size (fun _=>True) (.slice (some ⟨go10,0,none⟩) x3_1.length co10) y536:=(by rw [hw,Ny536.out];exact HP12.1);clear HP12;replace HO_3:=am (hp_);replace HB:=am ((by rw [hw];exact jf (jf (HB.out) GB10.out) GB10.out:Below w.heap.size w w13));clear hg hw hp_))
        go_roundg k1
        case measure=>have:=HK1.out;omega
        case rel=>exact ⟨(y536),(wrap64 (x4_1+1)),(sq),H',⟨by have:=HK1.out;omega⟩,⟨rq HO_3.out⟩,⟨bq⟩⟩
       ·rw [if_neg c9] at H
        exact absurd H (by simp)
      ·rw [if_neg c7] at H
       exact absurd H (by simp)
     ·rw [if_neg c6] at H
      have c6b0:decide (x4_1<(l0.length:Int))=false:=dzF c6
      clear c6
      obtain rfl:=Option.some.inj H
      go_wp2
      go_ret
      exact ⟨_,Y1,rq HO_3.out,bq⟩
  ·rw [if_neg c3] at H
   exact absurd H (by simp)
 ·rw [if_neg c2] at H
  exact absurd H (by simp)
def jV.f (k : Nat) (l0_0 : List (S98)) : Option ((List (S99))) := (jY.f k l0_0).bind fun t540 => (some t540)
set_option maxHeartbeats 8000000 in
set_option maxRecDepth 100000 in
theorem jV.calls (k : Nat) (A0_0 : Option Addr) (c0_0 : Nat) (l0_0 : List (S98)) (r : List (S99)) (w : World) (hr0_0 : Kd.C k98 w A0_0 l0_0.length l0_0) (hc0_0 : l0_0.length ≤ c0_0) (h : jV.f k l0_0 = some r) :
  Calls Tryd.prog 18 #[.agg #[.slice A0_0 l0_0.length c0_0]] w fun e w'=>∃ v0_:Value,e=.returned (.agg #[v0_])∧Kd.R k99 99 w' w.heap.size (fun _=>True) v0_ r∧Below w.heap.size w w':=by
 have hu41:=Tryd.underlying41
 have hu25:=Tryd.underlying25
 have HR0_0:=am hr0_0
 have HC0_0:=am hc0_0
 clear hr0_0 hc0_0
 have HB:=am (Below.refl w.heap.size w)
 have H:((jY.f k l0_0).bind fun t540=>(some t540))=some r:=h
 clear h
 replace H:=bzS H
 obtain ⟨t540,A20,H⟩:=H
 replace H:(some t540)=some r:=H
 have A2:=am A20
 clear A20
 obtain rfl:=Option.some.inj H
 go_enter Tryd.func18,Tryd.ntmps18
 go_wp2_with (first |((with_reducible refine jr (N:=1) rfl ?_);refine bE (N:=1) (cs:=#[.slice A0_0 l0_0.length c0_0]) (t:=41) ?_;intro gb537 hg w3 hbox hb;have BK537:=am (hbox);have GW537:=am ((Y0:w.heap.size≤gb537));have GE537:=am ((Y0:w.heap.size≤gb537));replace HB:=am (jd (bq) hb);clear hb hbox hg) |((with_reducible refine jr (N:=2) rfl ?_);refine bE (N:=2) (cs:=#[.slice none 0 0]) (t:=25) ?_;intro gb538 hg w4 hbox hb;have BK538:=am (hbox);have GW538:=am ((Y90:w.heap.size≤gb538));have GE538:=am ((Y90:w.heap.size≤gb538));have NB537_538:=am ((by rw [hg];exact Nat.ne_of_lt (jT (g:=gb537) (o:=.cells #[.slice A0_0 l0_0.length c0_0] 41 (0,0)) (kq BK537.out)):gb537≠gb538));have NB538_537:=am ((by rw [hg];exact Nat.ne_of_gt (jT (g:=gb537) (o:=.cells #[.slice A0_0 l0_0.length c0_0] 41 (0,0)) (kq BK537.out)):gb538≠gb537));replace BK537:=am (jc (g:=gb537) (o:=.cells #[.slice A0_0 l0_0.length c0_0] 41 (0,0)) (kq BK537.out) hb);replace HB:=am (jd (by repeat (first |(with_reducible first | exact HB.out | apply jh | apply je | apply jk | refine jf ?_ GE537.out) | exact HB.out)) hb);clear hb hbox hg) |((with_reducible refine jr (N:=3) rfl ?_);refine bE (N:=3) (cs:=#[.slice none 0 0]) (t:=25) ?_;intro gb539 hg w5 hbox hb;have BK539:=am (hbox);have GW539:=am ((Y91:w.heap.size≤gb539));have GE539:=am ((Y91:w.heap.size≤gb539));have NB537_539:=am ((by rw [hg];exact Nat.ne_of_lt (jT (g:=gb537) (o:=.cells #[.slice A0_0 l0_0.length c0_0] 41 (0,0)) (kq BK537.out)):gb537≠gb539));have NB539_537:=am ((by rw [hg];exact Nat.ne_of_gt (jT (g:=gb537) (o:=.cells #[.slice A0_0 l0_0.length c0_0] 41 (0,0)) (kq BK537.out)):gb539≠gb537));have NB538_539:=am ((by rw [hg];exact Nat.ne_of_lt (jT (g:=gb538) (o:=.cells #[.slice none 0 0] 25 (0,0)) (kq BK538.out)):gb538≠gb539));have NB539_538:=am ((by rw [hg];exact Nat.ne_of_gt (jT (g:=gb538) (o:=.cells #[.slice none 0 0] 25 (0,0)) (kq BK538.out)):gb539≠gb538));replace BK537:=am (jc (g:=gb537) (o:=.cells #[.slice A0_0 l0_0.length c0_0] 41 (0,0)) (kq BK537.out) hb);replace BK538:=am (jc (g:=gb538) (o:=.cells #[.slice none 0 0] 25 (0,0)) (kq BK538.out) hb);replace HB:=am (jd (by repeat (first |(with_reducible first | exact HB.out | apply jh | apply je | apply jk | refine jf ?_ GE537.out | refine jf ?_ GE538.out) | exact HB.out)) hb);clear hb hbox hg;have hnb6:=NB537_538.out;have hnc6:=NB538_537.out;have hnb7:=NB537_539.out;have hnc7:=NB539_537.out;have hcz8_0:=bc0 BK537.out;have hfz8_0:=ja BK537.out 0) |((with_reducible refine jB (f:=39) rfl ?_);refine gL (some 6) Tryd.func39 #[.slice A0_0 l0_0.length c0_0] ?_;(with_reducible refine (jY.calls k _ _ l0_0 t540 _ ?side1 ?side2 A2.out).mono ?_);(case side1=>exact cq (Kd.jD HR0_0.out HB.out));(case side2=>exact HC0_0.out);rintro e w9 ⟨v541,rfl,ho0,hb⟩;refine ⟨_,rfl,?_⟩;have HO542:=am (Kd.jGa ho0 (jE (Y72)));replace BK537:=am (jc (g:=gb537) (o:=.cells #[.slice A0_0 l0_0.length c0_0] 41 (0,0)) (kq BK537.out) hb);replace BK538:=am (jc (g:=gb538) (o:=.cells #[.slice none 0 0] 25 (0,0)) (kq BK538.out) hb);replace BK539:=am (jc (g:=gb539) (o:=.cells #[.slice none 0 0] 25 (0,0)) (kq BK539.out) hb);replace HB:=am (jd (Y72) hb);(try clear hb);(try clear hb2);(try clear hk);(try clear hi);(try clear ho0);obtain ⟨Ao10,co10,eo10⟩:=Kd.jEa HO542.out;subst eo10;have hnb11:=NB539_538.out;have hnc11:=NB538_539.out;have hcz12_0:=bc0 BK539.out;have hfz12_0:=ja BK539.out 0;have hcz13_0:=bc0 BK538.out;have hfz13_0:=ja BK538.out 0))
 refine bodyPost_ret (results_cell_row rfl _ _ gb538 25 #[.slice Ao10 t540.length co10] (0,0) _ rfl (by (with_reducible repeat (first | refine jm ?_ _ | refine jv ?_ | refine jw ?_ _));refine jDa (cs:=#[.slice none 0 0]) ?_ 0 _ rfl;(with_reducible repeat (first | refine jm ?_ _ | refine jv ?_ | refine jw ?_ _));refine jma ?_ NB538_539.out _;(with_reducible repeat (first | refine jm ?_ _ | refine jv ?_ | refine jw ?_ _));exact BK538.out) Tryd.underlying25 rfl (by kernel_rfl)) rfl ?_
 exact ⟨_,Y1,by (with_reducible repeat (first | apply Kd.jpb | apply Kd.jyb | apply Kd.jWa));exact Kd.jcb (Kd.R_far (p:=⟨gb538,0,none⟩) (Kd.R_far (p:=⟨gb539,0,none⟩) (Kd.jnb (Kd.jnb HO542.out BK539.out (by decide)) BK538.out (by decide)) (fun _ hk=>hk.1.2) (.slice Ao10 t540.length co10)) (fun _ hk=>hk.2) (.slice Ao10 t540.length co10)) (fun _ hk=>trivial),Y72⟩
def jrb.f (a0_0 : Int) (a0_1 : Int) (a0_2 : Int) (a0_3 : Int) (a0_4 : Bool) : Option (Int × Int × Int × Int × Bool) := some (a0_0, a0_1, a0_2, a0_3, a0_4)
set_option maxHeartbeats 8000000 in
set_option maxRecDepth 100000 in
theorem jrb.calls (a0_0 : Int) (a0_1 : Int) (a0_2 : Int) (a0_3 : Int) (a0_4 : Bool) (r1 : Int) (r2 : Int) (r3 : Int) (r4 : Int) (r5 : Bool) (w : World) (h : jrb.f a0_0 a0_1 a0_2 a0_3 a0_4 = some (r1, r2, r3, r4, r5)) :
  Calls Tryd.prog 64 #[.agg #[.int .i64 a0_0, .int .i64 a0_1, .int .i64 a0_2, .int .i64 a0_3, .bool a0_4]] w fun e w'=>e=.returned (.agg #[.int .i64 r1, .int .i64 r2, .int .i64 r3, .int .i64 r4, .bool r5])∧Below w.heap.size w w':=by
 have hu102:=Tryd.underlying102
 have hu66:=Tryd.underlying66
 have HB:=am (Below.refl w.heap.size w)
 have H:(some (a0_0,a0_1,a0_2,a0_3,a0_4))=some (r1,r2,r3,r4,r5):=h
 clear h
 simp only [Option.some.injEq,Prod.mk.injEq] at H
 obtain ⟨rfl,rfl,rfl,rfl,rfl⟩:=H
 go_enter Tryd.func64,Tryd.ntmps64
 go_wp2_with (first |((with_reducible refine jr (N:=1) rfl ?_);refine bE (N:=1) (cs:=#[.int .i64 a0_0, .int .i64 a0_1, .int .i64 a0_2, .int .i64 a0_3, .bool a0_4]) (t:=102) ?_;intro gb543 hg w2 hbox hb;have BK543:=am (hbox);have GW543:=am ((Y0:w.heap.size≤gb543));have GE543:=am ((Y0:w.heap.size≤gb543));replace HB:=am (jd (bq) hb);clear hb hbox hg) |((with_reducible refine jr (N:=2) rfl ?_);refine bE (N:=2) (cs:=#[.int .i64 0, .int .i64 0, .int .i64 0, .int .i64 0, .bool false]) (t:=66) ?_;intro gb544 hg w3 hbox hb;have BK544:=am (hbox);have GW544:=am ((Y92:w.heap.size≤gb544));have GE544:=am ((Y92:w.heap.size≤gb544));have NB543_544:=am ((Y93:gb543≠gb544));have NB544_543:=am ((Y94:gb544≠gb543));replace BK543:=am (jc (g:=gb543) (o:=.cells #[.int .i64 a0_0, .int .i64 a0_1, .int .i64 a0_2, .int .i64 a0_3, .bool a0_4] 102 (0,0)) (kq BK543.out) hb);replace HB:=am (jd (by repeat (first |(with_reducible first | exact HB.out | apply jh | apply je | apply jk | refine jf ?_ GE543.out) | exact HB.out)) hb);clear hb hbox hg) |((with_reducible refine jr (N:=3) rfl ?_);refine bE (N:=3) (cs:=#[.int .i64 0, .int .i64 0, .int .i64 0, .int .i64 0, .bool false]) (t:=66) ?_;intro gb545 hg w4 hbox hb;have BK545:=am (hbox);have GW545:=am ((Y95:w.heap.size≤gb545));have GE545:=am ((Y95:w.heap.size≤gb545));have NB543_545:=am ((Y93:gb543≠gb545));have NB545_543:=am ((Y94:gb545≠gb543));have NB544_545:=am ((by rw [hg];exact Nat.ne_of_lt (jT (g:=gb544) (o:=.cells #[.int .i64 0, .int .i64 0, .int .i64 0, .int .i64 0, .bool false] 66 (0,0)) (kq BK544.out)):gb544≠gb545));have NB545_544:=am ((by rw [hg];exact Nat.ne_of_gt (jT (g:=gb544) (o:=.cells #[.int .i64 0, .int .i64 0, .int .i64 0, .int .i64 0, .bool false] 66 (0,0)) (kq BK544.out)):gb545≠gb544));replace BK543:=am (jc (g:=gb543) (o:=.cells #[.int .i64 a0_0, .int .i64 a0_1, .int .i64 a0_2, .int .i64 a0_3, .bool a0_4] 102 (0,0)) (kq BK543.out) hb);replace BK544:=am (jc (g:=gb544) (o:=.cells #[.int .i64 0, .int .i64 0, .int .i64 0, .int .i64 0, .bool false] 66 (0,0)) (kq BK544.out) hb);replace HB:=am (jd (by repeat (first |(with_reducible first | exact HB.out | apply jh | apply je | apply jk | refine jf ?_ GE543.out | refine jf ?_ GE544.out) | exact HB.out)) hb);clear hb hbox hg;have hnb5:=NB543_544.out;have hnc5:=NB544_543.out;have hnb6:=NB543_545.out;have hnc6:=NB545_543.out;have hcz7_0:=bc0 BK543.out;have hcz7_1:=bc1 BK543.out;have hcz7_2:=bc2 BK543.out;have hcz7_3:=bc3 BK543.out;have hcz7_4:w4.cell? ⟨gb543,4,none⟩=some (.bool a0_4):=(jC BK543.out 4).trans rfl;have hfz7_0:=ja BK543.out 0;have hfz7_1:=ja BK543.out 1;have hfz7_2:=ja BK543.out 2;have hfz7_3:=ja BK543.out 3;have hfz7_4:=ja BK543.out 4;have hnb8:=NB545_544.out;have hnc8:=NB544_545.out;have hcz9_0:=bc0 BK545.out;have hcz9_1:=bc1 BK545.out;have hcz9_2:=bc2 BK545.out;have hcz9_3:=bc3 BK545.out;have hcz9_4:w4.cell? ⟨gb545,4,none⟩=some (.bool false):=(jC BK545.out 4).trans rfl;have hfz9_0:=ja BK545.out 0;have hfz9_1:=ja BK545.out 1;have hfz9_2:=ja BK545.out 2;have hfz9_3:=ja BK545.out 3;have hfz9_4:=ja BK545.out 4;have hcz10_0:=bc0 BK544.out;have hcz10_1:=bc1 BK544.out;have hcz10_2:=bc2 BK544.out;have hcz10_3:=bc3 BK544.out;have hcz10_4:w4.cell? ⟨gb544,4,none⟩=some (.bool false):=(jC BK544.out 4).trans rfl;have hfz10_0:=ja BK544.out 0;have hfz10_1:=ja BK544.out 1;have hfz10_2:=ja BK544.out 2;have hfz10_3:=ja BK544.out 3;have hfz10_4:=ja BK544.out 4))
 refine bodyPost_ret (results_cell_row rfl _ _ gb544 66 #[.int .i64 a0_0, .int .i64 a0_1, .int .i64 a0_2, .int .i64 a0_3, .bool a0_4] (0,0) _ rfl (by (with_reducible repeat (first | refine jm ?_ _ | refine jv ?_ | refine jw ?_ _));refine jDa (cs:=#[.int .i64 a0_0, .int .i64 a0_1, .int .i64 a0_2, .int .i64 a0_3, .bool false]) ?_ 4 _ rfl;(with_reducible repeat (first | refine jm ?_ _ | refine jv ?_ | refine jw ?_ _));refine jDa (cs:=#[.int .i64 a0_0, .int .i64 a0_1, .int .i64 a0_2, .int .i64 0, .bool false]) ?_ 3 _ rfl;(with_reducible repeat (first | refine jm ?_ _ | refine jv ?_ | refine jw ?_ _));refine jDa (cs:=#[.int .i64 a0_0, .int .i64 a0_1, .int .i64 0, .int .i64 0, .bool false]) ?_ 2 _ rfl;(with_reducible repeat (first | refine jm ?_ _ | refine jv ?_ | refine jw ?_ _));refine jDa (cs:=#[.int .i64 a0_0, .int .i64 0, .int .i64 0, .int .i64 0, .bool false]) ?_ 1 _ rfl;(with_reducible repeat (first | refine jm ?_ _ | refine jv ?_ | refine jw ?_ _));refine jDa (cs:=#[.int .i64 0, .int .i64 0, .int .i64 0, .int .i64 0, .bool false]) ?_ 0 _ rfl;(with_reducible repeat (first | refine jm ?_ _ | refine jv ?_ | refine jw ?_ _));refine jma ?_ NB544_545.out _;(with_reducible repeat (first | refine jm ?_ _ | refine jv ?_ | refine jw ?_ _));refine jma ?_ NB544_545.out _;(with_reducible repeat (first | refine jm ?_ _ | refine jv ?_ | refine jw ?_ _));refine jma ?_ NB544_545.out _;(with_reducible repeat (first | refine jm ?_ _ | refine jv ?_ | refine jw ?_ _));refine jma ?_ NB544_545.out _;(with_reducible repeat (first | refine jm ?_ _ | refine jv ?_ | refine jw ?_ _));refine jma ?_ NB544_545.out _;(with_reducible repeat (first | refine jm ?_ _ | refine jv ?_ | refine jw ?_ _));exact BK544.out) Tryd.underlying66 rfl (by kernel_rfl)) rfl ?_
 exact ⟨Y1,by repeat (first |(with_reducible first | exact HB.out | apply jh | apply je | apply jk | refine jf ?_ GE543.out | refine jf ?_ GE544.out | refine jf ?_ GE545.out) | exact HB.out)⟩
def jX.l0 : Nat → List (S102) → List (S66) → Int → Option ((List (S66)))
 | 0,_,_,_=>none
 | k+1,x0,x3,x4=>if x4<(x0.length:Int) then (if 0≤x4 then ((jrb.f ((jJa x0 x4).f0) ((jJa x0 x4).f1) ((jJa x0 x4).f2) ((jJa x0 x4).f3) ((jJa x0 x4).f4)).bind fun bt550=>(if x4<(x3.length:Int) then (jX.l0 k x0 (x3.set (x4:Int).toNat (⟨bt550.1,bt550.2.1,bt550.2.2.1,bt550.2.2.2.1,bt550.2.2.2.2⟩:S66)) (wrap64 (x4+1))) else (none))) else (none)) else (some x3)
def jX.f (k : Nat) (l0 : List (S102)) : Option ((List (S66))) := if 0 ≤ (l0.length : Int) then (if ((l0.length : Int) : Int).toNat ≤ 7036874417766 then (jX.l0 k l0 (List.replicate ((l0.length : Int) : Int).toNat z66) 0) else (none)) else (none)
set_option maxHeartbeats 8000000 in
set_option maxRecDepth 100000 in
theorem jX.calls (k : Nat) (A0 : Option Addr) (c0 : Nat) (l0 : List (S102)) (r : List (S66)) (w : World) (hr0 : Kd.C k102 w A0 l0.length l0) (hc0 : l0.length ≤ c0) (h : jX.f k l0 = some r) :
  Calls Tryd.prog 40 #[.slice A0 l0.length c0] w fun e w'=>∃ v0_:Value,e=.returned (v0_)∧Kd.R k66 66 w' w.heap.size (fun _=>True) v0_ r∧Below w.heap.size w w':=by
 have hu102:=Tryd.underlying102
 have hu66:=Tryd.underlying66
 have HR0:=am hr0
 have HC0:=am hc0
 clear hr0 hc0
 have HB:=am (Below.refl w.heap.size w)
 have H:(if 0≤(l0.length:Int) then (if ((l0.length:Int):Int).toNat≤7036874417766 then (jX.l0 k l0 (List.replicate ((l0.length:Int):Int).toNat z66) 0) else (none)) else (none))=some r:=h
 clear h
 by_cases c2:0≤(l0.length:Int)
 ·rw [if_pos c2] at H
  have c2b0:=ezT c2
  have c2b1:decide (0≤(l0.length:Int))=true:=dzT c2
  clear c2
  by_cases c3:((l0.length:Int):Int).toNat≤7036874417766
  ·rw [if_pos c3] at H
   have c3b0:=ezT c3
   have c3b1:decide (((l0.length:Int):Int).toNat≤7036874417766)=true:=dzT c3
   clear c3
   obtain ⟨y546,hy546⟩:∃ y_:List (S66),y_=(List.replicate ((l0.length:Int):Int).toNat z66):=⟨_,rfl⟩
   replace H:(jX.l0 k l0 y546 0)=some r:=by first |(rw [hy546];with_reducible exact H) |(have H2_:=(Option.bind_some _ _).symm.trans H;rw [hy546];with_reducible exact H2_) |(have H2_:=(Option.bind_some _ _).symm.trans H;with_reducible exact H2_) | with_reducible exact H |(rw [hy546];exact H) | exact H
   have Ny546:=am hy546
   clear hy546
   have H':=am H
   clear H
   go_enter Tryd.func40,Tryd.ntmps40
   go_wp2_with (first |((with_reducible refine jr (N:=7) rfl ?_);refine Kd.R_make k66 _ 66 rfl (N:=7) rfl 26 _ _ rfl (l0.length:Int) rfl rfl Tryd.underlying26 (.agg #[(.int .i64 0),(.int .i64 0),(.int .i64 0),(.int .i64 0),(.bool false)]) 40 info66 rfl (by decide) (by omega) z66 (ok:=fun _=>True) (okp:=fun _=>True) (k66_mkM _ _ _ z66 ) (fun _ hk=>hk) trivial (ozD (uq)) (Nat.le_trans (Nat.mul_le_mul_right _ (ozD (uq):(l0.length:Int).toNat≤7036874417766)) (by omega)) (Below.refl _ _) (Nat.le_refl _) ?_;intro v547 w4 ho5 hb hg_ hnew_;clear hg_ hnew_;(first | rw [← Ny546.out] at ho5 |(simp only [Int.reduceToNat] at ho5;rw [← Ny546.out] at ho5));have HO548:=am (Kd.jGa ho5 (jE (bq)));replace HB:=am (jd (bq) hb);clear hb ho5))
   go_loopg [4] k (fun kq v4 w'=>∃ (x3_1:List (S66)) (x4_1:Int),v4=.int .i64 x4_1∧jH (jX.l0 kq l0 x3_1 x4_1=some r)∧jH (kq≤k)∧jH (Kd.R k66 66 w' w.heap.size (fun _=>True) v547 x3_1)∧jH (Below w.heap.size w w'))
   case atStart=>exact ⟨(y546),(0),(sq),H',⟨Nat.le_refl _⟩,⟨rq HO548.out⟩,⟨bq⟩⟩
   case round =>
    clear H'
    try clear c2
    try clear c2b0
    try clear c2b1
    try clear p2
    try clear c3
    try clear c3b0
    try clear c3b1
    try clear c4
    obtain ⟨x3_1,x4_1,rfl,HA,HK1,HO_3,HB⟩:=hrel
    cases gk with
    | zero=>exact absurd HA.out (by simp [jX.l0])
    | succ k1 =>
     have H:=HA.out
     clear HA
     simp only [jX.l0] at H
     by_cases c6:x4_1<(l0.length:Int)
     ·rw [if_pos c6] at H
      have c6b0:decide (x4_1<(l0.length:Int))=true:=dzT c6
      clear c6
      by_cases c7:0≤x4_1
      ·rw [if_pos c7] at H
       have c7b0:decide (0≤x4_1)=true:=dzT c7
       clear c7
       replace H:=bzS H
       obtain ⟨⟨t550,t551,t552,t553,t554⟩,A80,H⟩:=H
       replace H:(if x4_1<(x3_1.length:Int) then (jX.l0 k1 l0 (x3_1.set (x4_1:Int).toNat (⟨t550,t551,t552,t553,t554⟩:S66)) (wrap64 (x4_1+1))) else (none))=some r:=H
       have A8:=am A80
       clear A80
       by_cases c9:x4_1<(x3_1.length:Int)
       ·rw [if_pos c9] at H
        have c9b0:decide (x4_1<(x3_1.length:Int))=true:=dzT c9
        clear c9
        obtain ⟨y555,hy555⟩:∃ y_:List (S66),y_=(x3_1.set (x4_1:Int).toNat (⟨t550,t551,t552,t553,t554⟩:S66)):=⟨_,rfl⟩
        replace H:(jX.l0 k1 l0 y555 (wrap64 (x4_1+1)))=some r:=by first |(rw [hy555];with_reducible exact H) |(have H2_:=(Option.bind_some _ _).symm.trans H;rw [hy555];with_reducible exact H2_) |(have H2_:=(Option.bind_some _ _).symm.trans H;with_reducible exact H2_) | with_reducible exact H |(rw [hy555];exact H) | exact H
        have Ny555:=am hy555
        clear hy555
        have H':=am H
        clear H
        have p549:0≤(x4_1:Int):=ozD (uq)
        have q549:x4_1<(l0.length:Int):=ozD (uq)
        obtain ⟨ad549,e549,hx549_0,hx549_1,hx549_2,hx549_3,hx549_4⟩:=at_T102 HR0.out x4_1 p549 q549
        cases e549
        replace hx549_0:=cb HB.out hx549_0
        replace hx549_1:=cb HB.out hx549_1
        replace hx549_2:=cb HB.out hx549_2
        replace hx549_3:=cb HB.out hx549_3
        replace hx549_4:=cb HB.out hx549_4
        replace p549:=ezT p549
        replace q549:=ezT q549
        go_wp2_with (first |((with_reducible refine jB (f:=64) rfl ?_);refine gL (some 20) Tryd.func64 #[.agg #[.int .i64 ((jJa l0 x4_1).f0), .int .i64 ((jJa l0 x4_1).f1), .int .i64 ((jJa l0 x4_1).f2), .int .i64 ((jJa l0 x4_1).f3), .bool ((jJa l0 x4_1).f4)]] ?_;(with_reducible refine (jrb.calls ((jJa l0 x4_1).f0) ((jJa l0 x4_1).f1) ((jJa l0 x4_1).f2) ((jJa l0 x4_1).f3) ((jJa l0 x4_1).f4) t550 t551 t552 t553 t554 _ A8.out).mono ?_);rintro e w11 ⟨rfl,hb⟩;refine ⟨_,rfl,?_⟩;replace HO_3:=am (Kd.jfa (rq HO_3.out) hb);replace HB:=am (jd (bq) hb);(try clear hb);(try clear hb2);(try clear hk);(try clear hi);have p10:0≤(x4_1:Int):=ozD (uq);have q10:(x4_1:Int)<((x3_1.length:Int):Int):=ozD (uq);obtain ⟨go10,co10,eo10,gb10,gl10,cl10,HG10⟩:=Kd.R_form HO_3.out (by omega);(first | cases eo10 |(injection eo10 with ea_ en_ ec_;(first | subst ea_ |(injection ea_ with ea_;subst ea_));subst ec_;clear en_));have GB10:=am gb10;have GG10:=am HG10;clear gb10 gl10 HG10;obtain ⟨ce10,hcl10,hM10,hcc10,hfr10⟩:=Kd.R_elem HO_3.out z66 (x4_1:Int) p10 q10;obtain rfl:=k66_openM hM10;have hx10_0:w11.cell? ⟨go10,(x4_1:Int).toNat * 5,none⟩=some (.int .i64 ((jb x3_1 x4_1).f0)):=hcc10 0 _ rfl;have hx10_1:w11.cell? ⟨go10,(x4_1:Int).toNat * 5+1,none⟩=some (.int .i64 ((jb x3_1 x4_1).f1)):=hcc10 1 _ rfl;have hx10_2:w11.cell? ⟨go10,(x4_1:Int).toNat * 5+2,none⟩=some (.int .i64 ((jb x3_1 x4_1).f2)):=hcc10 2 _ rfl;have hx10_3:w11.cell? ⟨go10,(x4_1:Int).toNat * 5+3,none⟩=some (.int .i64 ((jb x3_1 x4_1).f3)):=hcc10 3 _ rfl;have hx10_4:w11.cell? ⟨go10,(x4_1:Int).toNat * 5+4,none⟩=some (.bool ((jb x3_1 x4_1).f4)):=hcc10 4 _ rfl;have hf10_0:w11.frozen? ⟨go10,(x4_1:Int).toNat * 5,none⟩=false:=hfr10 0;have hf10_1:w11.frozen? ⟨go10,(x4_1:Int).toNat * 5+1,none⟩=false:=hfr10 1;have hf10_2:w11.frozen? ⟨go10,(x4_1:Int).toNat * 5+2,none⟩=false:=hfr10 2;have hf10_3:w11.frozen? ⟨go10,(x4_1:Int).toNat * 5+3,none⟩=false:=hfr10 3;have hf10_4:w11.frozen? ⟨go10,(x4_1:Int).toNat * 5+4,none⟩=false:=hfr10 4;clear hcl10 hcc10 hfr10 hM10;replace p10:=ezT p10;replace q10:=ezT q10;have HX12:=am (show Kd.R k66 66 w11 w.heap.size (fun _=>True) (.slice (some ⟨go10,0,none⟩) x3_1.length co10) x3_1 from (rq HO_3.out));obtain ⟨ce12,hcl12,hM12,hcc12,hfr12⟩:=Kd.R_elem HX12.out z66 (x4_1:Int) (ozD (uq)) (by have h_:(x4_1:Int)<((x3_1.length:Int):Int):=ozD (uq);first | exact h_ |(have e_:=(Kd.jN HO_3.out).1;omega) | simpa using h_);obtain rfl:=k66_openM hM12;have HP12:=Kd.R_seg HX12.out (x4_1:Int) (ozD (uq)) (by have h_:(x4_1:Int)<((x3_1.length:Int):Int):=ozD (uq);first | exact h_ |(have e_:=(Kd.jN HO_3.out).1;omega) | simpa using h_) (seg:=[.int .i64 t550, .int .i64 t551, .int .i64 t552, .int .i64 t553, .bool t554]) (j:=0) hcl12 hcc12 (show 5≤5 from by decide) (x':=(⟨t550,t551,t552,t553,t554⟩:S66)) (k66_mkM _ _ _ (⟨t550,t551,t552,t553,t554⟩:S66) ) (fun _ hk=>hk);have hx12_0:=hcc12 0 _ rfl;(try simp only [show (k66).sz=5 from rfl,Nat.mul_one,Nat.add_zero] at hx12_0);have hf12_0:=hfr12 0;(try simp only [show (k66).sz=5 from rfl,Nat.mul_one,Nat.add_zero] at hf12_0);have hx12_1:=hcc12 1 _ rfl;(try simp only [show (k66).sz=5 from rfl,Nat.mul_one,Nat.add_zero] at hx12_1);have hf12_1:=hfr12 1;(try simp only [show (k66).sz=5 from rfl,Nat.mul_one,Nat.add_zero] at hf12_1);have hx12_2:=hcc12 2 _ rfl;(try simp only [show (k66).sz=5 from rfl,Nat.mul_one,Nat.add_zero] at hx12_2);have hf12_2:=hfr12 2;(try simp only [show (k66).sz=5 from rfl,Nat.mul_one,Nat.add_zero] at hf12_2);have hx12_3:=hcc12 3 _ rfl;(try simp only [show (k66).sz=5 from rfl,Nat.mul_one,Nat.add_zero] at hx12_3);have hf12_3:=hfr12 3;(try simp only [show (k66).sz=5 from rfl,Nat.mul_one,Nat.add_zero] at hf12_3);have hx12_4:=hcc12 4 _ rfl;(try simp only [show (k66).sz=5 from rfl,Nat.mul_one,Nat.add_zero] at hx12_4);have hf12_4:=hfr12 4;(try simp only [show (k66).sz=5 from rfl,Nat.mul_one,Nat.add_zero] at hf12_4);clear hcl12 hcc12 hfr12 hM12) |((with_reducible refine gate_store (t:=66) (p:=21) rfl ?_);refine store_event (t:=66) (p:=21) (v:=?vo_w13) (w1:=(((((w11.setCell ⟨go10,(x4_1:Int).toNat * 5,none⟩ (.int .i64 t550)).setCell ⟨go10,(x4_1:Int).toNat * 5+1,none⟩ (.int .i64 t551)).setCell ⟨go10,(x4_1:Int).toNat * 5+2,none⟩ (.int .i64 t552)).setCell ⟨go10,(x4_1:Int).toNat * 5+3,none⟩ (.int .i64 t553)).setCell ⟨go10,(x4_1:Int).toNat * 5+4,none⟩ (.bool t554))) ?hg ?ho ?hn ?hr ?_;(case ho=>rfl);(case hg=>rfl);(case hn=>rfl);(case hr=>exact Y6);intro w13 hw;have hg:w11.grownBy w13 (some go10):=(by rw [hw];exact HP12.2);have hp_:Kd.R k66 66 w13 w.heap.size (fun _=>True) (.slice (some ⟨go10,0,none⟩) x3_1.length co10) y555:=(by rw [hw,Ny555.out];exact HP12.1);clear HP12;replace HO_3:=am (hp_);replace HB:=am ((by rw [hw];exact jf (jf (jf (jf (jf (HB.out) GB10.out) GB10.out) GB10.out) GB10.out) GB10.out:Below w.heap.size w w13));clear hg hw hp_))
        go_roundg k1
        case measure=>have:=HK1.out;omega
        case rel=>exact ⟨(y555),(wrap64 (x4_1+1)),(sq),H',⟨by have:=HK1.out;omega⟩,⟨rq HO_3.out⟩,⟨bq⟩⟩
       ·rw [if_neg c9] at H
        exact absurd H (by simp)
      ·rw [if_neg c7] at H
       exact absurd H (by simp)
     ·rw [if_neg c6] at H
      have c6b0:decide (x4_1<(l0.length:Int))=false:=dzF c6
      clear c6
      obtain rfl:=Option.some.inj H
      go_wp2
      go_ret
      exact ⟨_,Y1,rq HO_3.out,bq⟩
  ·rw [if_neg c3] at H
   exact absurd H (by simp)
 ·rw [if_neg c2] at H
  exact absurd H (by simp)
def jO.f (k : Nat) (l0_0 : List (S102)) : Option ((List (S66))) := (jX.f k l0_0).bind fun t559 => (some t559)
set_option maxHeartbeats 8000000 in
set_option maxRecDepth 100000 in
theorem jO.calls (k : Nat) (A0_0 : Option Addr) (c0_0 : Nat) (l0_0 : List (S102)) (r : List (S66)) (w : World) (hr0_0 : Kd.C k102 w A0_0 l0_0.length l0_0) (hc0_0 : l0_0.length ≤ c0_0) (h : jO.f k l0_0 = some r) :
  Calls Tryd.prog 19 #[.agg #[.slice A0_0 l0_0.length c0_0]] w fun e w'=>∃ v0_:Value,e=.returned (.agg #[v0_])∧Kd.R k66 66 w' w.heap.size (fun _=>True) v0_ r∧Below w.heap.size w w':=by
 have hu44:=Tryd.underlying44
 have hu28:=Tryd.underlying28
 have HR0_0:=am hr0_0
 have HC0_0:=am hc0_0
 clear hr0_0 hc0_0
 have HB:=am (Below.refl w.heap.size w)
 have H:((jX.f k l0_0).bind fun t559=>(some t559))=some r:=h
 clear h
 replace H:=bzS H
 obtain ⟨t559,A20,H⟩:=H
 replace H:(some t559)=some r:=H
 have A2:=am A20
 clear A20
 obtain rfl:=Option.some.inj H
 go_enter Tryd.func19,Tryd.ntmps19
 go_wp2_with (first |((with_reducible refine jr (N:=1) rfl ?_);refine bE (N:=1) (cs:=#[.slice A0_0 l0_0.length c0_0]) (t:=44) ?_;intro gb556 hg w3 hbox hb;have BK556:=am (hbox);have GW556:=am ((Y0:w.heap.size≤gb556));have GE556:=am ((Y0:w.heap.size≤gb556));replace HB:=am (jd (bq) hb);clear hb hbox hg) |((with_reducible refine jr (N:=2) rfl ?_);refine bE (N:=2) (cs:=#[.slice none 0 0]) (t:=28) ?_;intro gb557 hg w4 hbox hb;have BK557:=am (hbox);have GW557:=am ((Y96:w.heap.size≤gb557));have GE557:=am ((Y96:w.heap.size≤gb557));have NB556_557:=am ((by rw [hg];exact Nat.ne_of_lt (jT (g:=gb556) (o:=.cells #[.slice A0_0 l0_0.length c0_0] 44 (0,0)) (kq BK556.out)):gb556≠gb557));have NB557_556:=am ((by rw [hg];exact Nat.ne_of_gt (jT (g:=gb556) (o:=.cells #[.slice A0_0 l0_0.length c0_0] 44 (0,0)) (kq BK556.out)):gb557≠gb556));replace BK556:=am (jc (g:=gb556) (o:=.cells #[.slice A0_0 l0_0.length c0_0] 44 (0,0)) (kq BK556.out) hb);replace HB:=am (jd (by repeat (first |(with_reducible first | exact HB.out | apply jh | apply je | apply jk | refine jf ?_ GE556.out) | exact HB.out)) hb);clear hb hbox hg) |((with_reducible refine jr (N:=3) rfl ?_);refine bE (N:=3) (cs:=#[.slice none 0 0]) (t:=28) ?_;intro gb558 hg w5 hbox hb;have BK558:=am (hbox);have GW558:=am ((Y97:w.heap.size≤gb558));have GE558:=am ((Y97:w.heap.size≤gb558));have NB556_558:=am ((by rw [hg];exact Nat.ne_of_lt (jT (g:=gb556) (o:=.cells #[.slice A0_0 l0_0.length c0_0] 44 (0,0)) (kq BK556.out)):gb556≠gb558));have NB558_556:=am ((by rw [hg];exact Nat.ne_of_gt (jT (g:=gb556) (o:=.cells #[.slice A0_0 l0_0.length c0_0] 44 (0,0)) (kq BK556.out)):gb558≠gb556));have NB557_558:=am ((by rw [hg];exact Nat.ne_of_lt (jT (g:=gb557) (o:=.cells #[.slice none 0 0] 28 (0,0)) (kq BK557.out)):gb557≠gb558));have NB558_557:=am ((by rw [hg];exact Nat.ne_of_gt (jT (g:=gb557) (o:=.cells #[.slice none 0 0] 28 (0,0)) (kq BK557.out)):gb558≠gb557));replace BK556:=am (jc (g:=gb556) (o:=.cells #[.slice A0_0 l0_0.length c0_0] 44 (0,0)) (kq BK556.out) hb);replace BK557:=am (jc (g:=gb557) (o:=.cells #[.slice none 0 0] 28 (0,0)) (kq BK557.out) hb);replace HB:=am (jd (by repeat (first |(with_reducible first | exact HB.out | apply jh | apply je | apply jk | refine jf ?_ GE556.out | refine jf ?_ GE557.out) | exact HB.out)) hb);clear hb hbox hg;have hnb6:=NB556_557.out;have hnc6:=NB557_556.out;have hnb7:=NB556_558.out;have hnc7:=NB558_556.out;have hcz8_0:=bc0 BK556.out;have hfz8_0:=ja BK556.out 0) |((with_reducible refine jB (f:=40) rfl ?_);refine gL (some 6) Tryd.func40 #[.slice A0_0 l0_0.length c0_0] ?_;(with_reducible refine (jX.calls k _ _ l0_0 t559 _ ?side1 ?side2 A2.out).mono ?_);(case side1=>exact cq (Kd.jD HR0_0.out HB.out));(case side2=>exact HC0_0.out);rintro e w9 ⟨v560,rfl,ho0,hb⟩;refine ⟨_,rfl,?_⟩;have HO561:=am (Kd.jGa ho0 (jE (Y73)));replace BK556:=am (jc (g:=gb556) (o:=.cells #[.slice A0_0 l0_0.length c0_0] 44 (0,0)) (kq BK556.out) hb);replace BK557:=am (jc (g:=gb557) (o:=.cells #[.slice none 0 0] 28 (0,0)) (kq BK557.out) hb);replace BK558:=am (jc (g:=gb558) (o:=.cells #[.slice none 0 0] 28 (0,0)) (kq BK558.out) hb);replace HB:=am (jd (Y73) hb);(try clear hb);(try clear hb2);(try clear hk);(try clear hi);(try clear ho0);obtain ⟨Ao10,co10,eo10⟩:=Kd.jEa HO561.out;subst eo10;have hnb11:=NB558_557.out;have hnc11:=NB557_558.out;have hcz12_0:=bc0 BK558.out;have hfz12_0:=ja BK558.out 0;have hcz13_0:=bc0 BK557.out;have hfz13_0:=ja BK557.out 0))
 refine bodyPost_ret (results_cell_row rfl _ _ gb557 28 #[.slice Ao10 t559.length co10] (0,0) _ rfl (by (with_reducible repeat (first | refine jm ?_ _ | refine jv ?_ | refine jw ?_ _));refine jDa (cs:=#[.slice none 0 0]) ?_ 0 _ rfl;(with_reducible repeat (first | refine jm ?_ _ | refine jv ?_ | refine jw ?_ _));refine jma ?_ NB557_558.out _;(with_reducible repeat (first | refine jm ?_ _ | refine jv ?_ | refine jw ?_ _));exact BK557.out) Tryd.underlying28 rfl (by kernel_rfl)) rfl ?_
 exact ⟨_,Y1,by (with_reducible repeat (first | apply Kd.jpb | apply Kd.jyb | apply Kd.jWa));exact Kd.jcb (Kd.R_far (p:=⟨gb557,0,none⟩) (Kd.R_far (p:=⟨gb558,0,none⟩) (Kd.jnb (Kd.jnb HO561.out BK558.out (by decide)) BK557.out (by decide)) (fun _ hk=>hk.1.2) (.slice Ao10 t559.length co10)) (fun _ hk=>hk.2) (.slice Ao10 t559.length co10)) (fun _ hk=>trivial),Y73⟩
def jib.f (a0_0 : ByteArray) (a0_1 : Int) (a1_0 : ByteArray) (a1_1 : Int) : Option (Bool) := if a0_0.toList = a1_0.toList then (if a0_1 = a1_1 then (some true) else (some false)) else (some false)
set_option maxHeartbeats 8000000 in
set_option maxRecDepth 100000 in
theorem jib.calls (a0_0 : ByteArray) (a0_1 : Int) (a1_0 : ByteArray) (a1_1 : Int) (r : Bool) (w : World) (h : jib.f a0_0 a0_1 a1_0 a1_1 = some r) :
  Calls Tryd.prog 65 #[.agg #[.string a0_0, .int .i64 a0_1], .agg #[.string a1_0, .int .i64 a1_1]] w fun e w'=>e=.returned (.bool r)∧Below w.heap.size w w':=by
 have hu99:=Tryd.underlying99
 have HB:=am (Below.refl w.heap.size w)
 have H:(if a0_0.toList=a1_0.toList then (if a0_1=a1_1 then (some true) else (some false)) else (some false))=some r:=h
 clear h
 by_cases c3:a0_0.toList=a1_0.toList
 ·rw [if_pos c3] at H
  have c3b0:(a0_0.toList == a1_0.toList)=true:=beq_iff_eq.mpr c3
  have c3b1:(a0_0.toList != a1_0.toList)=false:=bne_eq_false_iff_eq.mpr c3
  clear c3
  by_cases c4:a0_1=a1_1
  ·rw [if_pos c4] at H
   have c4b0:(a0_1 == a1_1)=true:=beq_iff_eq.mpr c4
   have c4b1:(a0_1 != a1_1)=false:=bne_eq_false_iff_eq.mpr c4
   clear c4
   obtain rfl:=Option.some.inj H
   go_enter Tryd.func65,Tryd.ntmps65
   go_wp2_with (first |((with_reducible refine jr (N:=2) rfl ?_);refine bE (N:=2) (cs:=#[.string a0_0, .int .i64 a0_1]) (t:=99) ?_;intro gb562 hg w5 hbox hb;have BK562:=am (hbox);have GW562:=am ((Y0:w.heap.size≤gb562));have GE562:=am ((Y0:w.heap.size≤gb562));replace HB:=am (jd (bq) hb);clear hb hbox hg) |((with_reducible refine jr (N:=3) rfl ?_);refine bE (N:=3) (cs:=#[.string a1_0, .int .i64 a1_1]) (t:=99) ?_;intro gb563 hg w6 hbox hb;have BK563:=am (hbox);have GW563:=am ((Y27:w.heap.size≤gb563));have GE563:=am ((Y27:w.heap.size≤gb563));have NB562_563:=am ((Y74:gb562≠gb563));have NB563_562:=am ((Y75:gb563≠gb562));replace BK562:=am (jc (g:=gb562) (o:=.cells #[.string a0_0, .int .i64 a0_1] 99 (0,0)) (kq BK562.out) hb);replace HB:=am (jd (Y76) hb);clear hb hbox hg;have hnb7:=NB562_563.out;have hnc7:=NB563_562.out;have hcz8_0:=bc0 BK562.out;have hcz8_1:=bc1 BK562.out;have hfz8_0:=ja BK562.out 0;have hfz8_1:=ja BK562.out 1;have hcz9_0:=bc0 BK563.out;have hcz9_1:=bc1 BK563.out;have hfz9_0:=ja BK563.out 0;have hfz9_1:=ja BK563.out 1))
   go_ret
   exact ⟨Y1,Y77⟩
  ·rw [if_neg c4] at H
   have c4b0:(a0_1 == a1_1)=false:=beq_eq_false_iff_ne.mpr c4
   have c4b1:(a0_1 != a1_1)=true:=bne_iff_ne.mpr c4
   obtain rfl:=Option.some.inj H
   go_enter Tryd.func65,Tryd.ntmps65
   go_wp2_with (first |((with_reducible refine jr (N:=2) rfl ?_);refine bE (N:=2) (cs:=#[.string a0_0, .int .i64 a0_1]) (t:=99) ?_;intro gb562 hg w10 hbox hb;have BK562:=am (hbox);have GW562:=am ((Y0:w.heap.size≤gb562));have GE562:=am ((Y0:w.heap.size≤gb562));replace HB:=am (jd (bq) hb);clear hb hbox hg) |((with_reducible refine jr (N:=3) rfl ?_);refine bE (N:=3) (cs:=#[.string a1_0, .int .i64 a1_1]) (t:=99) ?_;intro gb563 hg w11 hbox hb;have BK563:=am (hbox);have GW563:=am ((Y27:w.heap.size≤gb563));have GE563:=am ((Y27:w.heap.size≤gb563));have NB562_563:=am ((Y74:gb562≠gb563));have NB563_562:=am ((Y75:gb563≠gb562));replace BK562:=am (jc (g:=gb562) (o:=.cells #[.string a0_0, .int .i64 a0_1] 99 (0,0)) (kq BK562.out) hb);replace HB:=am (jd (Y76) hb);clear hb hbox hg;have hnb12:=NB562_563.out;have hnc12:=NB563_562.out;have hcz13_0:=bc0 BK562.out;have hcz13_1:=bc1 BK562.out;have hfz13_0:=ja BK562.out 0;have hfz13_1:=ja BK562.out 1;have hcz14_0:=bc0 BK563.out;have hcz14_1:=bc1 BK563.out;have hfz14_0:=ja BK563.out 0;have hfz14_1:=ja BK563.out 1))
   go_ret
   exact ⟨Y1,Y77⟩
 ·rw [if_neg c3] at H
  have c3b0:(a0_0.toList == a1_0.toList)=false:=beq_eq_false_iff_ne.mpr c3
  have c3b1:(a0_0.toList != a1_0.toList)=true:=bne_iff_ne.mpr c3
  obtain rfl:=Option.some.inj H
  go_enter Tryd.func65,Tryd.ntmps65
  go_wp2_with (first |((with_reducible refine jr (N:=2) rfl ?_);refine bE (N:=2) (cs:=#[.string a0_0, .int .i64 a0_1]) (t:=99) ?_;intro gb562 hg w15 hbox hb;have BK562:=am (hbox);have GW562:=am ((Y0:w.heap.size≤gb562));have GE562:=am ((Y0:w.heap.size≤gb562));replace HB:=am (jd (bq) hb);clear hb hbox hg) |((with_reducible refine jr (N:=3) rfl ?_);refine bE (N:=3) (cs:=#[.string a1_0, .int .i64 a1_1]) (t:=99) ?_;intro gb563 hg w16 hbox hb;have BK563:=am (hbox);have GW563:=am ((Y27:w.heap.size≤gb563));have GE563:=am ((Y27:w.heap.size≤gb563));have NB562_563:=am ((Y74:gb562≠gb563));have NB563_562:=am ((Y75:gb563≠gb562));replace BK562:=am (jc (g:=gb562) (o:=.cells #[.string a0_0, .int .i64 a0_1] 99 (0,0)) (kq BK562.out) hb);replace HB:=am (jd (Y76) hb);clear hb hbox hg;have hnb17:=NB562_563.out;have hnc17:=NB563_562.out;have hcz18_0:=bc0 BK562.out;have hcz18_1:=bc1 BK562.out;have hfz18_0:=ja BK562.out 0;have hfz18_1:=ja BK562.out 1;have hcz19_0:=bc0 BK563.out;have hcz19_1:=bc1 BK563.out;have hfz19_0:=ja BK563.out 0;have hfz19_1:=ja BK563.out 1))
  go_ret
  exact ⟨Y1,Y77⟩
def jM.l0 : Nat → List (S99) → List (S99) → Int → Option (Bool)
 | 0,_,_,_=>none
 | k+1,x0,x1,x5=>if x5<(x0.length:Int) then (if 0≤x5 then (if x5<(x1.length:Int) then ((jib.f ((jA x0 x5).f0) ((jA x0 x5).f1) ((jA x1 x5).f0) ((jA x1 x5).f1)).bind fun t566=>(if t566=true then (jM.l0 k x0 x1 (wrap64 (x5+1))) else (some false))) else (none)) else (none)) else (some true)
def jM.f (k : Nat) (l0 : List (S99)) (l1 : List (S99)) : Option (Bool) := if (l0.length : Int) = (l1.length : Int) then (jM.l0 k l0 l1 0) else (some false)
def jM.T6 : Bool × List (List Nat × List Nat) := (true, [([], []), ([], []), ([0, 1], [0, 1]), ([2], [2]), ([], []), ([], []), ([4, 5], [4, 5]), ([6], [6]), ([3, 7], [3, 7]), ([8], [8])])
def jM.B6 : List Nat := [0, 0, 3, 7, 0, 0, 48, 112, 255, 511]
theorem jM.tab6 : rtab .any (opsOf Tryd.f41 6) = jM.T6 := by kernel_rfl
theorem jM.bits6 : waitsOk jM.T6.2 jM.B6 = true := by kernel_rfl
set_option maxHeartbeats 8000000 in
set_option maxRecDepth 100000 in
theorem jM.calls (k : Nat) (A0 : Option Addr) (c0 : Nat) (l0 : List (S99)) (A1 : Option Addr) (c1 : Nat) (l1 : List (S99)) (r : Bool) (w : World) (hr0 : Kd.C k99 w A0 l0.length l0) (hc0 : l0.length ≤ c0) (hr1 : Kd.C k99 w A1 l1.length l1) (hc1 : l1.length ≤ c1) (h : jM.f k l0 l1 = some r) :
  Calls Tryd.prog 41 #[.slice A0 l0.length c0, .slice A1 l1.length c1] w fun e w'=>e=.returned (.bool r)∧Below w.heap.size w w':=by
 have hu99:=Tryd.underlying99
 have HR0:=am hr0
 have HC0:=am hc0
 clear hr0 hc0
 have HR1:=am hr1
 have HC1:=am hc1
 clear hr1 hc1
 have HB:=am (Below.refl w.heap.size w)
 have H:(if (l0.length:Int)=(l1.length:Int) then (jM.l0 k l0 l1 0) else (some false))=some r:=h
 clear h
 by_cases c3:(l0.length:Int)=(l1.length:Int)
 ·rw [if_pos c3] at H
  have c3b0:((l0.length:Int) == (l1.length:Int))=true:=beq_iff_eq.mpr c3
  have c3b1:((l0.length:Int) != (l1.length:Int))=false:=bne_eq_false_iff_eq.mpr c3
  have c3b2:(l0.length == l1.length)=true:=by first | simpa using c3 |(simp at c3 ⊢;omega)
  clear c3
  have H':=am H
  clear H
  go_enter Tryd.func41,Tryd.ntmps41
  go_wp2
  go_loopg [5] k (fun kq v5 w'=>∃ (x5_1:Int),v5=.int .i64 x5_1∧jH (jM.l0 kq l0 l1 x5_1=some r)∧jH (kq≤k)∧jH (Below w.heap.size w w'))
  case atStart=>exact ⟨(0),(sq),H',⟨Nat.le_refl _⟩,⟨bq⟩⟩
  case round =>
   clear H'
   try clear c1
   try clear p2
   try clear c3
   try clear c3b0
   try clear c3b1
   try clear c3b2
   obtain ⟨x5_1,rfl,HA,HK1,HB⟩:=hrel
   cases gk with
   | zero=>exact absurd HA.out (by simp [jM.l0])
   | succ k1 =>
    have H:=HA.out
    clear HA
    simp only [jM.l0] at H
    by_cases c4:x5_1<(l0.length:Int)
    ·rw [if_pos c4] at H
     have c4b0:decide (x5_1<(l0.length:Int))=true:=dzT c4
     clear c4
     by_cases c5:0≤x5_1
     ·rw [if_pos c5] at H
      have c5b0:decide (0≤x5_1)=true:=dzT c5
      clear c5
      by_cases c6:x5_1<(l1.length:Int)
      ·rw [if_pos c6] at H
       have c6b0:decide (x5_1<(l1.length:Int))=true:=dzT c6
       clear c6
       replace H:=bzS H
       obtain ⟨t566,A70,H⟩:=H
       replace H:(if t566=true then (jM.l0 k1 l0 l1 (wrap64 (x5_1+1))) else (some false))=some r:=H
       have A7:=am A70
       clear A70
       by_cases c8:t566=true
       ·subst c8
        have H1:(jM.l0 k1 l0 l1 (wrap64 (x5_1+1)))=some r:=by rw [if_pos rfl] at H;exact H
        clear H
        have H:=H1
        clear H1
        have H':=am H
        clear H
        try go_wp2
        replace HB:=am (jk HB.out)
        have p564:0≤(x5_1:Int):=ozD (uq)
        have q564:x5_1<(l0.length:Int):=ozD (uq)
        obtain ⟨ad564,e564,hx564_0,hx564_1⟩:=jxb HR0.out x5_1 p564 q564
        have hw564_1:=hx564_1
        have hw564_0:=hx564_0
        cases e564
        replace hx564_0:=cb HB.out hx564_0
        replace hx564_1:=cb HB.out hx564_1
        replace p564:=ezT p564
        replace q564:=ezT q564
        have p565:0≤(x5_1:Int):=ozD (uq)
        have q565:x5_1<(l1.length:Int):=ozD (uq)
        obtain ⟨ad565,e565,hx565_0,hx565_1⟩:=jxb HR1.out x5_1 p565 q565
        have hw565_1:=hx565_1
        have hw565_0:=hx565_0
        cases e565
        replace hx565_0:=cb HB.out hx565_0
        replace hx565_1:=cb HB.out hx565_1
        replace p565:=ezT p565
        replace q565:=ezT q565
        refine start_ (n:=10) (S:=fun w'=>w'.cell? (ad564.add ((x5_1).toNat * 2))=some (.string ((jA l0 x5_1).f0))∧w'.cell? ⟨(ad564.add ((x5_1).toNat * 2)).block,(ad564.add ((x5_1).toNat * 2)).off+1,none⟩=some (.int .i64 ((jA l0 x5_1).f1))∧w'.cell? (ad565.add ((x5_1).toNat * 2))=some (.string ((jA l1 x5_1).f0))∧w'.cell? ⟨(ad565.add ((x5_1).toNat * 2)).block,(ad565.add ((x5_1).toNat * 2)).off+1,none⟩=some (.int .i64 ((jA l1 x5_1).f1))) (ds:=[]) #[false,false,false,false,false,false,false,false,false,false] (by kernel_rfl) rfl rfl ⟨((HB.out.cell (World.block_lt_of_cell? w _ hw564_0)).trans hw564_0),((HB.out.cell (World.block_lt_of_cell? w _ hw564_1)).trans hw564_1),((HB.out.cell (World.block_lt_of_cell? w _ hw565_0)).trans hw565_0),((HB.out.cell (World.block_lt_of_cell? w _ hw565_1)).trans hw565_1)⟩ (fun hHeld=>?_);refine jwb jM.tab6 jM.bits6 (fun HT_ HW_=>?_)
        generalize wr.drew=w9 at HB hx564_0 hx564_1 hx565_0 hx565_1 hHeld ⊢
        refine pq (i:=0) (N:=some 17) #[true,false,false,false,false,false,false,false,false,false] ?_
        refine pq (i:=1) (N:=some 18) #[true,true,false,false,false,false,false,false,false,false] ?_
        refine pq (i:=2) (N:=some 19) #[true,true,true,false,false,false,false,false,false,false] ?_
        refine pq (i:=4) (N:=some 21) #[true,true,true,false,true,false,false,false,false,false] ?_
        refine pq (i:=5) (N:=some 22) #[true,true,true,false,true,true,false,false,false,false] ?_
        refine pq (i:=6) (N:=some 23) #[true,true,true,false,true,true,true,false,false,false] ?_
        refine jzb (i:=3) (N:=some 20) (v:=?_) (a':=?_) #[true,true,true,true,true,true,true,false,false,false] rfl rfl (jUa HT_.out HW_.out (by kernel_rfl)) (fun _ _ _ h=>h) (Or.inl ⟨by rfl,?_⟩) hHeld ?_ ?_
        rotate_left
        ·rintro w' ⟨s0,s1,s2,s3⟩
         go_simp
         with_reducible rfl
        rotate_left
        ·exact sa
        refine jzb (i:=7) (N:=some 24) (v:=?_) (a':=?_) #[true,true,true,true,true,true,true,true,false,false] rfl rfl (jUa HT_.out HW_.out (by kernel_rfl)) (fun _ _ _ h=>h) (Or.inl ⟨by rfl,?_⟩) hHeld ?_ ?_
        rotate_left
        ·rintro w' ⟨s0,s1,s2,s3⟩
         go_simp
         with_reducible rfl
        rotate_left
        ·exact sa
        refine one_ (i:=8) (N:=some 25) #[true,true,true,true,true,true,true,true,true,false] rfl rfl (one_of HT_.out (by kernel_rfl)) (by decide) (fun K hK=>?_)
        refine goes_ Tryd.func65 (by kernel_rfl) rfl #[.agg #[.string ((jA l0 x5_1).f0), .int .i64 ((jA l0 x5_1).f1)], .agg #[.string ((jA l1 x5_1).f0), .int .i64 ((jA l1 x5_1).f1)]] (by rfl) rfl rfl (aq) ?_
        with_reducible refine (jib.calls ((jA l0 x5_1).f0) ((jA l0 x5_1).f1) ((jA l1 x5_1).f0) ((jA l1 x5_1).f1) true _ A7.out).mono ?_
        rintro e w10 ⟨rfl,hb⟩
        refine ⟨_,rfl,?_⟩
        replace HB:=am (jd (bq) hb)
        (try clear hb)
        (try clear hb2)
        (try clear hk)
        (try clear hi)
        refine hK.out _ _ ⟨((HB.out.cell (World.block_lt_of_cell? w _ hw564_0)).trans hw564_0),((HB.out.cell (World.block_lt_of_cell? w _ hw564_1)).trans hw564_1),((HB.out.cell (World.block_lt_of_cell? w _ hw565_0)).trans hw565_0),((HB.out.cell (World.block_lt_of_cell? w _ hw565_1)).trans hw565_1)⟩ (fun hHeld=>?_)
        clear hK K
        refine norm_ (a':=?_) ?_ ?_
        rotate_left
        ·show Act.put _ (some 25) _=_
         simp only [Act.put,List.setIfInBounds_toArray,List.set_cons_zero,List.set_cons_succ,jEb,i32_w]
         rfl
        refine pq (i:=9) (N:=some 26) #[true,true,true,true,true,true,true,true,true,true] ?_
        refine done_ (done_of HT_.out (by kernel_rfl)) ?_
        try go_wp2
        go_roundg k1
        case measure=>have:=HK1.out;omega
        case rel=>exact ⟨(wrap64 (x5_1+1)),(sq),H',⟨by have:=HK1.out;omega⟩,⟨bq⟩⟩
       ·replace c8:=Bool.eq_false_iff.mpr c8
        subst c8
        have H1:(some false)=some r:=by rw [if_neg (show ¬ (false=true) by decide)] at H;exact H
        clear H
        have H:=H1
        clear H1
        obtain rfl:=Option.some.inj H
        try go_wp2
        replace HB:=am (jk HB.out)
        have p564:0≤(x5_1:Int):=ozD (uq)
        have q564:x5_1<(l0.length:Int):=ozD (uq)
        obtain ⟨ad564,e564,hx564_0,hx564_1⟩:=jxb HR0.out x5_1 p564 q564
        have hw564_1:=hx564_1
        have hw564_0:=hx564_0
        cases e564
        replace hx564_0:=cb HB.out hx564_0
        replace hx564_1:=cb HB.out hx564_1
        replace p564:=ezT p564
        replace q564:=ezT q564
        have p565:0≤(x5_1:Int):=ozD (uq)
        have q565:x5_1<(l1.length:Int):=ozD (uq)
        obtain ⟨ad565,e565,hx565_0,hx565_1⟩:=jxb HR1.out x5_1 p565 q565
        have hw565_1:=hx565_1
        have hw565_0:=hx565_0
        cases e565
        replace hx565_0:=cb HB.out hx565_0
        replace hx565_1:=cb HB.out hx565_1
        replace p565:=ezT p565
        replace q565:=ezT q565
        refine start_ (n:=10) (S:=fun w'=>w'.cell? (ad564.add ((x5_1).toNat * 2))=some (.string ((jA l0 x5_1).f0))∧w'.cell? ⟨(ad564.add ((x5_1).toNat * 2)).block,(ad564.add ((x5_1).toNat * 2)).off+1,none⟩=some (.int .i64 ((jA l0 x5_1).f1))∧w'.cell? (ad565.add ((x5_1).toNat * 2))=some (.string ((jA l1 x5_1).f0))∧w'.cell? ⟨(ad565.add ((x5_1).toNat * 2)).block,(ad565.add ((x5_1).toNat * 2)).off+1,none⟩=some (.int .i64 ((jA l1 x5_1).f1))) (ds:=[]) #[false,false,false,false,false,false,false,false,false,false] (by kernel_rfl) rfl rfl ⟨((HB.out.cell (World.block_lt_of_cell? w _ hw564_0)).trans hw564_0),((HB.out.cell (World.block_lt_of_cell? w _ hw564_1)).trans hw564_1),((HB.out.cell (World.block_lt_of_cell? w _ hw565_0)).trans hw565_0),((HB.out.cell (World.block_lt_of_cell? w _ hw565_1)).trans hw565_1)⟩ (fun hHeld=>?_);refine jwb jM.tab6 jM.bits6 (fun HT_ HW_=>?_)
        generalize wr.drew=w11 at HB hx564_0 hx564_1 hx565_0 hx565_1 hHeld ⊢
        refine pq (i:=0) (N:=some 17) #[true,false,false,false,false,false,false,false,false,false] ?_
        refine pq (i:=1) (N:=some 18) #[true,true,false,false,false,false,false,false,false,false] ?_
        refine pq (i:=2) (N:=some 19) #[true,true,true,false,false,false,false,false,false,false] ?_
        refine pq (i:=4) (N:=some 21) #[true,true,true,false,true,false,false,false,false,false] ?_
        refine pq (i:=5) (N:=some 22) #[true,true,true,false,true,true,false,false,false,false] ?_
        refine pq (i:=6) (N:=some 23) #[true,true,true,false,true,true,true,false,false,false] ?_
        refine jzb (i:=3) (N:=some 20) (v:=?_) (a':=?_) #[true,true,true,true,true,true,true,false,false,false] rfl rfl (jUa HT_.out HW_.out (by kernel_rfl)) (fun _ _ _ h=>h) (Or.inl ⟨by rfl,?_⟩) hHeld ?_ ?_
        rotate_left
        ·rintro w' ⟨s0,s1,s2,s3⟩
         go_simp
         with_reducible rfl
        rotate_left
        ·exact sa
        refine jzb (i:=7) (N:=some 24) (v:=?_) (a':=?_) #[true,true,true,true,true,true,true,true,false,false] rfl rfl (jUa HT_.out HW_.out (by kernel_rfl)) (fun _ _ _ h=>h) (Or.inl ⟨by rfl,?_⟩) hHeld ?_ ?_
        rotate_left
        ·rintro w' ⟨s0,s1,s2,s3⟩
         go_simp
         with_reducible rfl
        rotate_left
        ·exact sa
        refine one_ (i:=8) (N:=some 25) #[true,true,true,true,true,true,true,true,true,false] rfl rfl (one_of HT_.out (by kernel_rfl)) (by decide) (fun K hK=>?_)
        refine goes_ Tryd.func65 (by kernel_rfl) rfl #[.agg #[.string ((jA l0 x5_1).f0), .int .i64 ((jA l0 x5_1).f1)], .agg #[.string ((jA l1 x5_1).f0), .int .i64 ((jA l1 x5_1).f1)]] (by rfl) rfl rfl (aq) ?_
        with_reducible refine (jib.calls ((jA l0 x5_1).f0) ((jA l0 x5_1).f1) ((jA l1 x5_1).f0) ((jA l1 x5_1).f1) false _ A7.out).mono ?_
        rintro e w12 ⟨rfl,hb⟩
        refine ⟨_,rfl,?_⟩
        replace HB:=am (jd (bq) hb)
        (try clear hb)
        (try clear hb2)
        (try clear hk)
        (try clear hi)
        refine hK.out _ _ ⟨((HB.out.cell (World.block_lt_of_cell? w _ hw564_0)).trans hw564_0),((HB.out.cell (World.block_lt_of_cell? w _ hw564_1)).trans hw564_1),((HB.out.cell (World.block_lt_of_cell? w _ hw565_0)).trans hw565_0),((HB.out.cell (World.block_lt_of_cell? w _ hw565_1)).trans hw565_1)⟩ (fun hHeld=>?_)
        clear hK K
        refine norm_ (a':=?_) ?_ ?_
        rotate_left
        ·show Act.put _ (some 25) _=_
         simp only [Act.put,List.setIfInBounds_toArray,List.set_cons_zero,List.set_cons_succ,jEb,i32_w]
         rfl
        refine pq (i:=9) (N:=some 26) #[true,true,true,true,true,true,true,true,true,true] ?_
        refine done_ (done_of HT_.out (by kernel_rfl)) ?_
        try go_wp2
        go_ret
        exact ⟨Y1,bq⟩
      ·rw [if_neg c6] at H
       exact absurd H (by simp)
     ·rw [if_neg c5] at H
      exact absurd H (by simp)
    ·rw [if_neg c4] at H
     have c4b0:decide (x5_1<(l0.length:Int))=false:=dzF c4
     clear c4
     obtain rfl:=Option.some.inj H
     go_wp2
     go_ret
     exact ⟨Y1,bq⟩
 ·rw [if_neg c3] at H
  have c3b0:((l0.length:Int) == (l1.length:Int))=false:=beq_eq_false_iff_ne.mpr c3
  have c3b1:((l0.length:Int) != (l1.length:Int))=true:=bne_iff_ne.mpr c3
  have c3b2:(l0.length == l1.length)=false:=by first | simpa using c3 |(simp at c3 ⊢;omega)
  obtain rfl:=Option.some.inj H
  go_enter Tryd.func41,Tryd.ntmps41
  go_wp2
  go_ret
  exact ⟨Y1,bq⟩
def jwa.f (k : Nat) (l0_0 : List (S99)) (l1_0 : List (S99)) : Option (Bool) := (jM.f k l0_0 l1_0).bind fun t569 => (if t569 = true then (some true) else (some false))
set_option maxHeartbeats 8000000 in
set_option maxRecDepth 100000 in
theorem jwa.calls (k : Nat) (A0_0 : Option Addr) (c0_0 : Nat) (l0_0 : List (S99)) (A1_0 : Option Addr) (c1_0 : Nat) (l1_0 : List (S99)) (r : Bool) (w : World) (hr0_0 : Kd.C k99 w A0_0 l0_0.length l0_0) (hc0_0 : l0_0.length ≤ c0_0) (hr1_0 : Kd.C k99 w A1_0 l1_0.length l1_0) (hc1_0 : l1_0.length ≤ c1_0) (h : jwa.f k l0_0 l1_0 = some r) :
  Calls Tryd.prog 20 #[.agg #[.slice A0_0 l0_0.length c0_0], .agg #[.slice A1_0 l1_0.length c1_0]] w fun e w'=>e=.returned (.bool r)∧Below w.heap.size w w':=by
 have hu25:=Tryd.underlying25
 have HR0_0:=am hr0_0
 have HC0_0:=am hc0_0
 clear hr0_0 hc0_0
 have HR1_0:=am hr1_0
 have HC1_0:=am hc1_0
 clear hr1_0 hc1_0
 have HB:=am (Below.refl w.heap.size w)
 have H:((jM.f k l0_0 l1_0).bind fun t569=>(if t569=true then (some true) else (some false)))=some r:=h
 clear h
 replace H:=bzS H
 obtain ⟨t569,A30,H⟩:=H
 replace H:(if t569=true then (some true) else (some false))=some r:=H
 have A3:=am A30
 clear A30
 by_cases c4:t569=true
 ·subst c4
  have H1:(some true)=some r:=by rw [if_pos rfl] at H;exact H
  clear H
  have H:=H1
  clear H1
  obtain rfl:=Option.some.inj H
  go_enter Tryd.func20,Tryd.ntmps20
  go_wp2_with (first |((with_reducible refine jr (N:=2) rfl ?_);refine bE (N:=2) (cs:=#[.slice A0_0 l0_0.length c0_0]) (t:=25) ?_;intro gb567 hg w5 hbox hb;have BK567:=am (hbox);have GW567:=am ((Y0:w.heap.size≤gb567));have GE567:=am ((Y0:w.heap.size≤gb567));replace HB:=am (jd (bq) hb);clear hb hbox hg) |((with_reducible refine jr (N:=3) rfl ?_);refine bE (N:=3) (cs:=#[.slice A1_0 l1_0.length c1_0]) (t:=25) ?_;intro gb568 hg w6 hbox hb;have BK568:=am (hbox);have GW568:=am ((Y52:w.heap.size≤gb568));have GE568:=am ((Y52:w.heap.size≤gb568));have NB567_568:=am ((by rw [hg];exact Nat.ne_of_lt (jT (g:=gb567) (o:=.cells #[.slice A0_0 l0_0.length c0_0] 25 (0,0)) (kq BK567.out)):gb567≠gb568));have NB568_567:=am ((by rw [hg];exact Nat.ne_of_gt (jT (g:=gb567) (o:=.cells #[.slice A0_0 l0_0.length c0_0] 25 (0,0)) (kq BK567.out)):gb568≠gb567));replace BK567:=am (jc (g:=gb567) (o:=.cells #[.slice A0_0 l0_0.length c0_0] 25 (0,0)) (kq BK567.out) hb);replace HB:=am (jd (Y98) hb);clear hb hbox hg;have hnb7:=NB567_568.out;have hnc7:=NB568_567.out;have hcz8_0:=bc0 BK567.out;have hfz8_0:=ja BK567.out 0;have hcz9_0:=bc0 BK568.out;have hfz9_0:=ja BK568.out 0) |((with_reducible refine jB (f:=41) rfl ?_);refine gL (some 9) Tryd.func41 #[.slice A0_0 l0_0.length c0_0, .slice A1_0 l1_0.length c1_0] ?_;(with_reducible refine (jM.calls k _ _ l0_0 _ _ l1_0 true _ ?side1 ?side2 ?side3 ?side4 A3.out).mono ?_);(case side1=>exact cq (Kd.jD HR0_0.out HB.out));(case side2=>exact HC0_0.out);(case side3=>exact cq (Kd.jD HR1_0.out HB.out));(case side4=>exact HC1_0.out);rintro e w10 ⟨rfl,hb⟩;refine ⟨_,rfl,?_⟩;replace BK567:=am (jc (g:=gb567) (o:=.cells #[.slice A0_0 l0_0.length c0_0] 25 (0,0)) (kq BK567.out) hb);replace BK568:=am (jc (g:=gb568) (o:=.cells #[.slice A1_0 l1_0.length c1_0] 25 (0,0)) (kq BK568.out) hb);replace HB:=am (jd (Y53) hb);(try clear hb);(try clear hb2);(try clear hk);(try clear hi)))
  go_ret
  exact ⟨Y1,Y53⟩
 ·replace c4:=Bool.eq_false_iff.mpr c4
  subst c4
  have H1:(some false)=some r:=by rw [if_neg (show ¬ (false=true) by decide)] at H;exact H
  clear H
  have H:=H1
  clear H1
  obtain rfl:=Option.some.inj H
  go_enter Tryd.func20,Tryd.ntmps20
  go_wp2_with (first |((with_reducible refine jr (N:=2) rfl ?_);refine bE (N:=2) (cs:=#[.slice A0_0 l0_0.length c0_0]) (t:=25) ?_;intro gb567 hg w11 hbox hb;have BK567:=am (hbox);have GW567:=am ((Y0:w.heap.size≤gb567));have GE567:=am ((Y0:w.heap.size≤gb567));replace HB:=am (jd (bq) hb);clear hb hbox hg) |((with_reducible refine jr (N:=3) rfl ?_);refine bE (N:=3) (cs:=#[.slice A1_0 l1_0.length c1_0]) (t:=25) ?_;intro gb568 hg w12 hbox hb;have BK568:=am (hbox);have GW568:=am ((Y52:w.heap.size≤gb568));have GE568:=am ((Y52:w.heap.size≤gb568));have NB567_568:=am ((by rw [hg];exact Nat.ne_of_lt (jT (g:=gb567) (o:=.cells #[.slice A0_0 l0_0.length c0_0] 25 (0,0)) (kq BK567.out)):gb567≠gb568));have NB568_567:=am ((by rw [hg];exact Nat.ne_of_gt (jT (g:=gb567) (o:=.cells #[.slice A0_0 l0_0.length c0_0] 25 (0,0)) (kq BK567.out)):gb568≠gb567));replace BK567:=am (jc (g:=gb567) (o:=.cells #[.slice A0_0 l0_0.length c0_0] 25 (0,0)) (kq BK567.out) hb);replace HB:=am (jd (Y98) hb);clear hb hbox hg;have hnb13:=NB567_568.out;have hnc13:=NB568_567.out;have hcz14_0:=bc0 BK567.out;have hfz14_0:=ja BK567.out 0;have hcz15_0:=bc0 BK568.out;have hfz15_0:=ja BK568.out 0) |((with_reducible refine jB (f:=41) rfl ?_);refine gL (some 9) Tryd.func41 #[.slice A0_0 l0_0.length c0_0, .slice A1_0 l1_0.length c1_0] ?_;(with_reducible refine (jM.calls k _ _ l0_0 _ _ l1_0 false _ ?side1 ?side2 ?side3 ?side4 A3.out).mono ?_);(case side1=>exact cq (Kd.jD HR0_0.out HB.out));(case side2=>exact HC0_0.out);(case side3=>exact cq (Kd.jD HR1_0.out HB.out));(case side4=>exact HC1_0.out);rintro e w16 ⟨rfl,hb⟩;refine ⟨_,rfl,?_⟩;replace BK567:=am (jc (g:=gb567) (o:=.cells #[.slice A0_0 l0_0.length c0_0] 25 (0,0)) (kq BK567.out) hb);replace BK568:=am (jc (g:=gb568) (o:=.cells #[.slice A1_0 l1_0.length c1_0] 25 (0,0)) (kq BK568.out) hb);replace HB:=am (jd (Y53) hb);(try clear hb);(try clear hb2);(try clear hk);(try clear hi)))
  go_ret
  exact ⟨Y1,Y53⟩
def jhb.f (a0_0 : Int) (a0_1 : Int) (a0_2 : Int) (a0_3 : Int) (a0_4 : Bool) (a1_0 : Int) (a1_1 : Int) (a1_2 : Int) (a1_3 : Int) (a1_4 : Bool) : Option (Bool) := if a0_0 = a1_0 then (if a0_1 = a1_1 then (if a0_2 = a1_2 then (if a0_3 = a1_3 then (if (a0_4 != a1_4) = true then (some false) else (some true)) else (some false)) else (some false)) else (some false)) else (some false)
set_option maxHeartbeats 8000000 in
set_option maxRecDepth 100000 in
theorem jhb.calls (a0_0 : Int) (a0_1 : Int) (a0_2 : Int) (a0_3 : Int) (a0_4 : Bool) (a1_0 : Int) (a1_1 : Int) (a1_2 : Int) (a1_3 : Int) (a1_4 : Bool) (r : Bool) (w : World) (h : jhb.f a0_0 a0_1 a0_2 a0_3 a0_4 a1_0 a1_1 a1_2 a1_3 a1_4 = some r) :
  Calls Tryd.prog 66 #[.agg #[.int .i64 a0_0, .int .i64 a0_1, .int .i64 a0_2, .int .i64 a0_3, .bool a0_4], .agg #[.int .i64 a1_0, .int .i64 a1_1, .int .i64 a1_2, .int .i64 a1_3, .bool a1_4]] w fun e w'=>e=.returned (.bool r)∧Below w.heap.size w w':=by
 have hu66:=Tryd.underlying66
 have HB:=am (Below.refl w.heap.size w)
 have H:(if a0_0=a1_0 then (if a0_1=a1_1 then (if a0_2=a1_2 then (if a0_3=a1_3 then (if (a0_4 != a1_4)=true then (some false) else (some true)) else (some false)) else (some false)) else (some false)) else (some false))=some r:=h
 clear h
 by_cases c3:a0_0=a1_0
 ·rw [if_pos c3] at H
  have c3b0:(a0_0 == a1_0)=true:=beq_iff_eq.mpr c3
  have c3b1:(a0_0 != a1_0)=false:=bne_eq_false_iff_eq.mpr c3
  clear c3
  by_cases c4:a0_1=a1_1
  ·rw [if_pos c4] at H
   have c4b0:(a0_1 == a1_1)=true:=beq_iff_eq.mpr c4
   have c4b1:(a0_1 != a1_1)=false:=bne_eq_false_iff_eq.mpr c4
   clear c4
   by_cases c5:a0_2=a1_2
   ·rw [if_pos c5] at H
    have c5b0:(a0_2 == a1_2)=true:=beq_iff_eq.mpr c5
    have c5b1:(a0_2 != a1_2)=false:=bne_eq_false_iff_eq.mpr c5
    clear c5
    by_cases c6:a0_3=a1_3
    ·rw [if_pos c6] at H
     have c6b0:(a0_3 == a1_3)=true:=beq_iff_eq.mpr c6
     have c6b1:(a0_3 != a1_3)=false:=bne_eq_false_iff_eq.mpr c6
     clear c6
     by_cases c7:(a0_4 != a1_4)=true
     ·rw [if_pos c7] at H
      have c7b0:(a0_4 != a1_4)=true:=c7
      (try (have c7b1:decide (a0_4=a1_4)=false:=by simpa using c7))
      (try (have c7b2:(a0_4 == a1_4)=false:=by simpa using c7))
      (try (have c7b3:¬ (a0_4=a1_4):=by simpa using c7))
      clear c7
      obtain rfl:=Option.some.inj H
      go_enter Tryd.func66,Tryd.ntmps66
      go_wp2_with (first |((with_reducible refine jr (N:=2) rfl ?_);refine bE (N:=2) (cs:=#[.int .i64 a0_0, .int .i64 a0_1, .int .i64 a0_2, .int .i64 a0_3, .bool a0_4]) (t:=66) ?_;intro gb570 hg w8 hbox hb;have BK570:=am (hbox);have GW570:=am ((Y0:w.heap.size≤gb570));have GE570:=am ((Y0:w.heap.size≤gb570));replace HB:=am (jd (bq) hb);clear hb hbox hg) |((with_reducible refine jr (N:=3) rfl ?_);refine bE (N:=3) (cs:=#[.int .i64 a1_0, .int .i64 a1_1, .int .i64 a1_2, .int .i64 a1_3, .bool a1_4]) (t:=66) ?_;intro gb571 hg w9 hbox hb;have BK571:=am (hbox);have GW571:=am ((Y9:w.heap.size≤gb571));have GE571:=am ((Y9:w.heap.size≤gb571));have NB570_571:=am ((Y28:gb570≠gb571));have NB571_570:=am ((Y29:gb571≠gb570));replace BK570:=am (jc (g:=gb570) (o:=.cells #[.int .i64 a0_0, .int .i64 a0_1, .int .i64 a0_2, .int .i64 a0_3, .bool a0_4] 66 (0,0)) (kq BK570.out) hb);replace HB:=am (jd (Y30) hb);clear hb hbox hg;have hnb10:=NB570_571.out;have hnc10:=NB571_570.out;have hcz11_0:=bc0 BK570.out;have hcz11_1:=bc1 BK570.out;have hcz11_2:=bc2 BK570.out;have hcz11_3:=bc3 BK570.out;have hcz11_4:w9.cell? ⟨gb570,4,none⟩=some (.bool a0_4):=(jC BK570.out 4).trans rfl;have hfz11_0:=ja BK570.out 0;have hfz11_1:=ja BK570.out 1;have hfz11_2:=ja BK570.out 2;have hfz11_3:=ja BK570.out 3;have hfz11_4:=ja BK570.out 4;have hcz12_0:=bc0 BK571.out;have hcz12_1:=bc1 BK571.out;have hcz12_2:=bc2 BK571.out;have hcz12_3:=bc3 BK571.out;have hcz12_4:w9.cell? ⟨gb571,4,none⟩=some (.bool a1_4):=(jC BK571.out 4).trans rfl;have hfz12_0:=ja BK571.out 0;have hfz12_1:=ja BK571.out 1;have hfz12_2:=ja BK571.out 2;have hfz12_3:=ja BK571.out 3;have hfz12_4:=ja BK571.out 4))
      go_ret
      exact ⟨Y1,Y31⟩
     ·rw [if_neg c7] at H
      have c7b0:(a0_4 != a1_4)=false:=by simpa using c7
      (try (have c7b1:decide (a0_4=a1_4)=true:=by simpa using c7))
      (try (have c7b2:(a0_4 == a1_4)=true:=by simpa using c7))
      clear c7
      obtain rfl:=Option.some.inj H
      go_enter Tryd.func66,Tryd.ntmps66
      go_wp2_with (first |((with_reducible refine jr (N:=2) rfl ?_);refine bE (N:=2) (cs:=#[.int .i64 a0_0, .int .i64 a0_1, .int .i64 a0_2, .int .i64 a0_3, .bool a0_4]) (t:=66) ?_;intro gb570 hg w13 hbox hb;have BK570:=am (hbox);have GW570:=am ((Y0:w.heap.size≤gb570));have GE570:=am ((Y0:w.heap.size≤gb570));replace HB:=am (jd (bq) hb);clear hb hbox hg) |((with_reducible refine jr (N:=3) rfl ?_);refine bE (N:=3) (cs:=#[.int .i64 a1_0, .int .i64 a1_1, .int .i64 a1_2, .int .i64 a1_3, .bool a1_4]) (t:=66) ?_;intro gb571 hg w14 hbox hb;have BK571:=am (hbox);have GW571:=am ((Y9:w.heap.size≤gb571));have GE571:=am ((Y9:w.heap.size≤gb571));have NB570_571:=am ((Y28:gb570≠gb571));have NB571_570:=am ((Y29:gb571≠gb570));replace BK570:=am (jc (g:=gb570) (o:=.cells #[.int .i64 a0_0, .int .i64 a0_1, .int .i64 a0_2, .int .i64 a0_3, .bool a0_4] 66 (0,0)) (kq BK570.out) hb);replace HB:=am (jd (Y30) hb);clear hb hbox hg;have hnb15:=NB570_571.out;have hnc15:=NB571_570.out;have hcz16_0:=bc0 BK570.out;have hcz16_1:=bc1 BK570.out;have hcz16_2:=bc2 BK570.out;have hcz16_3:=bc3 BK570.out;have hcz16_4:w14.cell? ⟨gb570,4,none⟩=some (.bool a0_4):=(jC BK570.out 4).trans rfl;have hfz16_0:=ja BK570.out 0;have hfz16_1:=ja BK570.out 1;have hfz16_2:=ja BK570.out 2;have hfz16_3:=ja BK570.out 3;have hfz16_4:=ja BK570.out 4;have hcz17_0:=bc0 BK571.out;have hcz17_1:=bc1 BK571.out;have hcz17_2:=bc2 BK571.out;have hcz17_3:=bc3 BK571.out;have hcz17_4:w14.cell? ⟨gb571,4,none⟩=some (.bool a1_4):=(jC BK571.out 4).trans rfl;have hfz17_0:=ja BK571.out 0;have hfz17_1:=ja BK571.out 1;have hfz17_2:=ja BK571.out 2;have hfz17_3:=ja BK571.out 3;have hfz17_4:=ja BK571.out 4))
      go_ret
      exact ⟨Y1,Y31⟩
    ·rw [if_neg c6] at H
     have c6b0:(a0_3 == a1_3)=false:=beq_eq_false_iff_ne.mpr c6
     have c6b1:(a0_3 != a1_3)=true:=bne_iff_ne.mpr c6
     obtain rfl:=Option.some.inj H
     go_enter Tryd.func66,Tryd.ntmps66
     go_wp2_with (first |((with_reducible refine jr (N:=2) rfl ?_);refine bE (N:=2) (cs:=#[.int .i64 a0_0, .int .i64 a0_1, .int .i64 a0_2, .int .i64 a0_3, .bool a0_4]) (t:=66) ?_;intro gb570 hg w18 hbox hb;have BK570:=am (hbox);have GW570:=am ((Y0:w.heap.size≤gb570));have GE570:=am ((Y0:w.heap.size≤gb570));replace HB:=am (jd (bq) hb);clear hb hbox hg) |((with_reducible refine jr (N:=3) rfl ?_);refine bE (N:=3) (cs:=#[.int .i64 a1_0, .int .i64 a1_1, .int .i64 a1_2, .int .i64 a1_3, .bool a1_4]) (t:=66) ?_;intro gb571 hg w19 hbox hb;have BK571:=am (hbox);have GW571:=am ((Y9:w.heap.size≤gb571));have GE571:=am ((Y9:w.heap.size≤gb571));have NB570_571:=am ((Y28:gb570≠gb571));have NB571_570:=am ((Y29:gb571≠gb570));replace BK570:=am (jc (g:=gb570) (o:=.cells #[.int .i64 a0_0, .int .i64 a0_1, .int .i64 a0_2, .int .i64 a0_3, .bool a0_4] 66 (0,0)) (kq BK570.out) hb);replace HB:=am (jd (Y30) hb);clear hb hbox hg;have hnb20:=NB570_571.out;have hnc20:=NB571_570.out;have hcz21_0:=bc0 BK570.out;have hcz21_1:=bc1 BK570.out;have hcz21_2:=bc2 BK570.out;have hcz21_3:=bc3 BK570.out;have hcz21_4:w19.cell? ⟨gb570,4,none⟩=some (.bool a0_4):=(jC BK570.out 4).trans rfl;have hfz21_0:=ja BK570.out 0;have hfz21_1:=ja BK570.out 1;have hfz21_2:=ja BK570.out 2;have hfz21_3:=ja BK570.out 3;have hfz21_4:=ja BK570.out 4;have hcz22_0:=bc0 BK571.out;have hcz22_1:=bc1 BK571.out;have hcz22_2:=bc2 BK571.out;have hcz22_3:=bc3 BK571.out;have hcz22_4:w19.cell? ⟨gb571,4,none⟩=some (.bool a1_4):=(jC BK571.out 4).trans rfl;have hfz22_0:=ja BK571.out 0;have hfz22_1:=ja BK571.out 1;have hfz22_2:=ja BK571.out 2;have hfz22_3:=ja BK571.out 3;have hfz22_4:=ja BK571.out 4))
     go_ret
     exact ⟨Y1,Y31⟩
   ·rw [if_neg c5] at H
    have c5b0:(a0_2 == a1_2)=false:=beq_eq_false_iff_ne.mpr c5
    have c5b1:(a0_2 != a1_2)=true:=bne_iff_ne.mpr c5
    obtain rfl:=Option.some.inj H
    go_enter Tryd.func66,Tryd.ntmps66
    go_wp2_with (first |((with_reducible refine jr (N:=2) rfl ?_);refine bE (N:=2) (cs:=#[.int .i64 a0_0, .int .i64 a0_1, .int .i64 a0_2, .int .i64 a0_3, .bool a0_4]) (t:=66) ?_;intro gb570 hg w23 hbox hb;have BK570:=am (hbox);have GW570:=am ((Y0:w.heap.size≤gb570));have GE570:=am ((Y0:w.heap.size≤gb570));replace HB:=am (jd (bq) hb);clear hb hbox hg) |((with_reducible refine jr (N:=3) rfl ?_);refine bE (N:=3) (cs:=#[.int .i64 a1_0, .int .i64 a1_1, .int .i64 a1_2, .int .i64 a1_3, .bool a1_4]) (t:=66) ?_;intro gb571 hg w24 hbox hb;have BK571:=am (hbox);have GW571:=am ((Y9:w.heap.size≤gb571));have GE571:=am ((Y9:w.heap.size≤gb571));have NB570_571:=am ((Y28:gb570≠gb571));have NB571_570:=am ((Y29:gb571≠gb570));replace BK570:=am (jc (g:=gb570) (o:=.cells #[.int .i64 a0_0, .int .i64 a0_1, .int .i64 a0_2, .int .i64 a0_3, .bool a0_4] 66 (0,0)) (kq BK570.out) hb);replace HB:=am (jd (Y30) hb);clear hb hbox hg;have hnb25:=NB570_571.out;have hnc25:=NB571_570.out;have hcz26_0:=bc0 BK570.out;have hcz26_1:=bc1 BK570.out;have hcz26_2:=bc2 BK570.out;have hcz26_3:=bc3 BK570.out;have hcz26_4:w24.cell? ⟨gb570,4,none⟩=some (.bool a0_4):=(jC BK570.out 4).trans rfl;have hfz26_0:=ja BK570.out 0;have hfz26_1:=ja BK570.out 1;have hfz26_2:=ja BK570.out 2;have hfz26_3:=ja BK570.out 3;have hfz26_4:=ja BK570.out 4;have hcz27_0:=bc0 BK571.out;have hcz27_1:=bc1 BK571.out;have hcz27_2:=bc2 BK571.out;have hcz27_3:=bc3 BK571.out;have hcz27_4:w24.cell? ⟨gb571,4,none⟩=some (.bool a1_4):=(jC BK571.out 4).trans rfl;have hfz27_0:=ja BK571.out 0;have hfz27_1:=ja BK571.out 1;have hfz27_2:=ja BK571.out 2;have hfz27_3:=ja BK571.out 3;have hfz27_4:=ja BK571.out 4))
    go_ret
    exact ⟨Y1,Y31⟩
  ·rw [if_neg c4] at H
   have c4b0:(a0_1 == a1_1)=false:=beq_eq_false_iff_ne.mpr c4
   have c4b1:(a0_1 != a1_1)=true:=bne_iff_ne.mpr c4
   obtain rfl:=Option.some.inj H
   go_enter Tryd.func66,Tryd.ntmps66
   go_wp2_with (first |((with_reducible refine jr (N:=2) rfl ?_);refine bE (N:=2) (cs:=#[.int .i64 a0_0, .int .i64 a0_1, .int .i64 a0_2, .int .i64 a0_3, .bool a0_4]) (t:=66) ?_;intro gb570 hg w28 hbox hb;have BK570:=am (hbox);have GW570:=am ((Y0:w.heap.size≤gb570));have GE570:=am ((Y0:w.heap.size≤gb570));replace HB:=am (jd (bq) hb);clear hb hbox hg) |((with_reducible refine jr (N:=3) rfl ?_);refine bE (N:=3) (cs:=#[.int .i64 a1_0, .int .i64 a1_1, .int .i64 a1_2, .int .i64 a1_3, .bool a1_4]) (t:=66) ?_;intro gb571 hg w29 hbox hb;have BK571:=am (hbox);have GW571:=am ((Y9:w.heap.size≤gb571));have GE571:=am ((Y9:w.heap.size≤gb571));have NB570_571:=am ((Y28:gb570≠gb571));have NB571_570:=am ((Y29:gb571≠gb570));replace BK570:=am (jc (g:=gb570) (o:=.cells #[.int .i64 a0_0, .int .i64 a0_1, .int .i64 a0_2, .int .i64 a0_3, .bool a0_4] 66 (0,0)) (kq BK570.out) hb);replace HB:=am (jd (Y30) hb);clear hb hbox hg;have hnb30:=NB570_571.out;have hnc30:=NB571_570.out;have hcz31_0:=bc0 BK570.out;have hcz31_1:=bc1 BK570.out;have hcz31_2:=bc2 BK570.out;have hcz31_3:=bc3 BK570.out;have hcz31_4:w29.cell? ⟨gb570,4,none⟩=some (.bool a0_4):=(jC BK570.out 4).trans rfl;have hfz31_0:=ja BK570.out 0;have hfz31_1:=ja BK570.out 1;have hfz31_2:=ja BK570.out 2;have hfz31_3:=ja BK570.out 3;have hfz31_4:=ja BK570.out 4;have hcz32_0:=bc0 BK571.out;have hcz32_1:=bc1 BK571.out;have hcz32_2:=bc2 BK571.out;have hcz32_3:=bc3 BK571.out;have hcz32_4:w29.cell? ⟨gb571,4,none⟩=some (.bool a1_4):=(jC BK571.out 4).trans rfl;have hfz32_0:=ja BK571.out 0;have hfz32_1:=ja BK571.out 1;have hfz32_2:=ja BK571.out 2;have hfz32_3:=ja BK571.out 3;have hfz32_4:=ja BK571.out 4))
   go_ret
   exact ⟨Y1,Y31⟩
 ·rw [if_neg c3] at H
  have c3b0:(a0_0 == a1_0)=false:=beq_eq_false_iff_ne.mpr c3
  have c3b1:(a0_0 != a1_0)=true:=bne_iff_ne.mpr c3
  obtain rfl:=Option.some.inj H
  go_enter Tryd.func66,Tryd.ntmps66
  go_wp2_with (first |((with_reducible refine jr (N:=2) rfl ?_);refine bE (N:=2) (cs:=#[.int .i64 a0_0, .int .i64 a0_1, .int .i64 a0_2, .int .i64 a0_3, .bool a0_4]) (t:=66) ?_;intro gb570 hg w33 hbox hb;have BK570:=am (hbox);have GW570:=am ((Y0:w.heap.size≤gb570));have GE570:=am ((Y0:w.heap.size≤gb570));replace HB:=am (jd (bq) hb);clear hb hbox hg) |((with_reducible refine jr (N:=3) rfl ?_);refine bE (N:=3) (cs:=#[.int .i64 a1_0, .int .i64 a1_1, .int .i64 a1_2, .int .i64 a1_3, .bool a1_4]) (t:=66) ?_;intro gb571 hg w34 hbox hb;have BK571:=am (hbox);have GW571:=am ((Y9:w.heap.size≤gb571));have GE571:=am ((Y9:w.heap.size≤gb571));have NB570_571:=am ((Y28:gb570≠gb571));have NB571_570:=am ((Y29:gb571≠gb570));replace BK570:=am (jc (g:=gb570) (o:=.cells #[.int .i64 a0_0, .int .i64 a0_1, .int .i64 a0_2, .int .i64 a0_3, .bool a0_4] 66 (0,0)) (kq BK570.out) hb);replace HB:=am (jd (Y30) hb);clear hb hbox hg;have hnb35:=NB570_571.out;have hnc35:=NB571_570.out;have hcz36_0:=bc0 BK570.out;have hcz36_1:=bc1 BK570.out;have hcz36_2:=bc2 BK570.out;have hcz36_3:=bc3 BK570.out;have hcz36_4:w34.cell? ⟨gb570,4,none⟩=some (.bool a0_4):=(jC BK570.out 4).trans rfl;have hfz36_0:=ja BK570.out 0;have hfz36_1:=ja BK570.out 1;have hfz36_2:=ja BK570.out 2;have hfz36_3:=ja BK570.out 3;have hfz36_4:=ja BK570.out 4;have hcz37_0:=bc0 BK571.out;have hcz37_1:=bc1 BK571.out;have hcz37_2:=bc2 BK571.out;have hcz37_3:=bc3 BK571.out;have hcz37_4:w34.cell? ⟨gb571,4,none⟩=some (.bool a1_4):=(jC BK571.out 4).trans rfl;have hfz37_0:=ja BK571.out 0;have hfz37_1:=ja BK571.out 1;have hfz37_2:=ja BK571.out 2;have hfz37_3:=ja BK571.out 3;have hfz37_4:=ja BK571.out 4))
  go_ret
  exact ⟨Y1,Y31⟩
def jL.l0 : Nat → List (S66) → List (S66) → Int → Option (Bool)
 | 0,_,_,_=>none
 | k+1,x0,x1,x5=>if x5<(x0.length:Int) then (if 0≤x5 then (if x5<(x1.length:Int) then ((jhb.f ((jb x0 x5).f0) ((jb x0 x5).f1) ((jb x0 x5).f2) ((jb x0 x5).f3) ((jb x0 x5).f4) ((jb x1 x5).f0) ((jb x1 x5).f1) ((jb x1 x5).f2) ((jb x1 x5).f3) ((jb x1 x5).f4)).bind fun t574=>(if t574=true then (jL.l0 k x0 x1 (wrap64 (x5+1))) else (some false))) else (none)) else (none)) else (some true)
def jL.f (k : Nat) (l0 : List (S66)) (l1 : List (S66)) : Option (Bool) := if (l0.length : Int) = (l1.length : Int) then (jL.l0 k l0 l1 0) else (some false)
def jL.T6 : Bool × List (List Nat × List Nat) := (true, [([], []), ([], []), ([0, 1], [0, 1]), ([2], [2]), ([], []), ([], []), ([4, 5], [4, 5]), ([6], [6]), ([3, 7], [3, 7]), ([8], [8])])
def jL.B6 : List Nat := [0, 0, 3, 7, 0, 0, 48, 112, 255, 511]
theorem jL.tab6 : rtab .any (opsOf Tryd.f42 6) = jL.T6 := by kernel_rfl
theorem jL.bits6 : waitsOk jL.T6.2 jL.B6 = true := by kernel_rfl
set_option maxHeartbeats 8000000 in
set_option maxRecDepth 100000 in
theorem jL.calls (k : Nat) (A0 : Option Addr) (c0 : Nat) (l0 : List (S66)) (A1 : Option Addr) (c1 : Nat) (l1 : List (S66)) (r : Bool) (w : World) (hr0 : Kd.C k66 w A0 l0.length l0) (hc0 : l0.length ≤ c0) (hr1 : Kd.C k66 w A1 l1.length l1) (hc1 : l1.length ≤ c1) (h : jL.f k l0 l1 = some r) :
  Calls Tryd.prog 42 #[.slice A0 l0.length c0, .slice A1 l1.length c1] w fun e w'=>e=.returned (.bool r)∧Below w.heap.size w w':=by
 have hu66:=Tryd.underlying66
 have HR0:=am hr0
 have HC0:=am hc0
 clear hr0 hc0
 have HR1:=am hr1
 have HC1:=am hc1
 clear hr1 hc1
 have HB:=am (Below.refl w.heap.size w)
 have H:(if (l0.length:Int)=(l1.length:Int) then (jL.l0 k l0 l1 0) else (some false))=some r:=h
 clear h
 by_cases c3:(l0.length:Int)=(l1.length:Int)
 ·rw [if_pos c3] at H
  have c3b0:((l0.length:Int) == (l1.length:Int))=true:=beq_iff_eq.mpr c3
  have c3b1:((l0.length:Int) != (l1.length:Int))=false:=bne_eq_false_iff_eq.mpr c3
  have c3b2:(l0.length == l1.length)=true:=by first | simpa using c3 |(simp at c3 ⊢;omega)
  clear c3
  have H':=am H
  clear H
  go_enter Tryd.func42,Tryd.ntmps42
  go_wp2
  go_loopg [5] k (fun kq v5 w'=>∃ (x5_1:Int),v5=.int .i64 x5_1∧jH (jL.l0 kq l0 l1 x5_1=some r)∧jH (kq≤k)∧jH (Below w.heap.size w w'))
  case atStart=>exact ⟨(0),(sq),H',⟨Nat.le_refl _⟩,⟨bq⟩⟩
  case round =>
   clear H'
   try clear c1
   try clear p2
   try clear c3
   try clear c3b0
   try clear c3b1
   try clear c3b2
   obtain ⟨x5_1,rfl,HA,HK1,HB⟩:=hrel
   cases gk with
   | zero=>exact absurd HA.out (by simp [jL.l0])
   | succ k1 =>
    have H:=HA.out
    clear HA
    simp only [jL.l0] at H
    by_cases c4:x5_1<(l0.length:Int)
    ·rw [if_pos c4] at H
     have c4b0:decide (x5_1<(l0.length:Int))=true:=dzT c4
     clear c4
     by_cases c5:0≤x5_1
     ·rw [if_pos c5] at H
      have c5b0:decide (0≤x5_1)=true:=dzT c5
      clear c5
      by_cases c6:x5_1<(l1.length:Int)
      ·rw [if_pos c6] at H
       have c6b0:decide (x5_1<(l1.length:Int))=true:=dzT c6
       clear c6
       replace H:=bzS H
       obtain ⟨t574,A70,H⟩:=H
       replace H:(if t574=true then (jL.l0 k1 l0 l1 (wrap64 (x5_1+1))) else (some false))=some r:=H
       have A7:=am A70
       clear A70
       by_cases c8:t574=true
       ·subst c8
        have H1:(jL.l0 k1 l0 l1 (wrap64 (x5_1+1)))=some r:=by rw [if_pos rfl] at H;exact H
        clear H
        have H:=H1
        clear H1
        have H':=am H
        clear H
        try go_wp2
        replace HB:=am (jk HB.out)
        have p572:0≤(x5_1:Int):=ozD (uq)
        have q572:x5_1<(l0.length:Int):=ozD (uq)
        obtain ⟨ad572,e572,hx572_0,hx572_1,hx572_2,hx572_3,hx572_4⟩:=jLa HR0.out x5_1 p572 q572
        have hw572_4:=hx572_4
        have hw572_3:=hx572_3
        have hw572_2:=hx572_2
        have hw572_1:=hx572_1
        have hw572_0:=hx572_0
        cases e572
        replace hx572_0:=cb HB.out hx572_0
        replace hx572_1:=cb HB.out hx572_1
        replace hx572_2:=cb HB.out hx572_2
        replace hx572_3:=cb HB.out hx572_3
        replace hx572_4:=cb HB.out hx572_4
        replace p572:=ezT p572
        replace q572:=ezT q572
        have p573:0≤(x5_1:Int):=ozD (uq)
        have q573:x5_1<(l1.length:Int):=ozD (uq)
        obtain ⟨ad573,e573,hx573_0,hx573_1,hx573_2,hx573_3,hx573_4⟩:=jLa HR1.out x5_1 p573 q573
        have hw573_4:=hx573_4
        have hw573_3:=hx573_3
        have hw573_2:=hx573_2
        have hw573_1:=hx573_1
        have hw573_0:=hx573_0
        cases e573
        replace hx573_0:=cb HB.out hx573_0
        replace hx573_1:=cb HB.out hx573_1
        replace hx573_2:=cb HB.out hx573_2
        replace hx573_3:=cb HB.out hx573_3
        replace hx573_4:=cb HB.out hx573_4
        replace p573:=ezT p573
        replace q573:=ezT q573
        refine start_ (n:=10) (S:=fun w'=>w'.cell? (ad572.add ((x5_1).toNat * 5))=some (.int .i64 ((jb l0 x5_1).f0))∧w'.cell? ⟨(ad572.add ((x5_1).toNat * 5)).block,(ad572.add ((x5_1).toNat * 5)).off+1,none⟩=some (.int .i64 ((jb l0 x5_1).f1))∧w'.cell? ⟨(ad572.add ((x5_1).toNat * 5)).block,(ad572.add ((x5_1).toNat * 5)).off+2,none⟩=some (.int .i64 ((jb l0 x5_1).f2))∧w'.cell? ⟨(ad572.add ((x5_1).toNat * 5)).block,(ad572.add ((x5_1).toNat * 5)).off+3,none⟩=some (.int .i64 ((jb l0 x5_1).f3))∧w'.cell? ⟨(ad572.add ((x5_1).toNat * 5)).block,(ad572.add ((x5_1).toNat * 5)).off+4,none⟩=some (.bool ((jb l0 x5_1).f4))∧w'.cell? (ad573.add ((x5_1).toNat * 5))=some (.int .i64 ((jb l1 x5_1).f0))∧w'.cell? ⟨(ad573.add ((x5_1).toNat * 5)).block,(ad573.add ((x5_1).toNat * 5)).off+1,none⟩=some (.int .i64 ((jb l1 x5_1).f1))∧w'.cell? ⟨(ad573.add ((x5_1).toNat * 5)).block,(ad573.add ((x5_1).toNat * 5)).off+2,none⟩=some (.int .i64 ((jb l1 x5_1).f2))∧w'.cell? ⟨(ad573.add ((x5_1).toNat * 5)).block,(ad573.add ((x5_1).toNat * 5)).off+3,none⟩=some (.int .i64 ((jb l1 x5_1).f3))∧w'.cell? ⟨(ad573.add ((x5_1).toNat * 5)).block,(ad573.add ((x5_1).toNat * 5)).off+4,none⟩=some (.bool ((jb l1 x5_1).f4))) (ds:=[]) #[false,false,false,false,false,false,false,false,false,false] (by kernel_rfl) rfl rfl ⟨((HB.out.cell (World.block_lt_of_cell? w _ hw572_0)).trans hw572_0),((HB.out.cell (World.block_lt_of_cell? w _ hw572_1)).trans hw572_1),((HB.out.cell (World.block_lt_of_cell? w _ hw572_2)).trans hw572_2),((HB.out.cell (World.block_lt_of_cell? w _ hw572_3)).trans hw572_3),((HB.out.cell (World.block_lt_of_cell? w _ hw572_4)).trans hw572_4),((HB.out.cell (World.block_lt_of_cell? w _ hw573_0)).trans hw573_0),((HB.out.cell (World.block_lt_of_cell? w _ hw573_1)).trans hw573_1),((HB.out.cell (World.block_lt_of_cell? w _ hw573_2)).trans hw573_2),((HB.out.cell (World.block_lt_of_cell? w _ hw573_3)).trans hw573_3),((HB.out.cell (World.block_lt_of_cell? w _ hw573_4)).trans hw573_4)⟩ (fun hHeld=>?_);refine jwb jL.tab6 jL.bits6 (fun HT_ HW_=>?_)
        generalize wr.drew=w9 at HB hx572_0 hx572_1 hx572_2 hx572_3 hx572_4 hx573_0 hx573_1 hx573_2 hx573_3 hx573_4 hHeld ⊢
        refine pq (i:=0) (N:=some 17) #[true,false,false,false,false,false,false,false,false,false] ?_
        refine pq (i:=1) (N:=some 18) #[true,true,false,false,false,false,false,false,false,false] ?_
        refine pq (i:=2) (N:=some 19) #[true,true,true,false,false,false,false,false,false,false] ?_
        refine pq (i:=4) (N:=some 21) #[true,true,true,false,true,false,false,false,false,false] ?_
        refine pq (i:=5) (N:=some 22) #[true,true,true,false,true,true,false,false,false,false] ?_
        refine pq (i:=6) (N:=some 23) #[true,true,true,false,true,true,true,false,false,false] ?_
        refine jzb (i:=3) (N:=some 20) (v:=?_) (a':=?_) #[true,true,true,true,true,true,true,false,false,false] rfl rfl (jUa HT_.out HW_.out (by kernel_rfl)) (fun _ _ _ h=>h) (Or.inl ⟨by rfl,?_⟩) hHeld ?_ ?_
        rotate_left
        ·rintro w' ⟨s0,s1,s2,s3,s4,s5,s6,s7,s8,s9⟩
         go_simp
         with_reducible rfl
        rotate_left
        ·exact sa
        refine jzb (i:=7) (N:=some 24) (v:=?_) (a':=?_) #[true,true,true,true,true,true,true,true,false,false] rfl rfl (jUa HT_.out HW_.out (by kernel_rfl)) (fun _ _ _ h=>h) (Or.inl ⟨by rfl,?_⟩) hHeld ?_ ?_
        rotate_left
        ·rintro w' ⟨s0,s1,s2,s3,s4,s5,s6,s7,s8,s9⟩
         go_simp
         with_reducible rfl
        rotate_left
        ·exact sa
        refine one_ (i:=8) (N:=some 25) #[true,true,true,true,true,true,true,true,true,false] rfl rfl (one_of HT_.out (by kernel_rfl)) (by decide) (fun K hK=>?_)
        refine goes_ Tryd.func66 (by kernel_rfl) rfl #[.agg #[.int .i64 ((jb l0 x5_1).f0), .int .i64 ((jb l0 x5_1).f1), .int .i64 ((jb l0 x5_1).f2), .int .i64 ((jb l0 x5_1).f3), .bool ((jb l0 x5_1).f4)], .agg #[.int .i64 ((jb l1 x5_1).f0), .int .i64 ((jb l1 x5_1).f1), .int .i64 ((jb l1 x5_1).f2), .int .i64 ((jb l1 x5_1).f3), .bool ((jb l1 x5_1).f4)]] (by rfl) rfl rfl (aq) ?_
        with_reducible refine (jhb.calls ((jb l0 x5_1).f0) ((jb l0 x5_1).f1) ((jb l0 x5_1).f2) ((jb l0 x5_1).f3) ((jb l0 x5_1).f4) ((jb l1 x5_1).f0) ((jb l1 x5_1).f1) ((jb l1 x5_1).f2) ((jb l1 x5_1).f3) ((jb l1 x5_1).f4) true _ A7.out).mono ?_
        rintro e w10 ⟨rfl,hb⟩
        refine ⟨_,rfl,?_⟩
        replace HB:=am (jd (bq) hb)
        (try clear hb)
        (try clear hb2)
        (try clear hk)
        (try clear hi)
        refine hK.out _ _ ⟨((HB.out.cell (World.block_lt_of_cell? w _ hw572_0)).trans hw572_0),((HB.out.cell (World.block_lt_of_cell? w _ hw572_1)).trans hw572_1),((HB.out.cell (World.block_lt_of_cell? w _ hw572_2)).trans hw572_2),((HB.out.cell (World.block_lt_of_cell? w _ hw572_3)).trans hw572_3),((HB.out.cell (World.block_lt_of_cell? w _ hw572_4)).trans hw572_4),((HB.out.cell (World.block_lt_of_cell? w _ hw573_0)).trans hw573_0),((HB.out.cell (World.block_lt_of_cell? w _ hw573_1)).trans hw573_1),((HB.out.cell (World.block_lt_of_cell? w _ hw573_2)).trans hw573_2),((HB.out.cell (World.block_lt_of_cell? w _ hw573_3)).trans hw573_3),((HB.out.cell (World.block_lt_of_cell? w _ hw573_4)).trans hw573_4)⟩ (fun hHeld=>?_)
        clear hK K
        refine norm_ (a':=?_) ?_ ?_
        rotate_left
        ·show Act.put _ (some 25) _=_
         simp only [Act.put,List.setIfInBounds_toArray,List.set_cons_zero,List.set_cons_succ,jEb,i32_w]
         rfl
        refine pq (i:=9) (N:=some 26) #[true,true,true,true,true,true,true,true,true,true] ?_
        refine done_ (done_of HT_.out (by kernel_rfl)) ?_
        try go_wp2
        go_roundg k1
        case measure=>have:=HK1.out;omega
        case rel=>exact ⟨(wrap64 (x5_1+1)),(sq),H',⟨by have:=HK1.out;omega⟩,⟨bq⟩⟩
       ·replace c8:=Bool.eq_false_iff.mpr c8
        subst c8
        have H1:(some false)=some r:=by rw [if_neg (show ¬ (false=true) by decide)] at H;exact H
        clear H
        have H:=H1
        clear H1
        obtain rfl:=Option.some.inj H
        try go_wp2
        replace HB:=am (jk HB.out)
        have p572:0≤(x5_1:Int):=ozD (uq)
        have q572:x5_1<(l0.length:Int):=ozD (uq)
        obtain ⟨ad572,e572,hx572_0,hx572_1,hx572_2,hx572_3,hx572_4⟩:=jLa HR0.out x5_1 p572 q572
        have hw572_4:=hx572_4
        have hw572_3:=hx572_3
        have hw572_2:=hx572_2
        have hw572_1:=hx572_1
        have hw572_0:=hx572_0
        cases e572
        replace hx572_0:=cb HB.out hx572_0
        replace hx572_1:=cb HB.out hx572_1
        replace hx572_2:=cb HB.out hx572_2
        replace hx572_3:=cb HB.out hx572_3
        replace hx572_4:=cb HB.out hx572_4
        replace p572:=ezT p572
        replace q572:=ezT q572
        have p573:0≤(x5_1:Int):=ozD (uq)
        have q573:x5_1<(l1.length:Int):=ozD (uq)
        obtain ⟨ad573,e573,hx573_0,hx573_1,hx573_2,hx573_3,hx573_4⟩:=jLa HR1.out x5_1 p573 q573
        have hw573_4:=hx573_4
        have hw573_3:=hx573_3
        have hw573_2:=hx573_2
        have hw573_1:=hx573_1
        have hw573_0:=hx573_0
        cases e573
        replace hx573_0:=cb HB.out hx573_0
        replace hx573_1:=cb HB.out hx573_1
        replace hx573_2:=cb HB.out hx573_2
        replace hx573_3:=cb HB.out hx573_3
        replace hx573_4:=cb HB.out hx573_4
        replace p573:=ezT p573
        replace q573:=ezT q573
        refine start_ (n:=10) (S:=fun w'=>w'.cell? (ad572.add ((x5_1).toNat * 5))=some (.int .i64 ((jb l0 x5_1).f0))∧w'.cell? ⟨(ad572.add ((x5_1).toNat * 5)).block,(ad572.add ((x5_1).toNat * 5)).off+1,none⟩=some (.int .i64 ((jb l0 x5_1).f1))∧w'.cell? ⟨(ad572.add ((x5_1).toNat * 5)).block,(ad572.add ((x5_1).toNat * 5)).off+2,none⟩=some (.int .i64 ((jb l0 x5_1).f2))∧w'.cell? ⟨(ad572.add ((x5_1).toNat * 5)).block,(ad572.add ((x5_1).toNat * 5)).off+3,none⟩=some (.int .i64 ((jb l0 x5_1).f3))∧w'.cell? ⟨(ad572.add ((x5_1).toNat * 5)).block,(ad572.add ((x5_1).toNat * 5)).off+4,none⟩=some (.bool ((jb l0 x5_1).f4))∧w'.cell? (ad573.add ((x5_1).toNat * 5))=some (.int .i64 ((jb l1 x5_1).f0))∧w'.cell? ⟨(ad573.add ((x5_1).toNat * 5)).block,(ad573.add ((x5_1).toNat * 5)).off+1,none⟩=some (.int .i64 ((jb l1 x5_1).f1))∧w'.cell? ⟨(ad573.add ((x5_1).toNat * 5)).block,(ad573.add ((x5_1).toNat * 5)).off+2,none⟩=some (.int .i64 ((jb l1 x5_1).f2))∧w'.cell? ⟨(ad573.add ((x5_1).toNat * 5)).block,(ad573.add ((x5_1).toNat * 5)).off+3,none⟩=some (.int .i64 ((jb l1 x5_1).f3))∧w'.cell? ⟨(ad573.add ((x5_1).toNat * 5)).block,(ad573.add ((x5_1).toNat * 5)).off+4,none⟩=some (.bool ((jb l1 x5_1).f4))) (ds:=[]) #[false,false,false,false,false,false,false,false,false,false] (by kernel_rfl) rfl rfl ⟨((HB.out.cell (World.block_lt_of_cell? w _ hw572_0)).trans hw572_0),((HB.out.cell (World.block_lt_of_cell? w _ hw572_1)).trans hw572_1),((HB.out.cell (World.block_lt_of_cell? w _ hw572_2)).trans hw572_2),((HB.out.cell (World.block_lt_of_cell? w _ hw572_3)).trans hw572_3),((HB.out.cell (World.block_lt_of_cell? w _ hw572_4)).trans hw572_4),((HB.out.cell (World.block_lt_of_cell? w _ hw573_0)).trans hw573_0),((HB.out.cell (World.block_lt_of_cell? w _ hw573_1)).trans hw573_1),((HB.out.cell (World.block_lt_of_cell? w _ hw573_2)).trans hw573_2),((HB.out.cell (World.block_lt_of_cell? w _ hw573_3)).trans hw573_3),((HB.out.cell (World.block_lt_of_cell? w _ hw573_4)).trans hw573_4)⟩ (fun hHeld=>?_);refine jwb jL.tab6 jL.bits6 (fun HT_ HW_=>?_)
        generalize wr.drew=w11 at HB hx572_0 hx572_1 hx572_2 hx572_3 hx572_4 hx573_0 hx573_1 hx573_2 hx573_3 hx573_4 hHeld ⊢
        refine pq (i:=0) (N:=some 17) #[true,false,false,false,false,false,false,false,false,false] ?_
        refine pq (i:=1) (N:=some 18) #[true,true,false,false,false,false,false,false,false,false] ?_
        refine pq (i:=2) (N:=some 19) #[true,true,true,false,false,false,false,false,false,false] ?_
        refine pq (i:=4) (N:=some 21) #[true,true,true,false,true,false,false,false,false,false] ?_
        refine pq (i:=5) (N:=some 22) #[true,true,true,false,true,true,false,false,false,false] ?_
        refine pq (i:=6) (N:=some 23) #[true,true,true,false,true,true,true,false,false,false] ?_
        refine jzb (i:=3) (N:=some 20) (v:=?_) (a':=?_) #[true,true,true,true,true,true,true,false,false,false] rfl rfl (jUa HT_.out HW_.out (by kernel_rfl)) (fun _ _ _ h=>h) (Or.inl ⟨by rfl,?_⟩) hHeld ?_ ?_
        rotate_left
        ·rintro w' ⟨s0,s1,s2,s3,s4,s5,s6,s7,s8,s9⟩
         go_simp
         with_reducible rfl
        rotate_left
        ·exact sa
        refine jzb (i:=7) (N:=some 24) (v:=?_) (a':=?_) #[true,true,true,true,true,true,true,true,false,false] rfl rfl (jUa HT_.out HW_.out (by kernel_rfl)) (fun _ _ _ h=>h) (Or.inl ⟨by rfl,?_⟩) hHeld ?_ ?_
        rotate_left
        ·rintro w' ⟨s0,s1,s2,s3,s4,s5,s6,s7,s8,s9⟩
         go_simp
         with_reducible rfl
        rotate_left
        ·exact sa
        refine one_ (i:=8) (N:=some 25) #[true,true,true,true,true,true,true,true,true,false] rfl rfl (one_of HT_.out (by kernel_rfl)) (by decide) (fun K hK=>?_)
        refine goes_ Tryd.func66 (by kernel_rfl) rfl #[.agg #[.int .i64 ((jb l0 x5_1).f0), .int .i64 ((jb l0 x5_1).f1), .int .i64 ((jb l0 x5_1).f2), .int .i64 ((jb l0 x5_1).f3), .bool ((jb l0 x5_1).f4)], .agg #[.int .i64 ((jb l1 x5_1).f0), .int .i64 ((jb l1 x5_1).f1), .int .i64 ((jb l1 x5_1).f2), .int .i64 ((jb l1 x5_1).f3), .bool ((jb l1 x5_1).f4)]] (by rfl) rfl rfl (aq) ?_
        with_reducible refine (jhb.calls ((jb l0 x5_1).f0) ((jb l0 x5_1).f1) ((jb l0 x5_1).f2) ((jb l0 x5_1).f3) ((jb l0 x5_1).f4) ((jb l1 x5_1).f0) ((jb l1 x5_1).f1) ((jb l1 x5_1).f2) ((jb l1 x5_1).f3) ((jb l1 x5_1).f4) false _ A7.out).mono ?_
        rintro e w12 ⟨rfl,hb⟩
        refine ⟨_,rfl,?_⟩
        replace HB:=am (jd (bq) hb)
        (try clear hb)
        (try clear hb2)
        (try clear hk)
        (try clear hi)
        refine hK.out _ _ ⟨((HB.out.cell (World.block_lt_of_cell? w _ hw572_0)).trans hw572_0),((HB.out.cell (World.block_lt_of_cell? w _ hw572_1)).trans hw572_1),((HB.out.cell (World.block_lt_of_cell? w _ hw572_2)).trans hw572_2),((HB.out.cell (World.block_lt_of_cell? w _ hw572_3)).trans hw572_3),((HB.out.cell (World.block_lt_of_cell? w _ hw572_4)).trans hw572_4),((HB.out.cell (World.block_lt_of_cell? w _ hw573_0)).trans hw573_0),((HB.out.cell (World.block_lt_of_cell? w _ hw573_1)).trans hw573_1),((HB.out.cell (World.block_lt_of_cell? w _ hw573_2)).trans hw573_2),((HB.out.cell (World.block_lt_of_cell? w _ hw573_3)).trans hw573_3),((HB.out.cell (World.block_lt_of_cell? w _ hw573_4)).trans hw573_4)⟩ (fun hHeld=>?_)
        clear hK K
        refine norm_ (a':=?_) ?_ ?_
        rotate_left
        ·show Act.put _ (some 25) _=_
         simp only [Act.put,List.setIfInBounds_toArray,List.set_cons_zero,List.set_cons_succ,jEb,i32_w]
         rfl
        refine pq (i:=9) (N:=some 26) #[true,true,true,true,true,true,true,true,true,true] ?_
        refine done_ (done_of HT_.out (by kernel_rfl)) ?_
        try go_wp2
        go_ret
        exact ⟨Y1,bq⟩
      ·rw [if_neg c6] at H
       exact absurd H (by simp)
     ·rw [if_neg c5] at H
      exact absurd H (by simp)
    ·rw [if_neg c4] at H
     have c4b0:decide (x5_1<(l0.length:Int))=false:=dzF c4
     clear c4
     obtain rfl:=Option.some.inj H
     go_wp2
     go_ret
     exact ⟨Y1,bq⟩
 ·rw [if_neg c3] at H
  have c3b0:((l0.length:Int) == (l1.length:Int))=false:=beq_eq_false_iff_ne.mpr c3
  have c3b1:((l0.length:Int) != (l1.length:Int))=true:=bne_iff_ne.mpr c3
  have c3b2:(l0.length == l1.length)=false:=by first | simpa using c3 |(simp at c3 ⊢;omega)
  obtain rfl:=Option.some.inj H
  go_enter Tryd.func42,Tryd.ntmps42
  go_wp2
  go_ret
  exact ⟨Y1,bq⟩
def joa.f (k : Nat) (l0_0 : List (S66)) (l1_0 : List (S66)) : Option (Bool) := (jL.f k l0_0 l1_0).bind fun t577 => (if t577 = true then (some true) else (some false))
set_option maxHeartbeats 8000000 in
set_option maxRecDepth 100000 in
theorem joa.calls (k : Nat) (A0_0 : Option Addr) (c0_0 : Nat) (l0_0 : List (S66)) (A1_0 : Option Addr) (c1_0 : Nat) (l1_0 : List (S66)) (r : Bool) (w : World) (hr0_0 : Kd.C k66 w A0_0 l0_0.length l0_0) (hc0_0 : l0_0.length ≤ c0_0) (hr1_0 : Kd.C k66 w A1_0 l1_0.length l1_0) (hc1_0 : l1_0.length ≤ c1_0) (h : joa.f k l0_0 l1_0 = some r) :
  Calls Tryd.prog 21 #[.agg #[.slice A0_0 l0_0.length c0_0], .agg #[.slice A1_0 l1_0.length c1_0]] w fun e w'=>e=.returned (.bool r)∧Below w.heap.size w w':=by
 have hu28:=Tryd.underlying28
 have HR0_0:=am hr0_0
 have HC0_0:=am hc0_0
 clear hr0_0 hc0_0
 have HR1_0:=am hr1_0
 have HC1_0:=am hc1_0
 clear hr1_0 hc1_0
 have HB:=am (Below.refl w.heap.size w)
 have H:((jL.f k l0_0 l1_0).bind fun t577=>(if t577=true then (some true) else (some false)))=some r:=h
 clear h
 replace H:=bzS H
 obtain ⟨t577,A30,H⟩:=H
 replace H:(if t577=true then (some true) else (some false))=some r:=H
 have A3:=am A30
 clear A30
 by_cases c4:t577=true
 ·subst c4
  have H1:(some true)=some r:=by rw [if_pos rfl] at H;exact H
  clear H
  have H:=H1
  clear H1
  obtain rfl:=Option.some.inj H
  go_enter Tryd.func21,Tryd.ntmps21
  go_wp2_with (first |((with_reducible refine jr (N:=2) rfl ?_);refine bE (N:=2) (cs:=#[.slice A0_0 l0_0.length c0_0]) (t:=28) ?_;intro gb575 hg w5 hbox hb;have BK575:=am (hbox);have GW575:=am ((Y0:w.heap.size≤gb575));have GE575:=am ((Y0:w.heap.size≤gb575));replace HB:=am (jd (bq) hb);clear hb hbox hg) |((with_reducible refine jr (N:=3) rfl ?_);refine bE (N:=3) (cs:=#[.slice A1_0 l1_0.length c1_0]) (t:=28) ?_;intro gb576 hg w6 hbox hb;have BK576:=am (hbox);have GW576:=am ((Y54:w.heap.size≤gb576));have GE576:=am ((Y54:w.heap.size≤gb576));have NB575_576:=am ((by rw [hg];exact Nat.ne_of_lt (jT (g:=gb575) (o:=.cells #[.slice A0_0 l0_0.length c0_0] 28 (0,0)) (kq BK575.out)):gb575≠gb576));have NB576_575:=am ((by rw [hg];exact Nat.ne_of_gt (jT (g:=gb575) (o:=.cells #[.slice A0_0 l0_0.length c0_0] 28 (0,0)) (kq BK575.out)):gb576≠gb575));replace BK575:=am (jc (g:=gb575) (o:=.cells #[.slice A0_0 l0_0.length c0_0] 28 (0,0)) (kq BK575.out) hb);replace HB:=am (jd (Y99) hb);clear hb hbox hg;have hnb7:=NB575_576.out;have hnc7:=NB576_575.out;have hcz8_0:=bc0 BK575.out;have hfz8_0:=ja BK575.out 0;have hcz9_0:=bc0 BK576.out;have hfz9_0:=ja BK576.out 0) |((with_reducible refine jB (f:=42) rfl ?_);refine gL (some 9) Tryd.func42 #[.slice A0_0 l0_0.length c0_0, .slice A1_0 l1_0.length c1_0] ?_;(with_reducible refine (jL.calls k _ _ l0_0 _ _ l1_0 true _ ?side1 ?side2 ?side3 ?side4 A3.out).mono ?_);(case side1=>exact cq (Kd.jD HR0_0.out HB.out));(case side2=>exact HC0_0.out);(case side3=>exact cq (Kd.jD HR1_0.out HB.out));(case side4=>exact HC1_0.out);rintro e w10 ⟨rfl,hb⟩;refine ⟨_,rfl,?_⟩;replace BK575:=am (jc (g:=gb575) (o:=.cells #[.slice A0_0 l0_0.length c0_0] 28 (0,0)) (kq BK575.out) hb);replace BK576:=am (jc (g:=gb576) (o:=.cells #[.slice A1_0 l1_0.length c1_0] 28 (0,0)) (kq BK576.out) hb);replace HB:=am (jd (Y55) hb);(try clear hb);(try clear hb2);(try clear hk);(try clear hi)))
  go_ret
  exact ⟨Y1,Y55⟩
 ·replace c4:=Bool.eq_false_iff.mpr c4
  subst c4
  have H1:(some false)=some r:=by rw [if_neg (show ¬ (false=true) by decide)] at H;exact H
  clear H
  have H:=H1
  clear H1
  obtain rfl:=Option.some.inj H
  go_enter Tryd.func21,Tryd.ntmps21
  go_wp2_with (first |((with_reducible refine jr (N:=2) rfl ?_);refine bE (N:=2) (cs:=#[.slice A0_0 l0_0.length c0_0]) (t:=28) ?_;intro gb575 hg w11 hbox hb;have BK575:=am (hbox);have GW575:=am ((Y0:w.heap.size≤gb575));have GE575:=am ((Y0:w.heap.size≤gb575));replace HB:=am (jd (bq) hb);clear hb hbox hg) |((with_reducible refine jr (N:=3) rfl ?_);refine bE (N:=3) (cs:=#[.slice A1_0 l1_0.length c1_0]) (t:=28) ?_;intro gb576 hg w12 hbox hb;have BK576:=am (hbox);have GW576:=am ((Y54:w.heap.size≤gb576));have GE576:=am ((Y54:w.heap.size≤gb576));have NB575_576:=am ((by rw [hg];exact Nat.ne_of_lt (jT (g:=gb575) (o:=.cells #[.slice A0_0 l0_0.length c0_0] 28 (0,0)) (kq BK575.out)):gb575≠gb576));have NB576_575:=am ((by rw [hg];exact Nat.ne_of_gt (jT (g:=gb575) (o:=.cells #[.slice A0_0 l0_0.length c0_0] 28 (0,0)) (kq BK575.out)):gb576≠gb575));replace BK575:=am (jc (g:=gb575) (o:=.cells #[.slice A0_0 l0_0.length c0_0] 28 (0,0)) (kq BK575.out) hb);replace HB:=am (jd (Y99) hb);clear hb hbox hg;have hnb13:=NB575_576.out;have hnc13:=NB576_575.out;have hcz14_0:=bc0 BK575.out;have hfz14_0:=ja BK575.out 0;have hcz15_0:=bc0 BK576.out;have hfz15_0:=ja BK576.out 0) |((with_reducible refine jB (f:=42) rfl ?_);refine gL (some 9) Tryd.func42 #[.slice A0_0 l0_0.length c0_0, .slice A1_0 l1_0.length c1_0] ?_;(with_reducible refine (jL.calls k _ _ l0_0 _ _ l1_0 false _ ?side1 ?side2 ?side3 ?side4 A3.out).mono ?_);(case side1=>exact cq (Kd.jD HR0_0.out HB.out));(case side2=>exact HC0_0.out);(case side3=>exact cq (Kd.jD HR1_0.out HB.out));(case side4=>exact HC1_0.out);rintro e w16 ⟨rfl,hb⟩;refine ⟨_,rfl,?_⟩;replace BK575:=am (jc (g:=gb575) (o:=.cells #[.slice A0_0 l0_0.length c0_0] 28 (0,0)) (kq BK575.out) hb);replace BK576:=am (jc (g:=gb576) (o:=.cells #[.slice A1_0 l1_0.length c1_0] 28 (0,0)) (kq BK576.out) hb);replace HB:=am (jd (Y55) hb);(try clear hb);(try clear hb2);(try clear hk);(try clear hi)))
  go_ret
  exact ⟨Y1,Y55⟩
end Go.Proofs.YteibechlncphnaaDoor.P
end
