/- One part of the proofs on this program: functions of the program as plain functions, that the code comes to them, and facts on them. -/
import Derived.Test.YtlhfcmbkjddgiaaYAll1
import Derived.Test.YtlhfcmbkjddgiaaYWAuto
section
namespace Go.Proofs.Ytlhfcmbkjddgiaa.P
open Go.RowKit Go.Proofs.YtlhfcmbkjddgiaaW.PrintWords Go.Proofs.YtlhfcmbkjddgiaaW.PrintLast Go.Proofs.YtlhfcmbkjddgiaaW.PrintMore
attribute [local go_sem] jha jfa jqa jpa jW jV jga jea jl
set_option linter.unusedVariables false
set_option linter.unusedSimpArgs false
def jib.f (k : Nat) (s0_0 : List Int) (s0_1 : Int) : Option ((List (S106)) × (List (S44)) × Int) := (joa.f k s0_0 s0_1).bind fun bt406 => ((jca.f k s0_0 bt406.2 bt406.1).bind fun bt411 => (if (bt411.1.length : Int) > 0 then ((jA.f k s0_0 bt411.2 (bt411.1.length : Int)).bind fun bt415 => ((jA.f k s0_0 bt415.2 24).bind fun bt417 => (if bt417.1 = 0 then ((jG.f k s0_0 bt417.2 (([(-1), 4, 2] : List Int))).bind fun bt422 => (if 0 ≤ bt415.1 then (if bt415.1 < (bt411.1.length : Int) then (some (bt406.1, (bt411.1.set (bt415.1 : Int).toNat (⟨bt422.1, (jZ bt411.1 bt415.1).f1, (jZ bt411.1 bt415.1).f2⟩ : S44)), bt422.2)) else (none)) else (none))) else (if bt417.1 = 1 then ((jG.f k s0_0 bt417.2 (([(-1), 100] : List Int))).bind fun bt428 => (if 0 ≤ bt415.1 then (if bt415.1 < (bt411.1.length : Int) then (some (bt406.1, (bt411.1.set (bt415.1 : Int).toNat (⟨(jZ bt411.1 bt415.1).f0, bt428.1, (jZ bt411.1 bt415.1).f2⟩ : S44)), bt428.2)) else (none)) else (none))) else (if bt417.1 = 2 then ((jG.f k s0_0 bt417.2 (([5, 100, (-1)] : List Int))).bind fun bt434 => (if 0 ≤ bt415.1 then (if bt415.1 < (bt411.1.length : Int) then (some (bt406.1, (bt411.1.set (bt415.1 : Int).toNat (⟨(jZ bt411.1 bt415.1).f0, (jZ bt411.1 bt415.1).f1, bt434.1⟩ : S44)), bt434.2)) else (none)) else (none))) else (some (bt406.1, bt411.1, bt417.2))))))) else (some (bt406.1, bt411.1, bt411.2))))
set_option maxHeartbeats 8000000 in
set_option maxRecDepth 100000 in
theorem jib.calls (k : Nat) (g : Nat) (s0_0 : List Int) (s0_1 : Int) (r1 : List (S106)) (r2 : List (S44)) (r3 : Int) (w0 w : World) (hI : jg w0 w g s0_0 s0_1) (hB : Below w0.heap.size w0 w) (h : jib.f k s0_0 s0_1 = some (r1, r2, r3)) :
  Calls Try.prog 46 #[.pointer (some ⟨g,0,none⟩)] w fun e w'=>∃ v0_ v1_:Value,e=.returned (.tuple #[.agg #[v0_],v1_])∧Kd.R k106 106 w' w.heap.size (fun _=>True) v0_ r1∧Kd.R k44 44 w' w.heap.size (fun _=>True) v1_ r2∧jg w0 w' g s0_0 r3∧Below w0.heap.size w0 w'∧jm w w' g none:=by
 have hu31:=Try.underlying31
 have HI0:=am hI
 have HK:=am (jm.refl w g none)
 have HL:=am hB.size
 clear hI
 have HW0:=am hB.size
 have HB:=am hB
 clear hB
 have H:((joa.f k s0_0 s0_1).bind fun bt406=>((jca.f k s0_0 bt406.2 bt406.1).bind fun bt411=>(if (bt411.1.length:Int) > 0 then ((jA.f k s0_0 bt411.2 (bt411.1.length:Int)).bind fun bt415=>((jA.f k s0_0 bt415.2 24).bind fun bt417=>(if bt417.1=0 then ((jG.f k s0_0 bt417.2 (([(-1),4,2]:List Int))).bind fun bt422=>(if 0≤bt415.1 then (if bt415.1<(bt411.1.length:Int) then (some (bt406.1,(bt411.1.set (bt415.1:Int).toNat (⟨bt422.1,(jZ bt411.1 bt415.1).f1,(jZ bt411.1 bt415.1).f2⟩:S44)),bt422.2)) else (none)) else (none))) else (if bt417.1=1 then ((jG.f k s0_0 bt417.2 (([(-1),100]:List Int))).bind fun bt428=>(if 0≤bt415.1 then (if bt415.1<(bt411.1.length:Int) then (some (bt406.1,(bt411.1.set (bt415.1:Int).toNat (⟨(jZ bt411.1 bt415.1).f0,bt428.1,(jZ bt411.1 bt415.1).f2⟩:S44)),bt428.2)) else (none)) else (none))) else (if bt417.1=2 then ((jG.f k s0_0 bt417.2 (([5,100,(-1)]:List Int))).bind fun bt434=>(if 0≤bt415.1 then (if bt415.1<(bt411.1.length:Int) then (some (bt406.1,(bt411.1.set (bt415.1:Int).toNat (⟨(jZ bt411.1 bt415.1).f0,(jZ bt411.1 bt415.1).f1,bt434.1⟩:S44)),bt434.2)) else (none)) else (none))) else (some (bt406.1,bt411.1,bt417.2))))))) else (some (bt406.1,bt411.1,bt411.2)))))=some (r1,r2,r3):=h
 clear h
 replace H:=bzS H
 obtain ⟨⟨t406,t409⟩,A20,H⟩:=H
 replace H:((jca.f k s0_0 t409 t406).bind fun bt411=>(if (bt411.1.length:Int) > 0 then ((jA.f k s0_0 bt411.2 (bt411.1.length:Int)).bind fun bt415=>((jA.f k s0_0 bt415.2 24).bind fun bt417=>(if bt417.1=0 then ((jG.f k s0_0 bt417.2 (([(-1),4,2]:List Int))).bind fun bt422=>(if 0≤bt415.1 then (if bt415.1<(bt411.1.length:Int) then (some (t406,(bt411.1.set (bt415.1:Int).toNat (⟨bt422.1,(jZ bt411.1 bt415.1).f1,(jZ bt411.1 bt415.1).f2⟩:S44)),bt422.2)) else (none)) else (none))) else (if bt417.1=1 then ((jG.f k s0_0 bt417.2 (([(-1),100]:List Int))).bind fun bt428=>(if 0≤bt415.1 then (if bt415.1<(bt411.1.length:Int) then (some (t406,(bt411.1.set (bt415.1:Int).toNat (⟨(jZ bt411.1 bt415.1).f0,bt428.1,(jZ bt411.1 bt415.1).f2⟩:S44)),bt428.2)) else (none)) else (none))) else (if bt417.1=2 then ((jG.f k s0_0 bt417.2 (([5,100,(-1)]:List Int))).bind fun bt434=>(if 0≤bt415.1 then (if bt415.1<(bt411.1.length:Int) then (some (t406,(bt411.1.set (bt415.1:Int).toNat (⟨(jZ bt411.1 bt415.1).f0,(jZ bt411.1 bt415.1).f1,bt434.1⟩:S44)),bt434.2)) else (none)) else (none))) else (some (t406,bt411.1,bt417.2))))))) else (some (t406,bt411.1,bt411.2))))=some (r1,r2,r3):=H
 have A2:=am A20
 clear A20
 replace H:=bzS H
 obtain ⟨⟨t411,t414⟩,A30,H⟩:=H
 replace H:(if (t411.length:Int) > 0 then ((jA.f k s0_0 t414 (t411.length:Int)).bind fun bt415=>((jA.f k s0_0 bt415.2 24).bind fun bt417=>(if bt417.1=0 then ((jG.f k s0_0 bt417.2 (([(-1),4,2]:List Int))).bind fun bt422=>(if 0≤bt415.1 then (if bt415.1<(t411.length:Int) then (some (t406,(t411.set (bt415.1:Int).toNat (⟨bt422.1,(jZ t411 bt415.1).f1,(jZ t411 bt415.1).f2⟩:S44)),bt422.2)) else (none)) else (none))) else (if bt417.1=1 then ((jG.f k s0_0 bt417.2 (([(-1),100]:List Int))).bind fun bt428=>(if 0≤bt415.1 then (if bt415.1<(t411.length:Int) then (some (t406,(t411.set (bt415.1:Int).toNat (⟨(jZ t411 bt415.1).f0,bt428.1,(jZ t411 bt415.1).f2⟩:S44)),bt428.2)) else (none)) else (none))) else (if bt417.1=2 then ((jG.f k s0_0 bt417.2 (([5,100,(-1)]:List Int))).bind fun bt434=>(if 0≤bt415.1 then (if bt415.1<(t411.length:Int) then (some (t406,(t411.set (bt415.1:Int).toNat (⟨(jZ t411 bt415.1).f0,(jZ t411 bt415.1).f1,bt434.1⟩:S44)),bt434.2)) else (none)) else (none))) else (some (t406,t411,bt417.2))))))) else (some (t406,t411,t414)))=some (r1,r2,r3):=H
 have A3:=am A30
 clear A30
 by_cases c4:(t411.length:Int) > 0
 ·rw [if_pos c4] at H
  have c4b0:decide (0<(t411.length:Int))=true:=dzT c4
  have c4b1:decide (0<t411.length)=true:=dzT (by omega)
  clear c4
  replace H:=bzS H
  obtain ⟨⟨t415,t416⟩,A50,H⟩:=H
  replace H:((jA.f k s0_0 t416 24).bind fun bt417=>(if bt417.1=0 then ((jG.f k s0_0 bt417.2 (([(-1),4,2]:List Int))).bind fun bt422=>(if 0≤t415 then (if t415<(t411.length:Int) then (some (t406,(t411.set (t415:Int).toNat (⟨bt422.1,(jZ t411 t415).f1,(jZ t411 t415).f2⟩:S44)),bt422.2)) else (none)) else (none))) else (if bt417.1=1 then ((jG.f k s0_0 bt417.2 (([(-1),100]:List Int))).bind fun bt428=>(if 0≤t415 then (if t415<(t411.length:Int) then (some (t406,(t411.set (t415:Int).toNat (⟨(jZ t411 t415).f0,bt428.1,(jZ t411 t415).f2⟩:S44)),bt428.2)) else (none)) else (none))) else (if bt417.1=2 then ((jG.f k s0_0 bt417.2 (([5,100,(-1)]:List Int))).bind fun bt434=>(if 0≤t415 then (if t415<(t411.length:Int) then (some (t406,(t411.set (t415:Int).toNat (⟨(jZ t411 t415).f0,(jZ t411 t415).f1,bt434.1⟩:S44)),bt434.2)) else (none)) else (none))) else (some (t406,t411,bt417.2))))))=some (r1,r2,r3):=H
  have A5:=am A50
  clear A50
  replace H:=bzS H
  obtain ⟨⟨t417,t418⟩,A60,H⟩:=H
  replace H:(if t417=0 then ((jG.f k s0_0 t418 (([(-1),4,2]:List Int))).bind fun bt422=>(if 0≤t415 then (if t415<(t411.length:Int) then (some (t406,(t411.set (t415:Int).toNat (⟨bt422.1,(jZ t411 t415).f1,(jZ t411 t415).f2⟩:S44)),bt422.2)) else (none)) else (none))) else (if t417=1 then ((jG.f k s0_0 t418 (([(-1),100]:List Int))).bind fun bt428=>(if 0≤t415 then (if t415<(t411.length:Int) then (some (t406,(t411.set (t415:Int).toNat (⟨(jZ t411 t415).f0,bt428.1,(jZ t411 t415).f2⟩:S44)),bt428.2)) else (none)) else (none))) else (if t417=2 then ((jG.f k s0_0 t418 (([5,100,(-1)]:List Int))).bind fun bt434=>(if 0≤t415 then (if t415<(t411.length:Int) then (some (t406,(t411.set (t415:Int).toNat (⟨(jZ t411 t415).f0,(jZ t411 t415).f1,bt434.1⟩:S44)),bt434.2)) else (none)) else (none))) else (some (t406,t411,t418)))))=some (r1,r2,r3):=H
  have A6:=am A60
  clear A60
  by_cases c7:t417=0
  ·rw [if_pos c7] at H
   have c7b0:(t417 == 0)=true:=beq_iff_eq.mpr c7
   have c7b1:(t417 != 0)=false:=bne_eq_false_iff_eq.mpr c7
   clear c7
   obtain ⟨y419,hy419⟩:∃ y_:List Int,y_=(([(-1),4,2]:List Int)):=⟨_,rfl⟩
   replace H:((jG.f k s0_0 t418 y419).bind fun bt422=>(if 0≤t415 then (if t415<(t411.length:Int) then (some (t406,(t411.set (t415:Int).toNat (⟨bt422.1,(jZ t411 t415).f1,(jZ t411 t415).f2⟩:S44)),bt422.2)) else (none)) else (none)))=some (r1,r2,r3):=by first |(rw [hy419];with_reducible exact H) |(have H2_:=(Option.bind_some _ _).symm.trans H;rw [hy419];with_reducible exact H2_) |(have H2_:=(Option.bind_some _ _).symm.trans H;with_reducible exact H2_) | with_reducible exact H |(rw [hy419];exact H) | exact H
   have Ny419:=am hy419
   clear hy419
   replace H:=bzS H
   obtain ⟨⟨t422,t423⟩,A80,H⟩:=H
   replace H:(if 0≤t415 then (if t415<(t411.length:Int) then (some (t406,(t411.set (t415:Int).toNat (⟨t422,(jZ t411 t415).f1,(jZ t411 t415).f2⟩:S44)),t423)) else (none)) else (none))=some (r1,r2,r3):=H
   have A8:=am A80
   clear A80
   by_cases c9:0≤t415
   ·rw [if_pos c9] at H
    have c9b0:decide (0≤t415)=true:=dzT c9
    clear c9
    by_cases c10:t415<(t411.length:Int)
    ·rw [if_pos c10] at H
     have c10b0:decide (t415<(t411.length:Int))=true:=dzT c10
     clear c10
     obtain ⟨y424,hy424⟩:∃ y_:List (S44),y_=(t411.set (t415:Int).toNat (⟨t422,(jZ t411 t415).f1,(jZ t411 t415).f2⟩:S44)):=⟨_,rfl⟩
     replace H:(some (t406,y424,t423))=some (r1,r2,r3):=by first |(rw [hy424];with_reducible exact H) |(have H2_:=(Option.bind_some _ _).symm.trans H;rw [hy424];with_reducible exact H2_) |(have H2_:=(Option.bind_some _ _).symm.trans H;with_reducible exact H2_) | with_reducible exact H |(rw [hy424];exact H) | exact H
     have Ny424:=am hy424
     clear hy424
     simp only [Option.some.injEq,Prod.mk.injEq] at H
     obtain ⟨rfl,rfl,rfl⟩:=H
     go_enter Try.func46,Try.ntmps46
     go_wp2_with (first |((with_reducible refine jP (N:=2) rfl ?_);refine bE (N:=2) (cs:=#[.slice none 0 0]) (t:=31) ?_;intro gb405 hg w12 hbox hb;have BK405:=am (hbox);have GW405:=am ((Y7:w.heap.size≤gb405));have GE405:=am ((Nat.le_trans HW0.out (Y7:w.heap.size≤gb405):w0.heap.size≤gb405));have NB0_405:=am ((Y24:g≠gb405));have NB405_0:=am ((Y25:gb405≠g));replace HK:=am (jm.trans (Y11) (jm.of_below hb g none) (.inl rfl));replace HB:=am (jk (Y12) hb);replace HI0:=am (jg.below (Y10) hb);clear hb hbox hg) |((with_reducible refine jy (f:=76) rfl ?_);refine gL (some 8) Try.func76 #[.pointer (some ⟨g,0,none⟩)] ?_;(with_reducible refine (joa.calls k g s0_0 s0_1 t406 t409 w0 _ ?side1 ?side2 A2.out).mono ?_);(case side1=>exact Y36);(case side2=>exact Y37);rintro e w13 ⟨v407,rfl,ho0,hi,hb,hk⟩;refine ⟨_,rfl,?_⟩;have HO408:=am (Kd.jua ho0 (jBa (w:=w) (g:=g) (row:=none) (Y20)));replace BK405:=am (jm.blk hk (g':=gb405) (o:=.cells #[.slice none 0 0] 31 (0,0)) (kq BK405.out) NB405_0.out (by simp));replace HK:=am (jm.trans (Y20) hk (.inl rfl));replace HB:=am (hb);replace HI0:=am (hi);(try clear hb);(try clear hb2);(try clear hk);(try clear hi);(try clear ho0)) |((with_reducible refine jP (N:=4) rfl ?_);refine bE (N:=4) (cs:=#[.slice none 0 0]) (t:=31) ?_;intro gb410 hg w14 hbox hb;have BK410:=am (hbox);have GW410:=am ((Y38:w.heap.size≤gb410));have GE410:=am ((Nat.le_trans HW0.out (Y38:w.heap.size≤gb410):w0.heap.size≤gb410));have NB405_410:=am ((Y59:gb405≠gb410));have NB410_405:=am ((Y60:gb410≠gb405));have NB0_410:=am ((Y61:g≠gb410));have NB410_0:=am ((Y62:gb410≠g));replace HO408:=am (Kd.jM (rq HO408.out) hb);replace BK405:=am (je (g:=gb405) (o:=.cells #[.slice none 0 0] 31 (0,0)) (kq BK405.out) hb);replace HK:=am (jm.trans (Y20) (jm.of_below hb g none) (.inl rfl));replace HB:=am (jk (Y37) hb);replace HI0:=am (jg.below (Y36) hb);clear hb hbox hg;obtain ⟨Ao15,co15,eo15⟩:=Kd.jja HO408.out;subst eo15;have hnb16:=NB410_405.out;have hnc16:=NB405_410.out;have hnb17:=NB410_0.out;have hnc17:=NB0_410.out;have hcz18_0:=bc0 BK410.out;have hfz18_0:=jd BK410.out 0) |((with_reducible refine jy (f:=64) rfl ?_);refine gL (some 11) Try.func64 #[.pointer (some ⟨g,0,none⟩), .agg #[.slice Ao15 t406.length co15]] ?_;(with_reducible refine (jca.calls k g s0_0 t409 _ _ t406 t411 t414 w0 _ ?side1 ?side2 ?side3 ?side4 A3.out).mono ?_);(case side1=>exact Y1);(case side2=>exact Y8);(case side3=>exact Kd.jdc (jg.apart (show jg w0 _ g s0_0 t409 from Y1) (Y118) (by decide)) (fun _ h_=>h_.2));(case side4=>exact (Kd.jE HO408.out).2.1);rintro e w19 ⟨v412,rfl,ho0,hi,hb,hk⟩;refine ⟨_,rfl,?_⟩;have HO413:=am (Kd.jua ho0 (jBa (w:=w) (g:=g) (row:=none) (Y5)));replace BK405:=am (jm.blk hk (g':=gb405) (o:=.cells #[.slice none 0 0] 31 (0,0)) (Y63) NB405_0.out (by simp));replace HO408:=am (Kd.jD (Kd.jLa (jg.apart (show jg w0 _ g s0_0 t409 from Y1) (Y118) (by decide)) hk (fun _ h=>h.2)) (fun _ h=>h.1));replace BK410:=am (jm.blk hk (g':=gb410) (o:=.cells #[.slice Ao15 t406.length co15] 31 (0,0)) (Y64) NB410_0.out (by simp));replace HK:=am (jm.trans (Y5) hk (.inl rfl));replace HB:=am (hb);replace HI0:=am (hi);(try clear hb);(try clear hb2);(try clear hk);(try clear hi);(try clear ho0);obtain ⟨Ao20,co20,eo20⟩:=Kd.jja HO413.out;subst eo20) |((with_reducible refine jy (f:=47) rfl ?_);refine gL (some 18) Try.func47 #[.pointer (some ⟨g,0,none⟩), .int .i64 (t411.length:Int)] ?_;(with_reducible refine (jA.calls k g s0_0 t414 (t411.length:Int) t415 t416 w0 _ ?side1 ?side2 A5.out).mono ?_);(case side1=>exact Y1);(case side2=>exact Y8);rintro e w21 ⟨rfl,hi,hb,hk⟩;refine ⟨_,rfl,?_⟩;replace BK405:=am (jm.blk hk (g':=gb405) (o:=.cells #[.slice none 0 0] 31 (0,0)) (kq BK405.out) NB405_0.out (by simp));replace HO408:=am (Kd.jD (Kd.jLa (jg.apart (show jg w0 _ g s0_0 t414 from Y1) (rq HO408.out) (by decide)) hk (fun _ h=>h.2)) (fun _ h=>h.1));replace BK410:=am (jm.blk hk (g':=gb410) (o:=.cells #[.slice Ao15 t406.length co15] 31 (0,0)) (kq BK410.out) NB410_0.out (by simp));replace HO413:=am (Kd.jD (Kd.jLa (jg.apart (show jg w0 _ g s0_0 t414 from Y1) (rq HO413.out) (by decide)) hk (fun _ h=>h.2)) (fun _ h=>h.1));replace HK:=am (jm.trans (Y5) hk (.inl rfl));replace HB:=am (hb);replace HI0:=am (hi);(try clear hb);(try clear hb2);(try clear hk);(try clear hi)) |((with_reducible refine jy (f:=47) rfl ?_);refine gL (some 20) Try.func47 #[.pointer (some ⟨g,0,none⟩), .int .i64 24] ?_;(with_reducible refine (jA.calls k g s0_0 t416 24 t417 t418 w0 _ ?side1 ?side2 A6.out).mono ?_);(case side1=>exact Y1);(case side2=>exact Y8);rintro e w22 ⟨rfl,hi,hb,hk⟩;refine ⟨_,rfl,?_⟩;replace BK405:=am (jm.blk hk (g':=gb405) (o:=.cells #[.slice none 0 0] 31 (0,0)) (kq BK405.out) NB405_0.out (by simp));replace HO408:=am (Kd.jD (Kd.jLa (jg.apart (show jg w0 _ g s0_0 t416 from Y1) (rq HO408.out) (by decide)) hk (fun _ h=>h.2)) (fun _ h=>h.1));replace BK410:=am (jm.blk hk (g':=gb410) (o:=.cells #[.slice Ao15 t406.length co15] 31 (0,0)) (kq BK410.out) NB410_0.out (by simp));replace HO413:=am (Kd.jD (Kd.jLa (jg.apart (show jg w0 _ g s0_0 t416 from Y1) (rq HO413.out) (by decide)) hk (fun _ h=>h.2)) (fun _ h=>h.1));replace HK:=am (jm.trans (Y5) hk (.inl rfl));replace HB:=am (hb);replace HI0:=am (hi);(try clear hb);(try clear hb2);(try clear hk);(try clear hi)) |((with_reducible refine jP (N:=26) rfl ?_);refine Kd.R_lit (Kd.int .i64) _ 3 ?hg (N:=26) ?hd (xs:=([(-1),4,2]:List Int)) (inner:=[.int .i64 (-1), .int .i64 4, .int .i64 2]) (ok:=fun _=>True) (okp:=fun _=>True) ?hr ?hp (fun _ hk=>hk) trivial (Below.refl _ _) (Nat.le_refl _) (by simp) ?_;(case hd=>rfl);(case hg=>rfl);(case hr=>exact Y2);(case hp=>exact (Reps.one (show Kd.M (Kd.int .i64) _ _ _ (-1) [.int .i64 (-1)] from rfl) (Reps.one (show Kd.M (Kd.int .i64) _ _ _ 4 [.int .i64 4] from rfl) (Reps.one (show Kd.M (Kd.int .i64) _ _ _ 2 [.int .i64 2] from rfl) (Reps.none _ _)))));intro v420 w23 ho24 hb hg_ hnew_;clear hg_ hnew_;(first | rw [← Ny419.out] at ho24 |(simp only [Int.reduceToNat] at ho24;rw [← Ny419.out] at ho24));have HO421:=am (Kd.jua ho24 (jBa (w:=w) (g:=g) (row:=none) (Y5)));replace HO408:=am (Kd.jM (rq HO408.out) hb);replace HO413:=am (Kd.jM (rq HO413.out) hb);replace BK405:=am (je (g:=gb405) (o:=.cells #[.slice none 0 0] 31 (0,0)) (kq BK405.out) hb);replace BK410:=am (je (g:=gb410) (o:=.cells #[.slice Ao15 t406.length co15] 31 (0,0)) (kq BK410.out) hb);replace HK:=am (jm.trans (Y5) (jm.of_below hb g none) (.inl rfl));replace HB:=am (jk (Y8) hb);replace HI0:=am (jg.below (Y1) hb);clear hb ho24;obtain ⟨Ao25,co25,eo25⟩:=Kd.jja HO421.out;subst eo25) |((with_reducible refine jy (f:=77) rfl ?_);refine gL (some 27) Try.func77 #[.pointer (some ⟨g,0,none⟩), .slice Ao25 y419.length co25] ?_;(with_reducible refine (jG.calls k g s0_0 t418 _ _ y419 t422 t423 w0 _ ?side1 ?side2 ?side3 ?side4 ?side5 A8.out).mono ?_);(case side1=>exact Y1);(case side2=>exact Y8);(case side3=>exact cq (Kd.jE HO421.out).2.2);(case side4=>exact (Kd.jE HO421.out).2.1);(case side5=>exact jQb (jg.own_ne HI0.out HO421.out (by decide)));rintro e w26 ⟨rfl,hi,hb,hk⟩;refine ⟨_,rfl,?_⟩;replace BK405:=am (jm.blk hk (g':=gb405) (o:=.cells #[.slice none 0 0] 31 (0,0)) (kq BK405.out) NB405_0.out (by simp));replace HO408:=am (Kd.jD (Kd.jLa (jg.apart (show jg w0 _ g s0_0 t418 from Y1) (rq HO408.out) (by decide)) hk (fun _ h=>h.2)) (fun _ h=>h.1));replace BK410:=am (jm.blk hk (g':=gb410) (o:=.cells #[.slice Ao15 t406.length co15] 31 (0,0)) (kq BK410.out) NB410_0.out (by simp));replace HO413:=am (Kd.jD (Kd.jLa (jg.apart (show jg w0 _ g s0_0 t418 from Y1) (rq HO413.out) (by decide)) hk (fun _ h=>h.2)) (fun _ h=>h.1));replace HO421:=am (Kd.jD (Kd.jLa (jg.apart (show jg w0 _ g s0_0 t418 from Y1) (rq HO421.out) (by decide)) hk (fun _ h=>h.2)) (fun _ h=>h.1));replace HK:=am (jm.trans (Y5) hk (.inl rfl));replace HB:=am (hb);replace HI0:=am (hi);(try clear hb);(try clear hb2);(try clear hk);(try clear hi);have p11:0≤(t415:Int):=ozD (uq);have q11:(t415:Int)<((t411.length:Int):Int):=ozD (uq);obtain ⟨go11,co11,eo11,gb11,gl11,cl11,HG11⟩:=Kd.R_form HO413.out (by omega);(first | cases eo11 |(injection eo11 with ea_ en_ ec_;(first | subst ea_ |(injection ea_ with ea_;subst ea_));subst ec_;clear en_));have GB11:=am gb11;have GG11:=am HG11;clear gb11 gl11 HG11;obtain ⟨ce11,hcl11,hM11,hcc11,hfr11⟩:=Kd.R_elem HO413.out z44 (t415:Int) p11 q11;obtain rfl:=juc hM11;have hx11_0:w26.cell? ⟨go11,(t415:Int).toNat * 3,none⟩=some (.int .i64 ((jZ t411 t415).f0)):=hcc11 0 _ rfl;have hx11_1:w26.cell? ⟨go11,(t415:Int).toNat * 3+1,none⟩=some (.int .i64 ((jZ t411 t415).f1)):=hcc11 1 _ rfl;have hx11_2:w26.cell? ⟨go11,(t415:Int).toNat * 3+2,none⟩=some (.int .i64 ((jZ t411 t415).f2)):=hcc11 2 _ rfl;have hf11_0:w26.frozen? ⟨go11,(t415:Int).toNat * 3,none⟩=false:=hfr11 0;have hf11_1:w26.frozen? ⟨go11,(t415:Int).toNat * 3+1,none⟩=false:=hfr11 1;have hf11_2:w26.frozen? ⟨go11,(t415:Int).toNat * 3+2,none⟩=false:=hfr11 2;clear hcl11 hcc11 hfr11 hM11;replace p11:=ezT p11;replace q11:=ezT q11;have HX27:=am (show Kd.R k44 44 w26 w.heap.size (fun _=>True) (.slice (some ⟨go11,0,none⟩) t411.length co20) t411 from (rq HO413.out));obtain ⟨ce27,hcl27,hM27,hcc27,hfr27⟩:=Kd.R_elem HX27.out z44 (t415:Int) (ozD (uq)) (by have h_:(t415:Int)<((t411.length:Int):Int):=ozD (uq);first | exact h_ |(have e_:=(Kd.jE HO413.out).1;omega) | simpa using h_);obtain rfl:=juc hM27;have HP27:=Kd.R_seg HX27.out (t415:Int) (ozD (uq)) (by have h_:(t415:Int)<((t411.length:Int):Int):=ozD (uq);first | exact h_ |(have e_:=(Kd.jE HO413.out).1;omega) | simpa using h_) (seg:=[.int .i64 t422]) (j:=0) hcl27 hcc27 (show 1≤3 from by decide) (x':=(⟨t422,(jZ t411 t415).f1,(jZ t411 t415).f2⟩:S44)) (k44_mkM _ _ _ (⟨t422,(jZ t411 t415).f1,(jZ t411 t415).f2⟩:S44) ) (fun _ hk=>hk);have hx27_0:=hcc27 0 _ rfl;(try simp only [show (k44).sz=3 from rfl,Nat.mul_one,Nat.add_zero] at hx27_0);have hf27_0:=hfr27 0;(try simp only [show (k44).sz=3 from rfl,Nat.mul_one,Nat.add_zero] at hf27_0);clear hcl27 hcc27 hfr27 hM27) |((with_reducible refine gate_store (t:=3) (p:=29) rfl ?_);refine jxc (t:=3) (p:=29) (v:=?vo_w28) (w1:=(w26.setCell ⟨go11,(t415:Int).toNat * 3,none⟩ (.int .i64 t422))) ?hg ?ho ?hn ?hr ?_;(case ho=>rfl);(case hg=>rfl);(case hn=>rfl);(case hr=>exact Y2);intro w28 hw;have hg:w26.grownBy w28 (some go11):=(by rw [hw];exact HP27.2);have hp_:Kd.R k44 44 w28 w.heap.size (fun _=>True) (.slice (some ⟨go11,0,none⟩) t411.length co20) y424:=(by rw [hw,Ny424.out];exact HP27.1);clear HP27;replace HI0:=am (jg.grown (Y1) hg (jg.own_ne HI0.out HO413.out (by decide)));replace BK405:=am (jla (g:=gb405) (o:=.cells #[.slice none 0 0] 31 (0,0)) (kq BK405.out) hg (Kd.R_ne HO413.out BK405.out (by decide)));replace HO408:=am (Kd.jhb (v:=(.slice (some ⟨go11,0,none⟩) t411.length co20)) (rq HO408.out) (Kd.jfb HO413.out) (by decide) hg);replace BK410:=am (jla (g:=gb410) (o:=.cells #[.slice Ao15 t406.length co15] 31 (0,0)) (kq BK410.out) hg (Kd.R_ne HO413.out BK410.out (by decide)));replace HO421:=am (Kd.jhb (v:=(.slice (some ⟨go11,0,none⟩) t411.length co20)) (rq HO421.out) (Kd.jfb HO413.out) (by decide) hg);replace HB:=am ((by rw [hw];exact jq (HB.out) (Nat.le_trans HL.out GB11.out):Below w0.heap.size w0 w28));replace HK:=am (jm.trans (Y5) (jm.jOb hg g) (Kd.R_base2 HO413.out));replace HO413:=am (hp_);clear hg hw hp_;have hcz29_0:=bc0 BK410.out;have hfz29_0:=jd BK410.out 0;have hnb30:=NB405_0.out;have hnc30:=NB0_405.out;have hcz31_0:=bc0 BK405.out;have hfz31_0:=jd BK405.out 0))
     refine bodyPost_ret (jxb rfl _ _ gb405 31 #[.slice Ao15 t406.length co15] (0,0) _ rfl (Y65) Try.underlying31 rfl (by kernel_rfl)) rfl ?_
     exact ⟨_,_,Y0,by (with_reducible repeat (first | apply Kd.jK | apply Kd.jL | apply Kd.jH));exact Kd.jD (Kd.jB (p:=⟨gb405,0,none⟩) (Kd.jN HO408.out BK405.out (by decide)) (fun _ hk=>hk.2) (.slice Ao15 t406.length co15)) (fun _ hk=>trivial),by (with_reducible repeat (first | apply Kd.jK | apply Kd.jL | apply Kd.jH));exact Kd.jD (Kd.jB (p:=⟨gb405,0,none⟩) (Kd.jN HO413.out BK405.out (by decide)) (fun _ hk=>hk.2) (.slice Ao15 t406.length co15)) (fun _ hk=>trivial),Y1,Y8,Y5⟩
    ·rw [if_neg c10] at H
     exact absurd H (by simp)
   ·rw [if_neg c9] at H
    exact absurd H (by simp)
  ·rw [if_neg c7] at H
   have c7b0:(t417 == 0)=false:=beq_eq_false_iff_ne.mpr c7
   have c7b1:(t417 != 0)=true:=bne_iff_ne.mpr c7
   by_cases c32:t417=1
   ·rw [if_pos c32] at H
    have c32b0:(t417 == 1)=true:=beq_iff_eq.mpr c32
    have c32b1:(t417 != 1)=false:=bne_eq_false_iff_eq.mpr c32
    clear c32
    obtain ⟨y425,hy425⟩:∃ y_:List Int,y_=(([(-1),100]:List Int)):=⟨_,rfl⟩
    replace H:((jG.f k s0_0 t418 y425).bind fun bt428=>(if 0≤t415 then (if t415<(t411.length:Int) then (some (t406,(t411.set (t415:Int).toNat (⟨(jZ t411 t415).f0,bt428.1,(jZ t411 t415).f2⟩:S44)),bt428.2)) else (none)) else (none)))=some (r1,r2,r3):=by first |(rw [hy425];with_reducible exact H) |(have H2_:=(Option.bind_some _ _).symm.trans H;rw [hy425];with_reducible exact H2_) |(have H2_:=(Option.bind_some _ _).symm.trans H;with_reducible exact H2_) | with_reducible exact H |(rw [hy425];exact H) | exact H
    have Ny425:=am hy425
    clear hy425
    replace H:=bzS H
    obtain ⟨⟨t428,t429⟩,A330,H⟩:=H
    replace H:(if 0≤t415 then (if t415<(t411.length:Int) then (some (t406,(t411.set (t415:Int).toNat (⟨(jZ t411 t415).f0,t428,(jZ t411 t415).f2⟩:S44)),t429)) else (none)) else (none))=some (r1,r2,r3):=H
    have A33:=am A330
    clear A330
    by_cases c34:0≤t415
    ·rw [if_pos c34] at H
     have c34b0:decide (0≤t415)=true:=dzT c34
     clear c34
     by_cases c35:t415<(t411.length:Int)
     ·rw [if_pos c35] at H
      have c35b0:decide (t415<(t411.length:Int))=true:=dzT c35
      clear c35
      obtain ⟨y430,hy430⟩:∃ y_:List (S44),y_=(t411.set (t415:Int).toNat (⟨(jZ t411 t415).f0,t428,(jZ t411 t415).f2⟩:S44)):=⟨_,rfl⟩
      replace H:(some (t406,y430,t429))=some (r1,r2,r3):=by first |(rw [hy430];with_reducible exact H) |(have H2_:=(Option.bind_some _ _).symm.trans H;rw [hy430];with_reducible exact H2_) |(have H2_:=(Option.bind_some _ _).symm.trans H;with_reducible exact H2_) | with_reducible exact H |(rw [hy430];exact H) | exact H
      have Ny430:=am hy430
      clear hy430
      simp only [Option.some.injEq,Prod.mk.injEq] at H
      obtain ⟨rfl,rfl,rfl⟩:=H
      go_enter Try.func46,Try.ntmps46
      go_wp2_with (first |((with_reducible refine jP (N:=2) rfl ?_);refine bE (N:=2) (cs:=#[.slice none 0 0]) (t:=31) ?_;intro gb405 hg w37 hbox hb;have BK405:=am (hbox);have GW405:=am ((Y7:w.heap.size≤gb405));have GE405:=am ((Nat.le_trans HW0.out (Y7:w.heap.size≤gb405):w0.heap.size≤gb405));have NB0_405:=am ((Y24:g≠gb405));have NB405_0:=am ((Y25:gb405≠g));replace HK:=am (jm.trans (Y11) (jm.of_below hb g none) (.inl rfl));replace HB:=am (jk (Y12) hb);replace HI0:=am (jg.below (Y10) hb);clear hb hbox hg) |((with_reducible refine jy (f:=76) rfl ?_);refine gL (some 8) Try.func76 #[.pointer (some ⟨g,0,none⟩)] ?_;(with_reducible refine (joa.calls k g s0_0 s0_1 t406 t409 w0 _ ?side1 ?side2 A2.out).mono ?_);(case side1=>exact Y36);(case side2=>exact Y37);rintro e w38 ⟨v407,rfl,ho0,hi,hb,hk⟩;refine ⟨_,rfl,?_⟩;have HO408:=am (Kd.jua ho0 (jBa (w:=w) (g:=g) (row:=none) (Y20)));replace BK405:=am (jm.blk hk (g':=gb405) (o:=.cells #[.slice none 0 0] 31 (0,0)) (kq BK405.out) NB405_0.out (by simp));replace HK:=am (jm.trans (Y20) hk (.inl rfl));replace HB:=am (hb);replace HI0:=am (hi);(try clear hb);(try clear hb2);(try clear hk);(try clear hi);(try clear ho0)) |((with_reducible refine jP (N:=4) rfl ?_);refine bE (N:=4) (cs:=#[.slice none 0 0]) (t:=31) ?_;intro gb410 hg w39 hbox hb;have BK410:=am (hbox);have GW410:=am ((Y38:w.heap.size≤gb410));have GE410:=am ((Nat.le_trans HW0.out (Y38:w.heap.size≤gb410):w0.heap.size≤gb410));have NB405_410:=am ((Y59:gb405≠gb410));have NB410_405:=am ((Y60:gb410≠gb405));have NB0_410:=am ((Y61:g≠gb410));have NB410_0:=am ((Y62:gb410≠g));replace HO408:=am (Kd.jM (rq HO408.out) hb);replace BK405:=am (je (g:=gb405) (o:=.cells #[.slice none 0 0] 31 (0,0)) (kq BK405.out) hb);replace HK:=am (jm.trans (Y20) (jm.of_below hb g none) (.inl rfl));replace HB:=am (jk (Y37) hb);replace HI0:=am (jg.below (Y36) hb);clear hb hbox hg;obtain ⟨Ao40,co40,eo40⟩:=Kd.jja HO408.out;subst eo40;have hnb41:=NB410_405.out;have hnc41:=NB405_410.out;have hnb42:=NB410_0.out;have hnc42:=NB0_410.out;have hcz43_0:=bc0 BK410.out;have hfz43_0:=jd BK410.out 0) |((with_reducible refine jy (f:=64) rfl ?_);refine gL (some 11) Try.func64 #[.pointer (some ⟨g,0,none⟩), .agg #[.slice Ao40 t406.length co40]] ?_;(with_reducible refine (jca.calls k g s0_0 t409 _ _ t406 t411 t414 w0 _ ?side1 ?side2 ?side3 ?side4 A3.out).mono ?_);(case side1=>exact Y1);(case side2=>exact Y8);(case side3=>exact Kd.jdc (jg.apart (show jg w0 _ g s0_0 t409 from Y1) (Y119) (by decide)) (fun _ h_=>h_.2));(case side4=>exact (Kd.jE HO408.out).2.1);rintro e w44 ⟨v412,rfl,ho0,hi,hb,hk⟩;refine ⟨_,rfl,?_⟩;have HO413:=am (Kd.jua ho0 (jBa (w:=w) (g:=g) (row:=none) (Y5)));replace BK405:=am (jm.blk hk (g':=gb405) (o:=.cells #[.slice none 0 0] 31 (0,0)) (Y63) NB405_0.out (by simp));replace HO408:=am (Kd.jD (Kd.jLa (jg.apart (show jg w0 _ g s0_0 t409 from Y1) (Y119) (by decide)) hk (fun _ h=>h.2)) (fun _ h=>h.1));replace BK410:=am (jm.blk hk (g':=gb410) (o:=.cells #[.slice Ao40 t406.length co40] 31 (0,0)) (Y64) NB410_0.out (by simp));replace HK:=am (jm.trans (Y5) hk (.inl rfl));replace HB:=am (hb);replace HI0:=am (hi);(try clear hb);(try clear hb2);(try clear hk);(try clear hi);(try clear ho0);obtain ⟨Ao45,co45,eo45⟩:=Kd.jja HO413.out;subst eo45) |((with_reducible refine jy (f:=47) rfl ?_);refine gL (some 18) Try.func47 #[.pointer (some ⟨g,0,none⟩), .int .i64 (t411.length:Int)] ?_;(with_reducible refine (jA.calls k g s0_0 t414 (t411.length:Int) t415 t416 w0 _ ?side1 ?side2 A5.out).mono ?_);(case side1=>exact Y1);(case side2=>exact Y8);rintro e w46 ⟨rfl,hi,hb,hk⟩;refine ⟨_,rfl,?_⟩;replace BK405:=am (jm.blk hk (g':=gb405) (o:=.cells #[.slice none 0 0] 31 (0,0)) (kq BK405.out) NB405_0.out (by simp));replace HO408:=am (Kd.jD (Kd.jLa (jg.apart (show jg w0 _ g s0_0 t414 from Y1) (rq HO408.out) (by decide)) hk (fun _ h=>h.2)) (fun _ h=>h.1));replace BK410:=am (jm.blk hk (g':=gb410) (o:=.cells #[.slice Ao40 t406.length co40] 31 (0,0)) (kq BK410.out) NB410_0.out (by simp));replace HO413:=am (Kd.jD (Kd.jLa (jg.apart (show jg w0 _ g s0_0 t414 from Y1) (rq HO413.out) (by decide)) hk (fun _ h=>h.2)) (fun _ h=>h.1));replace HK:=am (jm.trans (Y5) hk (.inl rfl));replace HB:=am (hb);replace HI0:=am (hi);(try clear hb);(try clear hb2);(try clear hk);(try clear hi)) |((with_reducible refine jy (f:=47) rfl ?_);refine gL (some 20) Try.func47 #[.pointer (some ⟨g,0,none⟩), .int .i64 24] ?_;(with_reducible refine (jA.calls k g s0_0 t416 24 t417 t418 w0 _ ?side1 ?side2 A6.out).mono ?_);(case side1=>exact Y1);(case side2=>exact Y8);rintro e w47 ⟨rfl,hi,hb,hk⟩;refine ⟨_,rfl,?_⟩;replace BK405:=am (jm.blk hk (g':=gb405) (o:=.cells #[.slice none 0 0] 31 (0,0)) (kq BK405.out) NB405_0.out (by simp));replace HO408:=am (Kd.jD (Kd.jLa (jg.apart (show jg w0 _ g s0_0 t416 from Y1) (rq HO408.out) (by decide)) hk (fun _ h=>h.2)) (fun _ h=>h.1));replace BK410:=am (jm.blk hk (g':=gb410) (o:=.cells #[.slice Ao40 t406.length co40] 31 (0,0)) (kq BK410.out) NB410_0.out (by simp));replace HO413:=am (Kd.jD (Kd.jLa (jg.apart (show jg w0 _ g s0_0 t416 from Y1) (rq HO413.out) (by decide)) hk (fun _ h=>h.2)) (fun _ h=>h.1));replace HK:=am (jm.trans (Y5) hk (.inl rfl));replace HB:=am (hb);replace HI0:=am (hi);(try clear hb);(try clear hb2);(try clear hk);(try clear hi)) |((with_reducible refine jP (N:=35) rfl ?_);refine Kd.R_lit (Kd.int .i64) _ 3 ?hg (N:=35) ?hd (xs:=([(-1),100]:List Int)) (inner:=[.int .i64 (-1), .int .i64 100]) (ok:=fun _=>True) (okp:=fun _=>True) ?hr ?hp (fun _ hk=>hk) trivial (Below.refl _ _) (Nat.le_refl _) (by simp) ?_;(case hd=>rfl);(case hg=>rfl);(case hr=>exact Y2);(case hp=>exact (Reps.one (show Kd.M (Kd.int .i64) _ _ _ (-1) [.int .i64 (-1)] from rfl) (Reps.one (show Kd.M (Kd.int .i64) _ _ _ 100 [.int .i64 100] from rfl) (Reps.none _ _))));intro v426 w48 ho49 hb hg_ hnew_;clear hg_ hnew_;(first | rw [← Ny425.out] at ho49 |(simp only [Int.reduceToNat] at ho49;rw [← Ny425.out] at ho49));have HO427:=am (Kd.jua ho49 (jBa (w:=w) (g:=g) (row:=none) (Y5)));replace HO408:=am (Kd.jM (rq HO408.out) hb);replace HO413:=am (Kd.jM (rq HO413.out) hb);replace BK405:=am (je (g:=gb405) (o:=.cells #[.slice none 0 0] 31 (0,0)) (kq BK405.out) hb);replace BK410:=am (je (g:=gb410) (o:=.cells #[.slice Ao40 t406.length co40] 31 (0,0)) (kq BK410.out) hb);replace HK:=am (jm.trans (Y5) (jm.of_below hb g none) (.inl rfl));replace HB:=am (jk (Y8) hb);replace HI0:=am (jg.below (Y1) hb);clear hb ho49;obtain ⟨Ao50,co50,eo50⟩:=Kd.jja HO427.out;subst eo50) |((with_reducible refine jy (f:=77) rfl ?_);refine gL (some 36) Try.func77 #[.pointer (some ⟨g,0,none⟩), .slice Ao50 y425.length co50] ?_;(with_reducible refine (jG.calls k g s0_0 t418 _ _ y425 t428 t429 w0 _ ?side1 ?side2 ?side3 ?side4 ?side5 A33.out).mono ?_);(case side1=>exact Y1);(case side2=>exact Y8);(case side3=>exact cq (Kd.jE HO427.out).2.2);(case side4=>exact (Kd.jE HO427.out).2.1);(case side5=>exact jQb (jg.own_ne HI0.out HO427.out (by decide)));rintro e w51 ⟨rfl,hi,hb,hk⟩;refine ⟨_,rfl,?_⟩;replace BK405:=am (jm.blk hk (g':=gb405) (o:=.cells #[.slice none 0 0] 31 (0,0)) (kq BK405.out) NB405_0.out (by simp));replace HO408:=am (Kd.jD (Kd.jLa (jg.apart (show jg w0 _ g s0_0 t418 from Y1) (rq HO408.out) (by decide)) hk (fun _ h=>h.2)) (fun _ h=>h.1));replace BK410:=am (jm.blk hk (g':=gb410) (o:=.cells #[.slice Ao40 t406.length co40] 31 (0,0)) (kq BK410.out) NB410_0.out (by simp));replace HO413:=am (Kd.jD (Kd.jLa (jg.apart (show jg w0 _ g s0_0 t418 from Y1) (rq HO413.out) (by decide)) hk (fun _ h=>h.2)) (fun _ h=>h.1));replace HO427:=am (Kd.jD (Kd.jLa (jg.apart (show jg w0 _ g s0_0 t418 from Y1) (rq HO427.out) (by decide)) hk (fun _ h=>h.2)) (fun _ h=>h.1));replace HK:=am (jm.trans (Y5) hk (.inl rfl));replace HB:=am (hb);replace HI0:=am (hi);(try clear hb);(try clear hb2);(try clear hk);(try clear hi);have p36:0≤(t415:Int):=ozD (uq);have q36:(t415:Int)<((t411.length:Int):Int):=ozD (uq);obtain ⟨go36,co36,eo36,gb36,gl36,cl36,HG36⟩:=Kd.R_form HO413.out (by omega);(first | cases eo36 |(injection eo36 with ea_ en_ ec_;(first | subst ea_ |(injection ea_ with ea_;subst ea_));subst ec_;clear en_));have GB36:=am gb36;have GG36:=am HG36;clear gb36 gl36 HG36;obtain ⟨ce36,hcl36,hM36,hcc36,hfr36⟩:=Kd.R_elem HO413.out z44 (t415:Int) p36 q36;obtain rfl:=juc hM36;have hx36_0:w51.cell? ⟨go36,(t415:Int).toNat * 3,none⟩=some (.int .i64 ((jZ t411 t415).f0)):=hcc36 0 _ rfl;have hx36_1:w51.cell? ⟨go36,(t415:Int).toNat * 3+1,none⟩=some (.int .i64 ((jZ t411 t415).f1)):=hcc36 1 _ rfl;have hx36_2:w51.cell? ⟨go36,(t415:Int).toNat * 3+2,none⟩=some (.int .i64 ((jZ t411 t415).f2)):=hcc36 2 _ rfl;have hf36_0:w51.frozen? ⟨go36,(t415:Int).toNat * 3,none⟩=false:=hfr36 0;have hf36_1:w51.frozen? ⟨go36,(t415:Int).toNat * 3+1,none⟩=false:=hfr36 1;have hf36_2:w51.frozen? ⟨go36,(t415:Int).toNat * 3+2,none⟩=false:=hfr36 2;clear hcl36 hcc36 hfr36 hM36;replace p36:=ezT p36;replace q36:=ezT q36;have HX52:=am (show Kd.R k44 44 w51 w.heap.size (fun _=>True) (.slice (some ⟨go36,0,none⟩) t411.length co45) t411 from (rq HO413.out));obtain ⟨ce52,hcl52,hM52,hcc52,hfr52⟩:=Kd.R_elem HX52.out z44 (t415:Int) (ozD (uq)) (by have h_:(t415:Int)<((t411.length:Int):Int):=ozD (uq);first | exact h_ |(have e_:=(Kd.jE HO413.out).1;omega) | simpa using h_);obtain rfl:=juc hM52;have HP52:=Kd.R_seg HX52.out (t415:Int) (ozD (uq)) (by have h_:(t415:Int)<((t411.length:Int):Int):=ozD (uq);first | exact h_ |(have e_:=(Kd.jE HO413.out).1;omega) | simpa using h_) (seg:=[.int .i64 t428]) (j:=1) hcl52 hcc52 (show 2≤3 from by decide) (x':=(⟨(jZ t411 t415).f0,t428,(jZ t411 t415).f2⟩:S44)) (k44_mkM _ _ _ (⟨(jZ t411 t415).f0,t428,(jZ t411 t415).f2⟩:S44) ) (fun _ hk=>hk);have hx52_1:=hcc52 1 _ rfl;(try simp only [show (k44).sz=3 from rfl,Nat.mul_one,Nat.add_zero] at hx52_1);have hf52_1:=hfr52 1;(try simp only [show (k44).sz=3 from rfl,Nat.mul_one,Nat.add_zero] at hf52_1);clear hcl52 hcc52 hfr52 hM52) |((with_reducible refine gate_store (t:=3) (p:=38) rfl ?_);refine jxc (t:=3) (p:=38) (v:=?vo_w53) (w1:=(w51.setCell ⟨go36,(t415:Int).toNat * 3+1,none⟩ (.int .i64 t428))) ?hg ?ho ?hn ?hr ?_;(case ho=>rfl);(case hg=>rfl);(case hn=>rfl);(case hr=>exact Y2);intro w53 hw;have hg:w51.grownBy w53 (some go36):=(by rw [hw];exact HP52.2);have hp_:Kd.R k44 44 w53 w.heap.size (fun _=>True) (.slice (some ⟨go36,0,none⟩) t411.length co45) y430:=(by rw [hw,Ny430.out];exact HP52.1);clear HP52;replace HI0:=am (jg.grown (Y1) hg (jg.own_ne HI0.out HO413.out (by decide)));replace BK405:=am (jla (g:=gb405) (o:=.cells #[.slice none 0 0] 31 (0,0)) (kq BK405.out) hg (Kd.R_ne HO413.out BK405.out (by decide)));replace HO408:=am (Kd.jhb (v:=(.slice (some ⟨go36,0,none⟩) t411.length co45)) (rq HO408.out) (Kd.jfb HO413.out) (by decide) hg);replace BK410:=am (jla (g:=gb410) (o:=.cells #[.slice Ao40 t406.length co40] 31 (0,0)) (kq BK410.out) hg (Kd.R_ne HO413.out BK410.out (by decide)));replace HO427:=am (Kd.jhb (v:=(.slice (some ⟨go36,0,none⟩) t411.length co45)) (rq HO427.out) (Kd.jfb HO413.out) (by decide) hg);replace HB:=am ((by rw [hw];exact jq (HB.out) (Nat.le_trans HL.out GB36.out):Below w0.heap.size w0 w53));replace HK:=am (jm.trans (Y5) (jm.jOb hg g) (Kd.R_base2 HO413.out));replace HO413:=am (hp_);clear hg hw hp_;have hcz54_0:=bc0 BK410.out;have hfz54_0:=jd BK410.out 0;have hnb55:=NB405_0.out;have hnc55:=NB0_405.out;have hcz56_0:=bc0 BK405.out;have hfz56_0:=jd BK405.out 0))
      refine bodyPost_ret (jxb rfl _ _ gb405 31 #[.slice Ao40 t406.length co40] (0,0) _ rfl (Y65) Try.underlying31 rfl (by kernel_rfl)) rfl ?_
      exact ⟨_,_,Y0,by (with_reducible repeat (first | apply Kd.jK | apply Kd.jL | apply Kd.jH));exact Kd.jD (Kd.jB (p:=⟨gb405,0,none⟩) (Kd.jN HO408.out BK405.out (by decide)) (fun _ hk=>hk.2) (.slice Ao40 t406.length co40)) (fun _ hk=>trivial),by (with_reducible repeat (first | apply Kd.jK | apply Kd.jL | apply Kd.jH));exact Kd.jD (Kd.jB (p:=⟨gb405,0,none⟩) (Kd.jN HO413.out BK405.out (by decide)) (fun _ hk=>hk.2) (.slice Ao40 t406.length co40)) (fun _ hk=>trivial),Y1,Y8,Y5⟩
     ·rw [if_neg c35] at H
      exact absurd H (by simp)
    ·rw [if_neg c34] at H
     exact absurd H (by simp)
   ·rw [if_neg c32] at H
    have c32b0:(t417 == 1)=false:=beq_eq_false_iff_ne.mpr c32
    have c32b1:(t417 != 1)=true:=bne_iff_ne.mpr c32
    by_cases c57:t417=2
    ·rw [if_pos c57] at H
     have c57b0:(t417 == 2)=true:=beq_iff_eq.mpr c57
     have c57b1:(t417 != 2)=false:=bne_eq_false_iff_eq.mpr c57
     clear c57
     obtain ⟨y431,hy431⟩:∃ y_:List Int,y_=(([5,100,(-1)]:List Int)):=⟨_,rfl⟩
     replace H:((jG.f k s0_0 t418 y431).bind fun bt434=>(if 0≤t415 then (if t415<(t411.length:Int) then (some (t406,(t411.set (t415:Int).toNat (⟨(jZ t411 t415).f0,(jZ t411 t415).f1,bt434.1⟩:S44)),bt434.2)) else (none)) else (none)))=some (r1,r2,r3):=by first |(rw [hy431];with_reducible exact H) |(have H2_:=(Option.bind_some _ _).symm.trans H;rw [hy431];with_reducible exact H2_) |(have H2_:=(Option.bind_some _ _).symm.trans H;with_reducible exact H2_) | with_reducible exact H |(rw [hy431];exact H) | exact H
     have Ny431:=am hy431
     clear hy431
     replace H:=bzS H
     obtain ⟨⟨t434,t435⟩,A580,H⟩:=H
     replace H:(if 0≤t415 then (if t415<(t411.length:Int) then (some (t406,(t411.set (t415:Int).toNat (⟨(jZ t411 t415).f0,(jZ t411 t415).f1,t434⟩:S44)),t435)) else (none)) else (none))=some (r1,r2,r3):=H
     have A58:=am A580
     clear A580
     by_cases c59:0≤t415
     ·rw [if_pos c59] at H
      have c59b0:decide (0≤t415)=true:=dzT c59
      clear c59
      by_cases c60:t415<(t411.length:Int)
      ·rw [if_pos c60] at H
       have c60b0:decide (t415<(t411.length:Int))=true:=dzT c60
       clear c60
       obtain ⟨y436,hy436⟩:∃ y_:List (S44),y_=(t411.set (t415:Int).toNat (⟨(jZ t411 t415).f0,(jZ t411 t415).f1,t434⟩:S44)):=⟨_,rfl⟩
       replace H:(some (t406,y436,t435))=some (r1,r2,r3):=by first |(rw [hy436];with_reducible exact H) |(have H2_:=(Option.bind_some _ _).symm.trans H;rw [hy436];with_reducible exact H2_) |(have H2_:=(Option.bind_some _ _).symm.trans H;with_reducible exact H2_) | with_reducible exact H |(rw [hy436];exact H) | exact H
       have Ny436:=am hy436
       clear hy436
       simp only [Option.some.injEq,Prod.mk.injEq] at H
       obtain ⟨rfl,rfl,rfl⟩:=H
       go_enter Try.func46,Try.ntmps46
       go_wp2_with (first |((with_reducible refine jP (N:=2) rfl ?_);refine bE (N:=2) (cs:=#[.slice none 0 0]) (t:=31) ?_;intro gb405 hg w62 hbox hb;have BK405:=am (hbox);have GW405:=am ((Y7:w.heap.size≤gb405));have GE405:=am ((Nat.le_trans HW0.out (Y7:w.heap.size≤gb405):w0.heap.size≤gb405));have NB0_405:=am ((Y24:g≠gb405));have NB405_0:=am ((Y25:gb405≠g));replace HK:=am (jm.trans (Y11) (jm.of_below hb g none) (.inl rfl));replace HB:=am (jk (Y12) hb);replace HI0:=am (jg.below (Y10) hb);clear hb hbox hg) |((with_reducible refine jy (f:=76) rfl ?_);refine gL (some 8) Try.func76 #[.pointer (some ⟨g,0,none⟩)] ?_;(with_reducible refine (joa.calls k g s0_0 s0_1 t406 t409 w0 _ ?side1 ?side2 A2.out).mono ?_);(case side1=>exact Y36);(case side2=>exact Y37);rintro e w63 ⟨v407,rfl,ho0,hi,hb,hk⟩;refine ⟨_,rfl,?_⟩;have HO408:=am (Kd.jua ho0 (jBa (w:=w) (g:=g) (row:=none) (Y20)));replace BK405:=am (jm.blk hk (g':=gb405) (o:=.cells #[.slice none 0 0] 31 (0,0)) (kq BK405.out) NB405_0.out (by simp));replace HK:=am (jm.trans (Y20) hk (.inl rfl));replace HB:=am (hb);replace HI0:=am (hi);(try clear hb);(try clear hb2);(try clear hk);(try clear hi);(try clear ho0)) |((with_reducible refine jP (N:=4) rfl ?_);refine bE (N:=4) (cs:=#[.slice none 0 0]) (t:=31) ?_;intro gb410 hg w64 hbox hb;have BK410:=am (hbox);have GW410:=am ((Y38:w.heap.size≤gb410));have GE410:=am ((Nat.le_trans HW0.out (Y38:w.heap.size≤gb410):w0.heap.size≤gb410));have NB405_410:=am ((Y59:gb405≠gb410));have NB410_405:=am ((Y60:gb410≠gb405));have NB0_410:=am ((Y61:g≠gb410));have NB410_0:=am ((Y62:gb410≠g));replace HO408:=am (Kd.jM (rq HO408.out) hb);replace BK405:=am (je (g:=gb405) (o:=.cells #[.slice none 0 0] 31 (0,0)) (kq BK405.out) hb);replace HK:=am (jm.trans (Y20) (jm.of_below hb g none) (.inl rfl));replace HB:=am (jk (Y37) hb);replace HI0:=am (jg.below (Y36) hb);clear hb hbox hg;obtain ⟨Ao65,co65,eo65⟩:=Kd.jja HO408.out;subst eo65;have hnb66:=NB410_405.out;have hnc66:=NB405_410.out;have hnb67:=NB410_0.out;have hnc67:=NB0_410.out;have hcz68_0:=bc0 BK410.out;have hfz68_0:=jd BK410.out 0) |((with_reducible refine jy (f:=64) rfl ?_);refine gL (some 11) Try.func64 #[.pointer (some ⟨g,0,none⟩), .agg #[.slice Ao65 t406.length co65]] ?_;(with_reducible refine (jca.calls k g s0_0 t409 _ _ t406 t411 t414 w0 _ ?side1 ?side2 ?side3 ?side4 A3.out).mono ?_);(case side1=>exact Y1);(case side2=>exact Y8);(case side3=>exact Kd.jdc (jg.apart (show jg w0 _ g s0_0 t409 from Y1) (Y120) (by decide)) (fun _ h_=>h_.2));(case side4=>exact (Kd.jE HO408.out).2.1);rintro e w69 ⟨v412,rfl,ho0,hi,hb,hk⟩;refine ⟨_,rfl,?_⟩;have HO413:=am (Kd.jua ho0 (jBa (w:=w) (g:=g) (row:=none) (Y5)));replace BK405:=am (jm.blk hk (g':=gb405) (o:=.cells #[.slice none 0 0] 31 (0,0)) (Y63) NB405_0.out (by simp));replace HO408:=am (Kd.jD (Kd.jLa (jg.apart (show jg w0 _ g s0_0 t409 from Y1) (Y120) (by decide)) hk (fun _ h=>h.2)) (fun _ h=>h.1));replace BK410:=am (jm.blk hk (g':=gb410) (o:=.cells #[.slice Ao65 t406.length co65] 31 (0,0)) (Y64) NB410_0.out (by simp));replace HK:=am (jm.trans (Y5) hk (.inl rfl));replace HB:=am (hb);replace HI0:=am (hi);(try clear hb);(try clear hb2);(try clear hk);(try clear hi);(try clear ho0);obtain ⟨Ao70,co70,eo70⟩:=Kd.jja HO413.out;subst eo70) |((with_reducible refine jy (f:=47) rfl ?_);refine gL (some 18) Try.func47 #[.pointer (some ⟨g,0,none⟩), .int .i64 (t411.length:Int)] ?_;(with_reducible refine (jA.calls k g s0_0 t414 (t411.length:Int) t415 t416 w0 _ ?side1 ?side2 A5.out).mono ?_);(case side1=>exact Y1);(case side2=>exact Y8);rintro e w71 ⟨rfl,hi,hb,hk⟩;refine ⟨_,rfl,?_⟩;replace BK405:=am (jm.blk hk (g':=gb405) (o:=.cells #[.slice none 0 0] 31 (0,0)) (kq BK405.out) NB405_0.out (by simp));replace HO408:=am (Kd.jD (Kd.jLa (jg.apart (show jg w0 _ g s0_0 t414 from Y1) (rq HO408.out) (by decide)) hk (fun _ h=>h.2)) (fun _ h=>h.1));replace BK410:=am (jm.blk hk (g':=gb410) (o:=.cells #[.slice Ao65 t406.length co65] 31 (0,0)) (kq BK410.out) NB410_0.out (by simp));replace HO413:=am (Kd.jD (Kd.jLa (jg.apart (show jg w0 _ g s0_0 t414 from Y1) (rq HO413.out) (by decide)) hk (fun _ h=>h.2)) (fun _ h=>h.1));replace HK:=am (jm.trans (Y5) hk (.inl rfl));replace HB:=am (hb);replace HI0:=am (hi);(try clear hb);(try clear hb2);(try clear hk);(try clear hi)) |((with_reducible refine jy (f:=47) rfl ?_);refine gL (some 20) Try.func47 #[.pointer (some ⟨g,0,none⟩), .int .i64 24] ?_;(with_reducible refine (jA.calls k g s0_0 t416 24 t417 t418 w0 _ ?side1 ?side2 A6.out).mono ?_);(case side1=>exact Y1);(case side2=>exact Y8);rintro e w72 ⟨rfl,hi,hb,hk⟩;refine ⟨_,rfl,?_⟩;replace BK405:=am (jm.blk hk (g':=gb405) (o:=.cells #[.slice none 0 0] 31 (0,0)) (kq BK405.out) NB405_0.out (by simp));replace HO408:=am (Kd.jD (Kd.jLa (jg.apart (show jg w0 _ g s0_0 t416 from Y1) (rq HO408.out) (by decide)) hk (fun _ h=>h.2)) (fun _ h=>h.1));replace BK410:=am (jm.blk hk (g':=gb410) (o:=.cells #[.slice Ao65 t406.length co65] 31 (0,0)) (kq BK410.out) NB410_0.out (by simp));replace HO413:=am (Kd.jD (Kd.jLa (jg.apart (show jg w0 _ g s0_0 t416 from Y1) (rq HO413.out) (by decide)) hk (fun _ h=>h.2)) (fun _ h=>h.1));replace HK:=am (jm.trans (Y5) hk (.inl rfl));replace HB:=am (hb);replace HI0:=am (hi);(try clear hb);(try clear hb2);(try clear hk);(try clear hi)) |((with_reducible refine jP (N:=44) rfl ?_);refine Kd.R_lit (Kd.int .i64) _ 3 ?hg (N:=44) ?hd (xs:=([5,100,(-1)]:List Int)) (inner:=[.int .i64 5, .int .i64 100, .int .i64 (-1)]) (ok:=fun _=>True) (okp:=fun _=>True) ?hr ?hp (fun _ hk=>hk) trivial (Below.refl _ _) (Nat.le_refl _) (by simp) ?_;(case hd=>rfl);(case hg=>rfl);(case hr=>exact Y2);(case hp=>exact (Reps.one (show Kd.M (Kd.int .i64) _ _ _ 5 [.int .i64 5] from rfl) (Reps.one (show Kd.M (Kd.int .i64) _ _ _ 100 [.int .i64 100] from rfl) (Reps.one (show Kd.M (Kd.int .i64) _ _ _ (-1) [.int .i64 (-1)] from rfl) (Reps.none _ _)))));intro v432 w73 ho74 hb hg_ hnew_;clear hg_ hnew_;(first | rw [← Ny431.out] at ho74 |(simp only [Int.reduceToNat] at ho74;rw [← Ny431.out] at ho74));have HO433:=am (Kd.jua ho74 (jBa (w:=w) (g:=g) (row:=none) (Y5)));replace HO408:=am (Kd.jM (rq HO408.out) hb);replace HO413:=am (Kd.jM (rq HO413.out) hb);replace BK405:=am (je (g:=gb405) (o:=.cells #[.slice none 0 0] 31 (0,0)) (kq BK405.out) hb);replace BK410:=am (je (g:=gb410) (o:=.cells #[.slice Ao65 t406.length co65] 31 (0,0)) (kq BK410.out) hb);replace HK:=am (jm.trans (Y5) (jm.of_below hb g none) (.inl rfl));replace HB:=am (jk (Y8) hb);replace HI0:=am (jg.below (Y1) hb);clear hb ho74;obtain ⟨Ao75,co75,eo75⟩:=Kd.jja HO433.out;subst eo75) |((with_reducible refine jy (f:=77) rfl ?_);refine gL (some 45) Try.func77 #[.pointer (some ⟨g,0,none⟩), .slice Ao75 y431.length co75] ?_;(with_reducible refine (jG.calls k g s0_0 t418 _ _ y431 t434 t435 w0 _ ?side1 ?side2 ?side3 ?side4 ?side5 A58.out).mono ?_);(case side1=>exact Y1);(case side2=>exact Y8);(case side3=>exact cq (Kd.jE HO433.out).2.2);(case side4=>exact (Kd.jE HO433.out).2.1);(case side5=>exact jQb (jg.own_ne HI0.out HO433.out (by decide)));rintro e w76 ⟨rfl,hi,hb,hk⟩;refine ⟨_,rfl,?_⟩;replace BK405:=am (jm.blk hk (g':=gb405) (o:=.cells #[.slice none 0 0] 31 (0,0)) (kq BK405.out) NB405_0.out (by simp));replace HO408:=am (Kd.jD (Kd.jLa (jg.apart (show jg w0 _ g s0_0 t418 from Y1) (rq HO408.out) (by decide)) hk (fun _ h=>h.2)) (fun _ h=>h.1));replace BK410:=am (jm.blk hk (g':=gb410) (o:=.cells #[.slice Ao65 t406.length co65] 31 (0,0)) (kq BK410.out) NB410_0.out (by simp));replace HO413:=am (Kd.jD (Kd.jLa (jg.apart (show jg w0 _ g s0_0 t418 from Y1) (rq HO413.out) (by decide)) hk (fun _ h=>h.2)) (fun _ h=>h.1));replace HO433:=am (Kd.jD (Kd.jLa (jg.apart (show jg w0 _ g s0_0 t418 from Y1) (rq HO433.out) (by decide)) hk (fun _ h=>h.2)) (fun _ h=>h.1));replace HK:=am (jm.trans (Y5) hk (.inl rfl));replace HB:=am (hb);replace HI0:=am (hi);(try clear hb);(try clear hb2);(try clear hk);(try clear hi);have p61:0≤(t415:Int):=ozD (uq);have q61:(t415:Int)<((t411.length:Int):Int):=ozD (uq);obtain ⟨go61,co61,eo61,gb61,gl61,cl61,HG61⟩:=Kd.R_form HO413.out (by omega);(first | cases eo61 |(injection eo61 with ea_ en_ ec_;(first | subst ea_ |(injection ea_ with ea_;subst ea_));subst ec_;clear en_));have GB61:=am gb61;have GG61:=am HG61;clear gb61 gl61 HG61;obtain ⟨ce61,hcl61,hM61,hcc61,hfr61⟩:=Kd.R_elem HO413.out z44 (t415:Int) p61 q61;obtain rfl:=juc hM61;have hx61_0:w76.cell? ⟨go61,(t415:Int).toNat * 3,none⟩=some (.int .i64 ((jZ t411 t415).f0)):=hcc61 0 _ rfl;have hx61_1:w76.cell? ⟨go61,(t415:Int).toNat * 3+1,none⟩=some (.int .i64 ((jZ t411 t415).f1)):=hcc61 1 _ rfl;have hx61_2:w76.cell? ⟨go61,(t415:Int).toNat * 3+2,none⟩=some (.int .i64 ((jZ t411 t415).f2)):=hcc61 2 _ rfl;have hf61_0:w76.frozen? ⟨go61,(t415:Int).toNat * 3,none⟩=false:=hfr61 0;have hf61_1:w76.frozen? ⟨go61,(t415:Int).toNat * 3+1,none⟩=false:=hfr61 1;have hf61_2:w76.frozen? ⟨go61,(t415:Int).toNat * 3+2,none⟩=false:=hfr61 2;clear hcl61 hcc61 hfr61 hM61;replace p61:=ezT p61;replace q61:=ezT q61;have HX77:=am (show Kd.R k44 44 w76 w.heap.size (fun _=>True) (.slice (some ⟨go61,0,none⟩) t411.length co70) t411 from (rq HO413.out));obtain ⟨ce77,hcl77,hM77,hcc77,hfr77⟩:=Kd.R_elem HX77.out z44 (t415:Int) (ozD (uq)) (by have h_:(t415:Int)<((t411.length:Int):Int):=ozD (uq);first | exact h_ |(have e_:=(Kd.jE HO413.out).1;omega) | simpa using h_);obtain rfl:=juc hM77;have HP77:=Kd.R_seg HX77.out (t415:Int) (ozD (uq)) (by have h_:(t415:Int)<((t411.length:Int):Int):=ozD (uq);first | exact h_ |(have e_:=(Kd.jE HO413.out).1;omega) | simpa using h_) (seg:=[.int .i64 t434]) (j:=2) hcl77 hcc77 (show 3≤3 from by decide) (x':=(⟨(jZ t411 t415).f0,(jZ t411 t415).f1,t434⟩:S44)) (k44_mkM _ _ _ (⟨(jZ t411 t415).f0,(jZ t411 t415).f1,t434⟩:S44) ) (fun _ hk=>hk);have hx77_2:=hcc77 2 _ rfl;(try simp only [show (k44).sz=3 from rfl,Nat.mul_one,Nat.add_zero] at hx77_2);have hf77_2:=hfr77 2;(try simp only [show (k44).sz=3 from rfl,Nat.mul_one,Nat.add_zero] at hf77_2);clear hcl77 hcc77 hfr77 hM77) |((with_reducible refine gate_store (t:=3) (p:=47) rfl ?_);refine jxc (t:=3) (p:=47) (v:=?vo_w78) (w1:=(w76.setCell ⟨go61,(t415:Int).toNat * 3+2,none⟩ (.int .i64 t434))) ?hg ?ho ?hn ?hr ?_;(case ho=>rfl);(case hg=>rfl);(case hn=>rfl);(case hr=>exact Y2);intro w78 hw;have hg:w76.grownBy w78 (some go61):=(by rw [hw];exact HP77.2);have hp_:Kd.R k44 44 w78 w.heap.size (fun _=>True) (.slice (some ⟨go61,0,none⟩) t411.length co70) y436:=(by rw [hw,Ny436.out];exact HP77.1);clear HP77;replace HI0:=am (jg.grown (Y1) hg (jg.own_ne HI0.out HO413.out (by decide)));replace BK405:=am (jla (g:=gb405) (o:=.cells #[.slice none 0 0] 31 (0,0)) (kq BK405.out) hg (Kd.R_ne HO413.out BK405.out (by decide)));replace HO408:=am (Kd.jhb (v:=(.slice (some ⟨go61,0,none⟩) t411.length co70)) (rq HO408.out) (Kd.jfb HO413.out) (by decide) hg);replace BK410:=am (jla (g:=gb410) (o:=.cells #[.slice Ao65 t406.length co65] 31 (0,0)) (kq BK410.out) hg (Kd.R_ne HO413.out BK410.out (by decide)));replace HO433:=am (Kd.jhb (v:=(.slice (some ⟨go61,0,none⟩) t411.length co70)) (rq HO433.out) (Kd.jfb HO413.out) (by decide) hg);replace HB:=am ((by rw [hw];exact jq (HB.out) (Nat.le_trans HL.out GB61.out):Below w0.heap.size w0 w78));replace HK:=am (jm.trans (Y5) (jm.jOb hg g) (Kd.R_base2 HO413.out));replace HO413:=am (hp_);clear hg hw hp_;have hcz79_0:=bc0 BK410.out;have hfz79_0:=jd BK410.out 0;have hnb80:=NB405_0.out;have hnc80:=NB0_405.out;have hcz81_0:=bc0 BK405.out;have hfz81_0:=jd BK405.out 0))
       refine bodyPost_ret (jxb rfl _ _ gb405 31 #[.slice Ao65 t406.length co65] (0,0) _ rfl (Y65) Try.underlying31 rfl (by kernel_rfl)) rfl ?_
       exact ⟨_,_,Y0,by (with_reducible repeat (first | apply Kd.jK | apply Kd.jL | apply Kd.jH));exact Kd.jD (Kd.jB (p:=⟨gb405,0,none⟩) (Kd.jN HO408.out BK405.out (by decide)) (fun _ hk=>hk.2) (.slice Ao65 t406.length co65)) (fun _ hk=>trivial),by (with_reducible repeat (first | apply Kd.jK | apply Kd.jL | apply Kd.jH));exact Kd.jD (Kd.jB (p:=⟨gb405,0,none⟩) (Kd.jN HO413.out BK405.out (by decide)) (fun _ hk=>hk.2) (.slice Ao65 t406.length co65)) (fun _ hk=>trivial),Y1,Y8,Y5⟩
      ·rw [if_neg c60] at H
       exact absurd H (by simp)
     ·rw [if_neg c59] at H
      exact absurd H (by simp)
    ·rw [if_neg c57] at H
     have c57b0:(t417 == 2)=false:=beq_eq_false_iff_ne.mpr c57
     have c57b1:(t417 != 2)=true:=bne_iff_ne.mpr c57
     simp only [Option.some.injEq,Prod.mk.injEq] at H
     obtain ⟨rfl,rfl,rfl⟩:=H
     go_enter Try.func46,Try.ntmps46
     go_wp2_with (first |((with_reducible refine jP (N:=2) rfl ?_);refine bE (N:=2) (cs:=#[.slice none 0 0]) (t:=31) ?_;intro gb405 hg w82 hbox hb;have BK405:=am (hbox);have GW405:=am ((Y7:w.heap.size≤gb405));have GE405:=am ((Nat.le_trans HW0.out (Y7:w.heap.size≤gb405):w0.heap.size≤gb405));have NB0_405:=am ((Y24:g≠gb405));have NB405_0:=am ((Y25:gb405≠g));replace HK:=am (jm.trans (Y11) (jm.of_below hb g none) (.inl rfl));replace HB:=am (jk (Y12) hb);replace HI0:=am (jg.below (Y10) hb);clear hb hbox hg) |((with_reducible refine jy (f:=76) rfl ?_);refine gL (some 8) Try.func76 #[.pointer (some ⟨g,0,none⟩)] ?_;(with_reducible refine (joa.calls k g s0_0 s0_1 t406 t409 w0 _ ?side1 ?side2 A2.out).mono ?_);(case side1=>exact Y36);(case side2=>exact Y37);rintro e w83 ⟨v407,rfl,ho0,hi,hb,hk⟩;refine ⟨_,rfl,?_⟩;have HO408:=am (Kd.jua ho0 (jBa (w:=w) (g:=g) (row:=none) (Y20)));replace BK405:=am (jm.blk hk (g':=gb405) (o:=.cells #[.slice none 0 0] 31 (0,0)) (kq BK405.out) NB405_0.out (by simp));replace HK:=am (jm.trans (Y20) hk (.inl rfl));replace HB:=am (hb);replace HI0:=am (hi);(try clear hb);(try clear hb2);(try clear hk);(try clear hi);(try clear ho0)) |((with_reducible refine jP (N:=4) rfl ?_);refine bE (N:=4) (cs:=#[.slice none 0 0]) (t:=31) ?_;intro gb410 hg w84 hbox hb;have BK410:=am (hbox);have GW410:=am ((Y38:w.heap.size≤gb410));have GE410:=am ((Nat.le_trans HW0.out (Y38:w.heap.size≤gb410):w0.heap.size≤gb410));have NB405_410:=am ((Y59:gb405≠gb410));have NB410_405:=am ((Y60:gb410≠gb405));have NB0_410:=am ((Y61:g≠gb410));have NB410_0:=am ((Y62:gb410≠g));replace HO408:=am (Kd.jM (rq HO408.out) hb);replace BK405:=am (je (g:=gb405) (o:=.cells #[.slice none 0 0] 31 (0,0)) (kq BK405.out) hb);replace HK:=am (jm.trans (Y20) (jm.of_below hb g none) (.inl rfl));replace HB:=am (jk (Y37) hb);replace HI0:=am (jg.below (Y36) hb);clear hb hbox hg;obtain ⟨Ao85,co85,eo85⟩:=Kd.jja HO408.out;subst eo85;have hnb86:=NB410_405.out;have hnc86:=NB405_410.out;have hnb87:=NB410_0.out;have hnc87:=NB0_410.out;have hcz88_0:=bc0 BK410.out;have hfz88_0:=jd BK410.out 0) |((with_reducible refine jy (f:=64) rfl ?_);refine gL (some 11) Try.func64 #[.pointer (some ⟨g,0,none⟩), .agg #[.slice Ao85 t406.length co85]] ?_;(with_reducible refine (jca.calls k g s0_0 t409 _ _ t406 t411 t414 w0 _ ?side1 ?side2 ?side3 ?side4 A3.out).mono ?_);(case side1=>exact Y1);(case side2=>exact Y8);(case side3=>exact Kd.jdc (jg.apart (show jg w0 _ g s0_0 t409 from Y1) (Y121) (by decide)) (fun _ h_=>h_.2));(case side4=>exact (Kd.jE HO408.out).2.1);rintro e w89 ⟨v412,rfl,ho0,hi,hb,hk⟩;refine ⟨_,rfl,?_⟩;have HO413:=am (Kd.jua ho0 (jBa (w:=w) (g:=g) (row:=none) (Y5)));replace BK405:=am (jm.blk hk (g':=gb405) (o:=.cells #[.slice none 0 0] 31 (0,0)) (Y63) NB405_0.out (by simp));replace HO408:=am (Kd.jD (Kd.jLa (jg.apart (show jg w0 _ g s0_0 t409 from Y1) (Y121) (by decide)) hk (fun _ h=>h.2)) (fun _ h=>h.1));replace BK410:=am (jm.blk hk (g':=gb410) (o:=.cells #[.slice Ao85 t406.length co85] 31 (0,0)) (Y64) NB410_0.out (by simp));replace HK:=am (jm.trans (Y5) hk (.inl rfl));replace HB:=am (hb);replace HI0:=am (hi);(try clear hb);(try clear hb2);(try clear hk);(try clear hi);(try clear ho0);obtain ⟨Ao90,co90,eo90⟩:=Kd.jja HO413.out;subst eo90) |((with_reducible refine jy (f:=47) rfl ?_);refine gL (some 18) Try.func47 #[.pointer (some ⟨g,0,none⟩), .int .i64 (t411.length:Int)] ?_;(with_reducible refine (jA.calls k g s0_0 t414 (t411.length:Int) t415 t416 w0 _ ?side1 ?side2 A5.out).mono ?_);(case side1=>exact Y1);(case side2=>exact Y8);rintro e w91 ⟨rfl,hi,hb,hk⟩;refine ⟨_,rfl,?_⟩;replace BK405:=am (jm.blk hk (g':=gb405) (o:=.cells #[.slice none 0 0] 31 (0,0)) (kq BK405.out) NB405_0.out (by simp));replace HO408:=am (Kd.jD (Kd.jLa (jg.apart (show jg w0 _ g s0_0 t414 from Y1) (rq HO408.out) (by decide)) hk (fun _ h=>h.2)) (fun _ h=>h.1));replace BK410:=am (jm.blk hk (g':=gb410) (o:=.cells #[.slice Ao85 t406.length co85] 31 (0,0)) (kq BK410.out) NB410_0.out (by simp));replace HO413:=am (Kd.jD (Kd.jLa (jg.apart (show jg w0 _ g s0_0 t414 from Y1) (rq HO413.out) (by decide)) hk (fun _ h=>h.2)) (fun _ h=>h.1));replace HK:=am (jm.trans (Y5) hk (.inl rfl));replace HB:=am (hb);replace HI0:=am (hi);(try clear hb);(try clear hb2);(try clear hk);(try clear hi)) |((with_reducible refine jy (f:=47) rfl ?_);refine gL (some 20) Try.func47 #[.pointer (some ⟨g,0,none⟩), .int .i64 24] ?_;(with_reducible refine (jA.calls k g s0_0 t416 24 t417 t418 w0 _ ?side1 ?side2 A6.out).mono ?_);(case side1=>exact Y1);(case side2=>exact Y8);rintro e w92 ⟨rfl,hi,hb,hk⟩;refine ⟨_,rfl,?_⟩;replace BK405:=am (jm.blk hk (g':=gb405) (o:=.cells #[.slice none 0 0] 31 (0,0)) (kq BK405.out) NB405_0.out (by simp));replace HO408:=am (Kd.jD (Kd.jLa (jg.apart (show jg w0 _ g s0_0 t416 from Y1) (rq HO408.out) (by decide)) hk (fun _ h=>h.2)) (fun _ h=>h.1));replace BK410:=am (jm.blk hk (g':=gb410) (o:=.cells #[.slice Ao85 t406.length co85] 31 (0,0)) (kq BK410.out) NB410_0.out (by simp));replace HO413:=am (Kd.jD (Kd.jLa (jg.apart (show jg w0 _ g s0_0 t416 from Y1) (rq HO413.out) (by decide)) hk (fun _ h=>h.2)) (fun _ h=>h.1));replace HK:=am (jm.trans (Y5) hk (.inl rfl));replace HB:=am (hb);replace HI0:=am (hi);(try clear hb);(try clear hb2);(try clear hk);(try clear hi);have hcz93_0:=bc0 BK410.out;have hfz93_0:=jd BK410.out 0;have hnb94:=NB405_0.out;have hnc94:=NB0_405.out;have hcz95_0:=bc0 BK405.out;have hfz95_0:=jd BK405.out 0))
     refine bodyPost_ret (jxb rfl _ _ gb405 31 #[.slice Ao85 t406.length co85] (0,0) _ rfl (Y65) Try.underlying31 rfl (by kernel_rfl)) rfl ?_
     exact ⟨_,_,Y0,by (with_reducible repeat (first | apply Kd.jK | apply Kd.jL | apply Kd.jH));exact Kd.jD (Kd.jB (p:=⟨gb405,0,none⟩) (Kd.jN HO408.out BK405.out (by decide)) (fun _ hk=>hk.2) (.slice Ao85 t406.length co85)) (fun _ hk=>trivial),by (with_reducible repeat (first | apply Kd.jK | apply Kd.jL | apply Kd.jH));exact Kd.jD (Kd.jB (p:=⟨gb405,0,none⟩) (Kd.jN HO413.out BK405.out (by decide)) (fun _ hk=>hk.2) (.slice Ao85 t406.length co85)) (fun _ hk=>trivial),Y1,Y8,Y5⟩
 ·rw [if_neg c4] at H
  have c4b0:decide (0<(t411.length:Int))=false:=dzF c4
  have c4b1:decide (0<t411.length)=false:=dzF (by omega)
  clear c4
  simp only [Option.some.injEq,Prod.mk.injEq] at H
  obtain ⟨rfl,rfl,rfl⟩:=H
  go_enter Try.func46,Try.ntmps46
  go_wp2_with (first |((with_reducible refine jP (N:=2) rfl ?_);refine bE (N:=2) (cs:=#[.slice none 0 0]) (t:=31) ?_;intro gb405 hg w96 hbox hb;have BK405:=am (hbox);have GW405:=am ((Y7:w.heap.size≤gb405));have GE405:=am ((Nat.le_trans HW0.out (Y7:w.heap.size≤gb405):w0.heap.size≤gb405));have NB0_405:=am ((Y24:g≠gb405));have NB405_0:=am ((Y25:gb405≠g));replace HK:=am (jm.trans (Y11) (jm.of_below hb g none) (.inl rfl));replace HB:=am (jk (Y12) hb);replace HI0:=am (jg.below (Y10) hb);clear hb hbox hg) |((with_reducible refine jy (f:=76) rfl ?_);refine gL (some 8) Try.func76 #[.pointer (some ⟨g,0,none⟩)] ?_;(with_reducible refine (joa.calls k g s0_0 s0_1 t406 t409 w0 _ ?side1 ?side2 A2.out).mono ?_);(case side1=>exact Y36);(case side2=>exact Y37);rintro e w97 ⟨v407,rfl,ho0,hi,hb,hk⟩;refine ⟨_,rfl,?_⟩;have HO408:=am (Kd.jua ho0 (jBa (w:=w) (g:=g) (row:=none) (Y20)));replace BK405:=am (jm.blk hk (g':=gb405) (o:=.cells #[.slice none 0 0] 31 (0,0)) (kq BK405.out) NB405_0.out (by simp));replace HK:=am (jm.trans (Y20) hk (.inl rfl));replace HB:=am (hb);replace HI0:=am (hi);(try clear hb);(try clear hb2);(try clear hk);(try clear hi);(try clear ho0)) |((with_reducible refine jP (N:=4) rfl ?_);refine bE (N:=4) (cs:=#[.slice none 0 0]) (t:=31) ?_;intro gb410 hg w98 hbox hb;have BK410:=am (hbox);have GW410:=am ((Y38:w.heap.size≤gb410));have GE410:=am ((Nat.le_trans HW0.out (Y38:w.heap.size≤gb410):w0.heap.size≤gb410));have NB405_410:=am ((Y59:gb405≠gb410));have NB410_405:=am ((Y60:gb410≠gb405));have NB0_410:=am ((Y61:g≠gb410));have NB410_0:=am ((Y62:gb410≠g));replace HO408:=am (Kd.jM (rq HO408.out) hb);replace BK405:=am (je (g:=gb405) (o:=.cells #[.slice none 0 0] 31 (0,0)) (kq BK405.out) hb);replace HK:=am (jm.trans (Y20) (jm.of_below hb g none) (.inl rfl));replace HB:=am (jk (Y37) hb);replace HI0:=am (jg.below (Y36) hb);clear hb hbox hg;obtain ⟨Ao99,co99,eo99⟩:=Kd.jja HO408.out;subst eo99;have hnb100:=NB410_405.out;have hnc100:=NB405_410.out;have hnb101:=NB410_0.out;have hnc101:=NB0_410.out;have hcz102_0:=bc0 BK410.out;have hfz102_0:=jd BK410.out 0) |((with_reducible refine jy (f:=64) rfl ?_);refine gL (some 11) Try.func64 #[.pointer (some ⟨g,0,none⟩), .agg #[.slice Ao99 t406.length co99]] ?_;(with_reducible refine (jca.calls k g s0_0 t409 _ _ t406 t411 t414 w0 _ ?side1 ?side2 ?side3 ?side4 A3.out).mono ?_);(case side1=>exact Y1);(case side2=>exact Y8);(case side3=>exact Kd.jdc (jg.apart (show jg w0 _ g s0_0 t409 from Y1) (Y122) (by decide)) (fun _ h_=>h_.2));(case side4=>exact (Kd.jE HO408.out).2.1);rintro e w103 ⟨v412,rfl,ho0,hi,hb,hk⟩;refine ⟨_,rfl,?_⟩;have HO413:=am (Kd.jua ho0 (jBa (w:=w) (g:=g) (row:=none) (Y5)));replace BK405:=am (jm.blk hk (g':=gb405) (o:=.cells #[.slice none 0 0] 31 (0,0)) (Y63) NB405_0.out (by simp));replace HO408:=am (Kd.jD (Kd.jLa (jg.apart (show jg w0 _ g s0_0 t409 from Y1) (Y122) (by decide)) hk (fun _ h=>h.2)) (fun _ h=>h.1));replace BK410:=am (jm.blk hk (g':=gb410) (o:=.cells #[.slice Ao99 t406.length co99] 31 (0,0)) (Y64) NB410_0.out (by simp));replace HK:=am (jm.trans (Y5) hk (.inl rfl));replace HB:=am (hb);replace HI0:=am (hi);(try clear hb);(try clear hb2);(try clear hk);(try clear hi);(try clear ho0);obtain ⟨Ao104,co104,eo104⟩:=Kd.jja HO413.out;subst eo104;have hcz105_0:=bc0 BK410.out;have hfz105_0:=jd BK410.out 0;have hnb106:=NB405_0.out;have hnc106:=NB0_405.out;have hcz107_0:=bc0 BK405.out;have hfz107_0:=jd BK405.out 0))
  refine bodyPost_ret (jxb rfl _ _ gb405 31 #[.slice Ao99 t406.length co99] (0,0) _ rfl (Y65) Try.underlying31 rfl (by kernel_rfl)) rfl ?_
  exact ⟨_,_,Y0,by (with_reducible repeat (first | apply Kd.jK | apply Kd.jL | apply Kd.jH));exact Kd.jD (Kd.jB (p:=⟨gb405,0,none⟩) (Kd.jN HO408.out BK405.out (by decide)) (fun _ hk=>hk.2) (.slice Ao99 t406.length co99)) (fun _ hk=>trivial),by (with_reducible repeat (first | apply Kd.jK | apply Kd.jL | apply Kd.jH));exact Kd.jD (Kd.jB (p:=⟨gb405,0,none⟩) (Kd.jN HO413.out BK405.out (by decide)) (fun _ hk=>hk.2) (.slice Ao99 t406.length co99)) (fun _ hk=>trivial),Y1,Y8,Y5⟩
def jMb.f (l0 : List (S44)) : Option ((List (S44))) := some (l0)
set_option maxHeartbeats 8000000 in
set_option maxRecDepth 100000 in
theorem jMb.calls (P0_ : Nat → Prop) (u9000_ : Value) (l0 : List (S44)) (r : List (S44)) (w0 w : World) (hB : Below w0.heap.size w0 w) (ho0 : Kd.R k44 44 w w0.heap.size P0_ u9000_ l0) (h : jMb.f l0 = some r) :
  Calls Try.prog 84 #[u9000_] w fun e w'=>∃ v0_:Value,e=.returned (v0_)∧Kd.R k44 44 w' w0.heap.size (fun k_=>(P0_ k_∨w.heap.size≤k_)) v0_ r∧Below w0.heap.size w0 w'∧Kept w w' (fun k_=>P0_ k_):=by
 have HO0:=am (show Kd.R k44 44 w w0.heap.size (fun k_=>(P0_ k_∨w.heap.size≤k_)) u9000_ l0 from Kd.jD ho0 (fun k_ hk=>(.inl hk)))
 have HK:=am (Kept.refl w (fun k_=>P0_ k_))
 have HW0:=am hB.size
 have HB:=am hB
 clear hB
 have H:(some (l0))=some r:=h
 clear h
 obtain ⟨y461,hy461⟩:∃ y_:List (S44),y_=(l0):=⟨_,rfl⟩
 replace H:(some y461)=some r:=by first |(rw [hy461];with_reducible exact H) |(have H2_:=(Option.bind_some _ _).symm.trans H;rw [hy461];with_reducible exact H2_) |(have H2_:=(Option.bind_some _ _).symm.trans H;with_reducible exact H2_) | with_reducible exact H |(rw [hy461];exact H) | exact H
 have Ny461:=am hy461
 clear hy461
 obtain rfl:=Option.some.inj H
 obtain ⟨Ao2,co2,eo2⟩:=Kd.jja HO0.out
 subst eo2
 obtain ⟨i03,hi03,_,hsz3,_⟩:=info_parts info44
 have hy3:y461.length=l0.length:=(by rw [Ny461.out])
 have hcut3:=cut_clip (P:=Try.prog) 33 44 Try.underlying33 hi03 Ao2 _ co2 _ (Kd.jE HO0.out).2.1 hy3
 have hr3:=Kd.R_clip HO0.out Ny461.out
 clear hy3 hi03 hsz3 HO0
 have HO463:=am hr3
 clear hr3
 go_enter Try.func84,Try.ntmps84
 go_wp2
 go_ret
 exact ⟨_,Y0,rq HO463.out,bq,Y85⟩
def jkb.f (k : Nat) (l0_0 : List (S106)) (l1 : List (S44)) : Option ((List (S44)) × Bool) := (jxa.f k l0_0 l1).bind fun t465 => (if t465 = true then ((jMb.f l1).bind fun t466 => (some (t466, true))) else (some (([] : List (S44)), false)))
set_option maxHeartbeats 8000000 in
set_option maxRecDepth 100000 in
theorem jkb.calls (k : Nat) (A0_0 : Option Addr) (c0_0 : Nat) (l0_0 : List (S106)) (P1_ : Nat → Prop) (u9000_ : Value) (l1 : List (S44)) (r1 : List (S44)) (r2 : Bool) (w0 w : World) (hB : Below w0.heap.size w0 w) (hr0_0 : ∀ W_, Kept w W_ (fun k_ => P1_ k_) → Kd.C k106 W_ A0_0 l0_0.length l0_0) (hc0_0 : l0_0.length ≤ c0_0) (ho1 : Kd.R k44 44 w w0.heap.size P1_ u9000_ l1) (h : jkb.f k l0_0 l1 = some (r1, r2)) :
  Calls Try.prog 52 #[.agg #[.slice A0_0 l0_0.length c0_0],u9000_] w fun e w'=>∃ v0_:Value,e=.returned (.tuple #[v0_, .bool r2])∧Kd.R k44 44 w' w0.heap.size (fun k_=>(P1_ k_∨w.heap.size≤k_)) v0_ r1∧Below w0.heap.size w0 w'∧Kept w w' (fun k_=>P1_ k_):=by
 have hu31:=Try.underlying31
 have HR0_0:=am hr0_0
 have HC0_0:=am hc0_0
 clear hr0_0 hc0_0
 have HO1:=am (show Kd.R k44 44 w w0.heap.size (fun k_=>(P1_ k_∨w.heap.size≤k_)) u9000_ l1 from Kd.jD ho1 (fun k_ hk=>(.inl hk)))
 have HK:=am (Kept.refl w (fun k_=>P1_ k_))
 have HW0:=am hB.size
 have HB:=am hB
 clear hB
 have H:((jxa.f k l0_0 l1).bind fun t465=>(if t465=true then ((jMb.f l1).bind fun t466=>(some (t466,true))) else (some (([]:List (S44)),false))))=some (r1,r2):=h
 clear h
 replace H:=bzS H
 obtain ⟨t465,A30,H⟩:=H
 replace H:(if t465=true then ((jMb.f l1).bind fun t466=>(some (t466,true))) else (some (([]:List (S44)),false)))=some (r1,r2):=H
 have A3:=am A30
 clear A30
 by_cases c4:t465=true
 ·subst c4
  have H1:((jMb.f l1).bind fun t466=>(some (t466,true)))=some (r1,r2):=by rw [if_pos rfl] at H;exact H
  clear H
  have H:=H1
  clear H1
  replace H:=bzS H
  obtain ⟨t466,A50,H⟩:=H
  replace H:(some (t466,true))=some (r1,r2):=H
  have A5:=am A50
  clear A50
  simp only [Option.some.injEq,Prod.mk.injEq] at H
  obtain ⟨rfl,rfl⟩:=H
  go_enter Try.func52,Try.ntmps52
  go_wp2_with (first |((with_reducible refine jP (N:=2) rfl ?_);refine bE (N:=2) (cs:=#[.slice A0_0 l0_0.length c0_0]) (t:=31) ?_;intro gb464 hg w6 hbox hb;have BK464:=am (hbox);have GW464:=am ((Y123:w.heap.size≤gb464));have GE464:=am ((Y3:w0.heap.size≤gb464));replace HO1:=am (Kd.jM (rq HO1.out) hb);replace HK:=am (Kept.below (S:=(fun k_=>P1_ k_)) (Y85) hb);replace HB:=am (jk (bq) hb);clear hb hbox hg;have hcz7_0:=bc0 BK464.out;have hfz7_0:=jd BK464.out 0;obtain ⟨Ao8,co8,eo8⟩:=Kd.jja HO1.out;subst eo8) |((with_reducible refine jy (f:=17) rfl ?_);refine gL (some 8) Try.func17 #[.agg #[.slice A0_0 l0_0.length c0_0], .slice Ao8 l1.length co8] ?_;(with_reducible refine (jxa.calls k _ _ l0_0 _ _ l1 true _ ?side1 ?side2 ?side3 ?side4 A3.out).mono ?_);(case side1=>exact Kd.C_kept_now HR0_0.out (Y48));(case side2=>exact HC0_0.out);(case side3=>exact cq (Kd.jE HO1.out).2.2);(case side4=>exact (Kd.jE HO1.out).2.1);rintro e w9 ⟨rfl,hb⟩;refine ⟨_,rfl,?_⟩;replace HO1:=am (Kd.jM (rq HO1.out) hb);replace BK464:=am (je (g:=gb464) (o:=.cells #[.slice A0_0 l0_0.length c0_0] 31 (0,0)) (kq BK464.out) hb);replace HK:=am (Kept.below (S:=(fun k_=>P1_ k_)) (Y48) hb);replace HB:=am (jk (Y66) hb);(try clear hb);(try clear hb2);(try clear hk);(try clear hi)) |((with_reducible refine jy (f:=84) rfl ?_);refine gL (some 11) Try.func84 #[.slice Ao8 l1.length co8] ?_;(with_reducible refine (jMb.calls (fun k_=>some k_=(.slice Ao8 l1.length co8:Value).ownBlock) (.slice Ao8 l1.length co8) l1 t466 w0 _ ?side1 ?side2 A5.out).mono ?_);(case side1=>exact Y66);(case side2=>exact Kd.R_tight rfl HO1.out);rintro e w10 ⟨v467,rfl,ho0,hb,hkp⟩;refine ⟨_,rfl,?_⟩;have n0_:=am (jcc (kq BK464.out) hkp (fun hs_=>(fun e_=>(Kd.R_ne HO1.out BK464.out (by decide)) e_) hs_));have n1_:=am (Kd.jD (ok':=fun k_=>(P1_ k_∨w.heap.size≤k_)) ho0 (fun k_ hk_=>Or.elim hk_ (fun hs_=>(HO1.out.1 k_ (hs_).symm)) (fun hn_=>(.inr (Nat.le_trans (by first | exact HK.out.1 | exact (show Kept w _ (fun k_=>P1_ k_) from by repeat (first |(with_reducible first | exact HK.out | apply Kept.alloc | apply Kept.drewN | apply Kept.drew | refine Kept.setCell ?_ (.inr GW464.out) _) | exact HK.out)).1) hn_)))));have n2_:=am (Kept.then_ (S:=(fun k_=>P1_ k_)) (Y48) hkp (fun k_ hs_=>(fun e_=>(HO1.out.1 k_ e_.symm)) hs_));have n3_:=am (hb);clear BK464 HK HB HO1;have BK464:=n0_;have HO468:=n1_;have HK:=n2_;have HB:=n3_;clear n0_ n1_ n2_ n3_;(try clear hb);(try clear hkp);(try clear ho0)))
  go_ret2
  exact ⟨_,Y0,rq HO468.out,Y66,Y48⟩
 ·replace c4:=Bool.eq_false_iff.mpr c4
  subst c4
  have H1:(some (([]:List (S44)),false))=some (r1,r2):=by rw [if_neg (show ¬ (false=true) by decide)] at H;exact H
  clear H
  have H:=H1
  clear H1
  simp only [Option.some.injEq,Prod.mk.injEq] at H
  obtain ⟨rfl,rfl⟩:=H
  go_enter Try.func52,Try.ntmps52
  go_wp2_with (first |((with_reducible refine jP (N:=2) rfl ?_);refine bE (N:=2) (cs:=#[.slice A0_0 l0_0.length c0_0]) (t:=31) ?_;intro gb464 hg w11 hbox hb;have BK464:=am (hbox);have GW464:=am ((Y123:w.heap.size≤gb464));have GE464:=am ((Y3:w0.heap.size≤gb464));replace HO1:=am (Kd.jM (rq HO1.out) hb);replace HK:=am (Kept.below (S:=(fun k_=>P1_ k_)) (Y85) hb);replace HB:=am (jk (bq) hb);clear hb hbox hg;have hcz12_0:=bc0 BK464.out;have hfz12_0:=jd BK464.out 0;obtain ⟨Ao13,co13,eo13⟩:=Kd.jja HO1.out;subst eo13) |((with_reducible refine jy (f:=17) rfl ?_);refine gL (some 8) Try.func17 #[.agg #[.slice A0_0 l0_0.length c0_0], .slice Ao13 l1.length co13] ?_;(with_reducible refine (jxa.calls k _ _ l0_0 _ _ l1 false _ ?side1 ?side2 ?side3 ?side4 A3.out).mono ?_);(case side1=>exact Kd.C_kept_now HR0_0.out (Y48));(case side2=>exact HC0_0.out);(case side3=>exact cq (Kd.jE HO1.out).2.2);(case side4=>exact (Kd.jE HO1.out).2.1);rintro e w14 ⟨rfl,hb⟩;refine ⟨_,rfl,?_⟩;replace HO1:=am (Kd.jM (rq HO1.out) hb);replace BK464:=am (je (g:=gb464) (o:=.cells #[.slice A0_0 l0_0.length c0_0] 31 (0,0)) (kq BK464.out) hb);replace HK:=am (Kept.below (S:=(fun k_=>P1_ k_)) (Y48) hb);replace HB:=am (jk (Y66) hb);(try clear hb);(try clear hb2);(try clear hk);(try clear hi)))
  go_ret2
  exact ⟨_,Y0,Y84,Y66,Y48⟩

set_option maxHeartbeats 8000000 in
set_option maxRecDepth 100000 in
theorem slices_Grow_Exit.calls (n : Nat) (w : World) (hn : n < 4398046511104) :
  Calls Try.prog 85 #[.slice none 0 0, .int .i64 n] w fun e w'=>∃ v,e=.returned v∧Kd.R k44 44 w' w.heap.size (fun _=>True) v []∧Below w.heap.size w w':=by
 have hn0:¬ ((n:Int)<0):=by omega
 have hn0b:=dzF hn0
 have hw:wrap64 ((n:Int) - 0)=n:=by unfold wrap64;omega
 by_cases h0:n=0
 ·subst h0
  go_enter Try.func85,Try.ntmps85
  go_wp2
  go_ret
  exact ⟨_,rfl,Kd.R_nil _ _ _ _ _,Below.refl _ _⟩
 ·have hp:(n:Int) > 0:=by omega
  have hpb:=dzT hp
  go_enter Try.func85,Try.ntmps85
  go_wp2_with (at_builtin;refine Kd.R_append_zeros k44 (w0:=w) w.heap.size rfl (.tmp 20) (.tmp 21) 33 3 44 (.agg #[(.int .i64 0),(.int .i64 0),(.int .i64 0)]) 24 rfl Try.underlying33 Try.underlying3 info44 rfl (by decide) (by omega) (.slice none 0 0) [] (⟨0,0,0⟩:S44) (kx:=.i64) (n:Int) (fun _=>True) rfl rfl (k44_mkM _ _ _ (⟨0,0,0⟩:S44)) (fun _ _=>trivial) (Kd.R_nil _ _ _ _ _) (by omega) (Below.refl _ _) (Nat.le_refl _) (by simp;omega) ?_;intro v1 w1 ho hb hg hat;obtain ⟨ad,c,rfl⟩:=Kd.R_slice1 ho (by simp;omega);simp only [List.nil_append,List.length_replicate,Int.toNat_natCast] at ho ⊢;have hz:=Kd.R_take (m:=0) ho (by simp))
  go_ret
  exact ⟨_,rfl,by simpa using hz,hb⟩
theorem jbc {α : Type} {l : List (List α)} {i : Nat} (h : i < l.length) : (l.take (i + 1)).flatten = (l.take i).flatten ++ l[i] := by
 rw [List.take_succ_eq_append_getElem h,List.flatten_append];simp
theorem flat_leExit {α : Type} (l : List (List α)) (i : Nat) : (l.take i).flatten.length ≤ l.flatten.length := by
 conv=>rhs;rw [← List.take_append_drop i l,List.flatten_append]
 rw [List.length_append];omega
theorem at_rowsExit {α : Type} {e : Nat} {d : Kd α} {w : World} {A : Option Addr} {l : List (List α)} (h : Kd.C (Kd.slice e d) w A l.length l) {i : Nat} (hi : i < l.length) :
  ∃ ad,A=some ad∧∃ B c,w.cell? (ad.add i)=some (.slice B l[i].length c)∧l[i].length≤c∧Kd.C d w B l[i].length l[i]:=by
 obtain ⟨ad,e,hc⟩:=h.2.2 (by omega)
 obtain ⟨c,hs,⟨B,c2,rfl,h1,h2⟩,hcell⟩:=hc i _ (List.getElem?_eq_getElem hi)
 refine ⟨ad,e,B,c2,?_,h1,h2⟩
 have:=hcell 0 _ rfl
 simpa [Kd.slice] using this
def jRa.f (l0 : List (List S44)) : Option (List S44) := if l0.flatten.length < 4398046511104 then some l0.flatten else none
set_option maxHeartbeats 8000000 in
set_option maxRecDepth 100000 in
theorem jRa.calls (A0 : Option Addr) (c0 : Nat) (l0 : List (List S44)) (r : List S44) (w : World) (hr0 : Kd.C (Kd.slice 44 k44) w A0 l0.length l0) (hc0 : l0.length ≤ c0) (h : jRa.f l0 = some r) :
  Calls Try.prog 53 #[.slice A0 l0.length c0] w fun e w'=>∃ v0_:Value,e=.returned v0_∧Kd.R k44 44 w' w.heap.size (fun _=>True) v0_ r∧Below w.heap.size w w':=by
 unfold jRa.f at h
 by_cases hlen:l0.flatten.length<4398046511104
 case neg=>rw [if_neg hlen] at h;cases h
 rw [if_pos hlen] at h
 obtain rfl:=Option.some.inj h
 clear h
 have hm:l0.length≤9223372036854775807:=Kd.C_max hr0
 have HR:=am hr0
 have HL:=am hlen
 clear hr0 hlen
 go_enter Try.func53,Try.ntmps53
 go_wp2
 go_loopw [3,11] (fun v3 v11 wr=>∃ i s:Nat,i≤l0.length∧v11=.int .i64 i∧v3=.int .i64 (s:Nat)∧w=wr∧jv ((l0.take i).flatten.length=s)) (fun _ v11 _=>l0.length - (intOf v11).toNat)
 case atStart=>exact ⟨0,0,Nat.zero_le _,rfl,rfl,rfl,⟨rfl⟩⟩
 case round =>
  obtain ⟨i,s,hi,rfl,rfl,rfl,HS⟩:=hrel
  by_cases hlt:i<l0.length
  ·obtain ⟨ad,rfl,B,cB,hcell,hcl,hC⟩:=at_rowsExit HR.out hlt
   have hb1:s+l0[i].length<4398046511104:=by
    have h1:=flat_leExit l0 (i+1)
    have h2:=HL.out
    have h3:=HS.out
    rw [jbc hlt,List.length_append] at h1
    omega
   have HS2:=am (show (l0.take (i+1)).flatten.length=s+l0[i].length by rw [jbc hlt,List.length_append,HS.out])
   clear hC HS
   obtain ⟨m,hmm⟩:∃ m,l0[i].length=m:=⟨_,rfl⟩
   rw [hmm] at hcell hb1 HS2 hcl
   clear hmm hcl
   have e1:wrap64 ((s:Int)+(m:Int))=(s:Int)+(m:Int):=by unfold wrap64;omega
   have n1:¬ ((s:Int)+(m:Int)<0):=by omega
   have n1b:=dzF n1
   go_wp2
   go_roundw
   case rel=>exact ⟨i+1,s+m,hlt,by go_num,by go_num,by first | trivial | rfl,HS2⟩
   case measure=>simp [intOf];omega
  ·obtain rfl:i=l0.length:=by omega
   have e0:l0.flatten.length=s:=by rw [← HS.out,List.take_of_length_le (Nat.le_refl _)]
   have HG:=am (slices_Grow_Exit.calls s w (by rw [← e0];exact HL.out))
   have HE:=am e0
   clear e0 HS
   go_wp2_with (go_at_call 85;refine HG.out.mono ?_;rintro e w1 ⟨vg,rfl,hR,hB⟩;have HV:=am hR;have HB:=am hB;clear hR hB)
   go_loopw [6,27] (fun v6 v27 wr=>∃ i:Nat,i≤l0.length∧v27=.int .i64 i∧jv (Kd.R k44 44 wr w.heap.size (fun _=>True) v6 (l0.take i).flatten)∧jv (Below w.heap.size w wr)) (fun _ v27 _=>l0.length - (intOf v27).toNat)
   case atStart=>exact ⟨0,Nat.zero_le _,rfl,⟨HV.out⟩,HB⟩
   case round =>
    clear HV HB
    obtain ⟨i,hi,rfl,HV,HB⟩:=hrel
    by_cases hlt:i<l0.length
    ·obtain ⟨ad,rfl,B,cB,hcell,hcl,hC⟩:=at_rowsExit HR.out hlt
     have HC:=am (Kd.jka hC HB.out)
     replace hcell:=(HB.out.cell (World.block_lt_of_cell? w _ hcell)).trans hcell
     have hl:(l0.take i).flatten.length+l0[i].length≤4398046511104:=by
      have h1:=flat_leExit l0 (i+1)
      have h2:=HL.out
      rw [jbc hlt,List.length_append] at h1
      omega
     have HLE:=am hl
     have HF:=am (jbc hlt)
     obtain ⟨x,hx⟩:∃ x,l0[i]=x:=⟨_,rfl⟩
     obtain ⟨y,hy⟩:∃ y,(l0.take i).flatten=y:=⟨_,rfl⟩
     rw [hx] at hcell HC HLE HF
     rw [hy] at HV HLE HF
     clear hC hcl hl hx hy
     go_wp2_with (at_builtin;refine Kd.jDc k44 (w0:=w) w.heap.size rfl (.tmp 31) (.tmp 32) 33 44 (.agg #[(.int .i64 0),(.int .i64 0),(.int .i64 0)]) 24 rfl Try.underlying33 info44 rfl (by decide) (by omega) _ y x _ _ _ (fun _=>True) (fun _=>False) rfl rfl HV.out HC.out (fun _ _ h=>h) (fun _ h=>h.elim) (fun _ _=>trivial) HB.out (jY HB.out) (by have:=HLE.out;omega) ?_;intro v1 w2 ho hb hg hat;have HV2:=am ho;have HB2:=am hb;clear ho hb hg hat)
     go_roundw
     case rel=>exact ⟨i+1,hlt,by go_num,⟨by rw [HF.out];exact HV2.out⟩,HB2⟩
     case measure=>simp [intOf];omega
    ·obtain rfl:i=l0.length:=by omega
     have HV2:=am (show Kd.R k44 44 wr w.heap.size (fun _=>True) _ l0.flatten by have:=HV.out;rw [List.take_of_length_le (Nat.le_refl _)] at this;exact this)
     clear HV
     go_wp2
     go_ret
     exact ⟨_,rfl,HV2.out,HB.out⟩
def jda.j0 : Nat → List (S44) → List (S44) → Bool → List (S106) → Option ((List (S44)) × Bool)
 | 0,_,_,_,_=>none
 | k+1,x1,x2,x17,x470000=>if x17=true then (some (([]:List (S44)),false)) else ((jRa.f (([x1,x2]:List (List (S44))))).bind fun t475=>((jkb.f k x470000 t475).bind fun bt478=>(some (bt478.1,bt478.2))))
def jda.f (k : Nat) (l0_0 : List (S106)) (l1 : List (S44)) (l2 : List (S44)) : Option ((List (S44)) × Bool) := (jxa.f k l0_0 l1).bind fun t470 => (if t470 = true then ((jxa.f k l0_0 l2).bind fun t471 => (jda.j0 k l1 l2 (!t471) l0_0)) else (jda.j0 k l1 l2 true l0_0))
def jda.T3 : Bool × List (List Nat × List Nat) := (true, [([], []), ([], []), ([], []), ([1, 2], [1, 2]), ([3], [3]), ([0, 4, 4], [0, 4]), ([5], [5]), ([5], [5]), ([6, 5, 0, 1, 2, 3, 4, 5, 6, 7], [6]), ([7, 8, 0, 1, 2, 3, 4, 5, 6, 7, 8], [7])])
def jda.B3 : List Nat := [0, 0, 0, 6, 14, 31, 63, 63, 255, 511]
theorem jda.tab3 : rtab .any (opsOf Try.f18 3) = jda.T3 := by kernel_rfl
theorem jda.bits3 : jec jda.T3.2 jda.B3 = true := by kernel_rfl
set_option maxHeartbeats 8000000 in
set_option maxRecDepth 100000 in
theorem jda.calls (k : Nat) (A0_0 : Option Addr) (c0_0 : Nat) (l0_0 : List (S106)) (P1_ : Nat → Prop) (A1 : Option Addr) (c1 : Nat) (l1 : List (S44)) (P2_ : Nat → Prop) (A2 : Option Addr) (c2 : Nat) (l2 : List (S44)) (r1 : List (S44)) (r2 : Bool) (w : World) (hr0_0 : Kd.C k106 w A0_0 l0_0.length l0_0) (hc0_0 : l0_0.length ≤ c0_0) (hs1 : Kd.V k44 44 w w.heap.size (fun k_ => P1_ k_) (.slice A1 l1.length c1) l1) (hs2 : Kd.V k44 44 w w.heap.size (fun k_ => P2_ k_) (.slice A2 l2.length c2) l2) (h : jda.f k l0_0 l1 l2 = some (r1, r2)) :
  Calls Try.prog 18 #[.agg #[.slice A0_0 l0_0.length c0_0], .slice A1 l1.length c1, .slice A2 l2.length c2] w fun e w'=>∃ v0_:Value,e=.returned (.tuple #[v0_, .bool r2])∧Kd.R k44 44 w' w.heap.size (fun k_=>(w.heap.size≤k_)) v0_ r1∧Below w.heap.size w w':=by
 have hu31:=Try.underlying31
 have HR0_0:=am hr0_0
 have HC0_0:=am hc0_0
 clear hr0_0 hc0_0
 have HO1:=am (show Kd.V k44 44 w w.heap.size (fun k_=>((P1_ k_∨P2_ k_)∨w.heap.size≤k_)) (.slice A1 l1.length c1) l1 from Kd.V_mono hs1 (fun k_ hk=>.inl (.inl hk)))
 have HO2:=am (show Kd.V k44 44 w w.heap.size (fun k_=>((P1_ k_∨P2_ k_)∨w.heap.size≤k_)) (.slice A2 l2.length c2) l2 from Kd.V_mono hs2 (fun k_ hk=>.inl (.inr hk)))
 have HB:=am (Below.refl w.heap.size w)
 have H:((jxa.f k l0_0 l1).bind fun t470=>(if t470=true then ((jxa.f k l0_0 l2).bind fun t471=>(jda.j0 k l1 l2 (!t471) l0_0)) else (jda.j0 k l1 l2 true l0_0)))=some (r1,r2):=h
 clear h
 have HC4:=am H
 clear H
 go_enter Try.func18,Try.ntmps18
 go_upto_region 1 with (first |((with_reducible refine jP (N:=3) rfl ?_);refine bE (N:=3) (cs:=#[.slice A0_0 l0_0.length c0_0]) (t:=31) ?_;intro gb469 hg w5 hbox hb;have BK469:=am (hbox);have GW469:=am ((Y3:w.heap.size≤gb469));have GE469:=am ((Y3:w.heap.size≤gb469));replace HO1:=am (Kd.V_below (Kd.V_elderB (Y86) gb469 (Nat.le_of_eq hg.symm)) hb);replace HO2:=am (Kd.V_below (Kd.V_elderB (Y87) gb469 (Nat.le_of_eq hg.symm)) hb);replace HB:=am (jk (bq) hb);clear hb hbox hg))
 (try simp only [Act.put,List.setIfInBounds_toArray,List.set_cons_zero,List.set_cons_succ])
 go_cut [17] (fun v17 wc=>∃ (kq:Nat) (x17_3:Bool),v17=.bool x17_3∧jv (jda.j0 kq l1 l2 x17_3 l0_0=some (r1,r2))∧jv (kq≤k)∧jv (Kd.V k44 44 wc w.heap.size (fun k_=>((P1_ k_∨P2_ k_)∨w.heap.size≤k_)∧k_≠gb469) (.slice A1 l1.length c1) l1)∧jv (Kd.V k44 44 wc w.heap.size (fun k_=>((P1_ k_∨P2_ k_)∨w.heap.size≤k_)∧k_≠gb469) (.slice A2 l2.length c2) l2)∧jv (wc.heap[gb469]?=some (.cells #[(.slice A0_0 l0_0.length c0_0)] 31 (0,0)))∧jv (Below w.heap.size w wc))
 case first =>
  have H:=HC4.out
  clear HC4
  replace H:=bzS H
  obtain ⟨t470,A60,H⟩:=H
  replace H:(if t470=true then ((jxa.f k l0_0 l2).bind fun t471=>(jda.j0 k l1 l2 (!t471) l0_0)) else (jda.j0 k l1 l2 true l0_0))=some (r1,r2):=H
  have A6:=am A60
  clear A60
  by_cases c7:t470=true
  ·subst c7
   have H1:((jxa.f k l0_0 l2).bind fun t471=>(jda.j0 k l1 l2 (!t471) l0_0))=some (r1,r2):=by rw [if_pos rfl] at H;exact H
   clear H
   have H:=H1
   clear H1
   replace H:=bzS H
   obtain ⟨t471,A80,H⟩:=H
   replace H:(jda.j0 k l1 l2 (!t471) l0_0)=some (r1,r2):=H
   have A8:=am A80
   clear A80
   have H':=am H
   clear H
   have hcz9_0:=bc0 BK469.out
   have hfz9_0:=jd BK469.out 0
   go_wp2_with (first |((with_reducible refine jy (f:=17) rfl ?_);refine gL (some 10) Try.func17 #[.agg #[.slice A0_0 l0_0.length c0_0], .slice A1 l1.length c1] ?_;(with_reducible refine (jxa.calls k _ _ l0_0 _ _ l1 true _ ?side1 ?side2 ?side3 ?side4 A6.out).mono ?_);(case side1=>exact cq (Kd.jka HR0_0.out HB.out));(case side2=>exact HC0_0.out);(case side3=>exact cq (Kd.joc HO1.out).2.2);(case side4=>exact (Kd.joc HO1.out).2.1);rintro e w10 ⟨rfl,hb⟩;refine ⟨_,rfl,?_⟩;replace HO1:=am (Kd.V_below (Y86) hb);replace HO2:=am (Kd.V_below (Y87) hb);replace BK469:=am (je (g:=gb469) (o:=.cells #[.slice A0_0 l0_0.length c0_0] 31 (0,0)) (kq BK469.out) hb);replace HB:=am (jk (Y18) hb);(try clear hb);(try clear hb2);(try clear hk);(try clear hi);have hcz11_0:=bc0 BK469.out;have hfz11_0:=jd BK469.out 0) |(go_at_call 17;(with_reducible refine (jxa.calls k _ _ l0_0 _ _ l2 t471 _ ?side1 ?side2 ?side3 ?side4 A8.out).mono ?_);(case side1=>exact cq (Kd.jka HR0_0.out HB.out));(case side2=>exact HC0_0.out);(case side3=>exact cq (Kd.joc HO2.out).2.2);(case side4=>exact (Kd.joc HO2.out).2.1);rintro e w12 ⟨rfl,hb⟩;replace HO1:=am (Kd.V_below (Y86) hb);replace HO2:=am (Kd.V_below (Y87) hb);replace BK469:=am (je (g:=gb469) (o:=.cells #[.slice A0_0 l0_0.length c0_0] 31 (0,0)) (kq BK469.out) hb);replace HB:=am (jk (Y18) hb);(try clear hb);(try clear hb2);(try clear hk);(try clear hi)))
   go_meet
   case rel=>exact ⟨_,(!t471),(sq),H',⟨Y16⟩,⟨by (with_reducible repeat (first | apply Kd.jsc | apply Kd.jrc | apply Kd.V_drew));exact HO1.out⟩,⟨by (with_reducible repeat (first | apply Kd.jsc | apply Kd.jrc | apply Kd.V_drew));exact HO2.out⟩,⟨kq BK469.out⟩,⟨Y18⟩⟩
  ·replace c7:=Bool.eq_false_iff.mpr c7
   subst c7
   have H1:(jda.j0 k l1 l2 true l0_0)=some (r1,r2):=by rw [if_neg (show ¬ (false=true) by decide)] at H;exact H
   clear H
   have H:=H1
   clear H1
   have H':=am H
   clear H
   have hcz13_0:=bc0 BK469.out
   have hfz13_0:=jd BK469.out 0
   go_wp2_with (first |((with_reducible refine jy (f:=17) rfl ?_);refine gL (some 10) Try.func17 #[.agg #[.slice A0_0 l0_0.length c0_0], .slice A1 l1.length c1] ?_;(with_reducible refine (jxa.calls k _ _ l0_0 _ _ l1 false _ ?side1 ?side2 ?side3 ?side4 A6.out).mono ?_);(case side1=>exact cq (Kd.jka HR0_0.out HB.out));(case side2=>exact HC0_0.out);(case side3=>exact cq (Kd.joc HO1.out).2.2);(case side4=>exact (Kd.joc HO1.out).2.1);rintro e w14 ⟨rfl,hb⟩;refine ⟨_,rfl,?_⟩;replace HO1:=am (Kd.V_below (Y86) hb);replace HO2:=am (Kd.V_below (Y87) hb);replace BK469:=am (je (g:=gb469) (o:=.cells #[.slice A0_0 l0_0.length c0_0] 31 (0,0)) (kq BK469.out) hb);replace HB:=am (jk (Y18) hb);(try clear hb);(try clear hb2);(try clear hk);(try clear hi)))
   go_meet
   case rel=>exact ⟨_,(true),(sq),H',⟨Y16⟩,⟨by (with_reducible repeat (first | apply Kd.jsc | apply Kd.jrc | apply Kd.V_drew));exact HO1.out⟩,⟨by (with_reducible repeat (first | apply Kd.jsc | apply Kd.jrc | apply Kd.V_drew));exact HO2.out⟩,⟨kq BK469.out⟩,⟨Y18⟩⟩
 case rest =>
  clear HC4
  try clear c1
  try clear c2
  try clear p2
  try clear c7
  try clear hcz11_0
  try clear hcz13_0
  try clear hcz9_0
  try clear hfz11_0
  try clear hfz13_0
  try clear hfz9_0
  obtain ⟨kq,x17_3,rfl,HA,HJ3,HO_1,HO_2,BK469,HB⟩:=hcut
  cases kq with
  | zero=>exact absurd HA.out (by simp [jda.j0])
  | succ kj3 =>
   have H:=HA.out
   clear HA
   simp only [jda.j0] at H
   by_cases c15:x17_3=true
   ·subst c15
    have H1:(some (([]:List (S44)),false))=some (r1,r2):=by rw [if_pos rfl] at H;exact H
    clear H
    have H:=H1
    clear H1
    simp only [Option.some.injEq,Prod.mk.injEq] at H
    obtain ⟨rfl,rfl⟩:=H
    go_wp2
    go_ret2
    exact ⟨_,Y0,Y84,Y18⟩
   ·replace c15:=Bool.eq_false_iff.mpr c15
    subst c15
    have H1:((jRa.f (([l1,l2]:List (List (S44))))).bind fun t475=>((jkb.f kj3 l0_0 t475).bind fun bt478=>(some (bt478.1,bt478.2))))=some (r1,r2):=by rw [if_neg (show ¬ (false=true) by decide)] at H;exact H
    clear H
    have H:=H1
    clear H1
    obtain ⟨y472,hy472⟩:∃ y_:List (List (S44)),y_=(([l1,l2]:List (List (S44)))):=⟨_,rfl⟩
    replace H:((jRa.f y472).bind fun t475=>((jkb.f kj3 l0_0 t475).bind fun bt478=>(some (bt478.1,bt478.2))))=some (r1,r2):=by first |(rw [hy472];with_reducible exact H) |(have H2_:=(Option.bind_some _ _).symm.trans H;rw [hy472];with_reducible exact H2_) |(have H2_:=(Option.bind_some _ _).symm.trans H;with_reducible exact H2_) | with_reducible exact H |(rw [hy472];exact H) | exact H
    have Ny472:=am hy472
    clear hy472
    replace H:=bzS H
    obtain ⟨t475,A160,H⟩:=H
    replace H:((jkb.f kj3 l0_0 t475).bind fun bt478=>(some (bt478.1,bt478.2)))=some (r1,r2):=H
    have A16:=am A160
    clear A160
    replace H:=bzS H
    obtain ⟨⟨t478,t481⟩,A170,H⟩:=H
    replace H:(some (t478,t481))=some (r1,r2):=H
    have A17:=am A170
    clear A170
    simp only [Option.some.injEq,Prod.mk.injEq] at H
    obtain ⟨rfl,rfl⟩:=H
    try go_wp2
    replace HO_1:=am (Kd.V_drew HO_1.out)
    replace HO_2:=am (Kd.V_drew HO_2.out)
    replace BK469:=am (jc BK469.out)
    replace HB:=am (jF HB.out)
    refine jkc (n:=10) (S:=fun w'=>w'.cell? ⟨gb469,0,none⟩=some (.slice A0_0 l0_0.length c0_0)) (ds:=[]) #[false,false,false,false,false,false,false,false,false,false] (by kernel_rfl) rfl rfl ((jh BK469.out 0).trans rfl) (fun hHeld=>?_);refine jJb jda.tab3 jda.bits3 (fun HT_ HW_=>?_)
    generalize wc.drew=w18 at HO_1 HO_2 BK469 HB hHeld ⊢
    refine pq (i:=1) (N:=some 19) #[false,true,false,false,false,false,false,false,false,false] ?_
    refine pq (i:=2) (N:=some 20) #[false,true,true,false,false,false,false,false,false,false] ?_
    refine jYb (i:=0) (N:=some 18) (v:=?_) (a':=?_) #[true,true,true,false,false,false,false,false,false,false] rfl rfl (jvb HT_.out HW_.out (by kernel_rfl)) (fun _ _ _ h=>h) (Or.inl ⟨by rfl,?_⟩) hHeld ?_ ?_
    rotate_left
    ·intro w' s0
     go_simp
     with_reducible rfl
    rotate_left
    ·exact sa
    refine one_ (i:=3) (N:=some 21) #[true,true,true,true,false,false,false,false,false,false] rfl rfl (jFb HT_.out (by kernel_rfl)) (by decide) (fun K hK=>?_)
    refine Kd.N_lit_step (Kd.slice 44 k44) _ 33 ?hg (N':=21) ?hd (xs:=([l1,l2]:List (List (S44)))) (inner:=[.slice A1 l1.length c1, .slice A2 l2.length c2]) (ok:=(fun k_=>((P1_ k_∨P2_ k_)∨w.heap.size≤k_)∧k_≠gb469)) (okp:=(fun k_=>((P1_ k_∨P2_ k_)∨w.heap.size≤k_)∧k_≠gb469)) ?hr ?hp (fun _ hk=>hk) ((show ∀ k_,w18.heap.size≤k_→(fun k_=>((P1_ k_∨P2_ k_)∨w.heap.size≤k_)∧k_≠gb469) k_ from fun k_ hk=>⟨(.inr (Nat.le_trans (jY (Y18)) hk)),Kd.freshB (g:=gb469) (o:=.cells #[.slice A0_0 l0_0.length c0_0] 31 (0,0)) (kq BK469.out) k_ hk⟩) _ (Nat.le_refl _)) (Below.refl _ _) (Nat.le_refl _) (by simp) ?_;(case hd=>rfl);(case hg=>rfl);(case hr=>exact Y2);(case hp=>exact (Reps.one (show Kd.FK (Kd.slice 44 k44) _ _ l1 [.slice A1 l1.length c1] from (Kd.FK_slice_mk (Kd.joc (Kd.V_mono (ok':=(fun k_=>((P1_ k_∨P2_ k_)∨w.heap.size≤k_)∧k_≠gb469)) (HO_1.out) (fun k_ hk=>⟨hk.1,hk.2⟩))).2.1 (Kd.V_F (Kd.V_mono (ok':=(fun k_=>((P1_ k_∨P2_ k_)∨w.heap.size≤k_)∧k_≠gb469)) (HO_1.out) (fun k_ hk=>⟨hk.1,hk.2⟩))))) (Reps.one (show Kd.FK (Kd.slice 44 k44) _ _ l2 [.slice A2 l2.length c2] from (Kd.FK_slice_mk (Kd.joc (Kd.V_mono (ok':=(fun k_=>((P1_ k_∨P2_ k_)∨w.heap.size≤k_)∧k_≠gb469)) (HO_2.out) (fun k_ hk=>⟨hk.1,hk.2⟩))).2.1 (Kd.V_F (Kd.V_mono (ok':=(fun k_=>((P1_ k_∨P2_ k_)∨w.heap.size≤k_)∧k_≠gb469)) (HO_2.out) (fun k_ hk=>⟨hk.1,hk.2⟩))))) (Reps.none _ _))))
    intro v473 w19 ho20 hb hg_ hnew_
    clear hg_ hnew_
    (first | rw [← Ny472.out] at ho20 |(simp only [Int.reduceToNat] at ho20;rw [← Ny472.out] at ho20))
    have HO474:=am (Kd.N_lower ho20 (jY (Y18)))
    replace HO_1:=am (Kd.V_elder' (by (with_reducible repeat (first | apply Kd.jsc | apply Kd.jrc | apply Kd.V_drew));exact HO_1.out) (Kd.N_base ho20) hb)
    replace HO_2:=am (Kd.V_elder' (by (with_reducible repeat (first | apply Kd.jsc | apply Kd.jrc | apply Kd.V_drew));exact HO_2.out) (Kd.N_base ho20) hb)
    replace BK469:=am (je (g:=gb469) (o:=.cells #[.slice A0_0 l0_0.length c0_0] 31 (0,0)) (kq BK469.out) hb)
    replace HB:=am (jk (Y18) hb)
    clear hb ho20
    obtain ⟨Ao21,co21,eo21⟩:=Kd.N_slice HO474.out
    (first | subst eo21 |(injection eo21 with f1_ f2_ f3_;have f4_:=f1_.symm;have f5_:=f3_.symm;clear f1_ f2_ f3_;subst f4_;subst f5_))
    refine hK.out _ _ ((jh BK469.out 0).trans rfl) (fun hHeld=>?_)
    clear hK K
    refine jjc (a':=?_) ?_ ?_
    rotate_left
    ·show Act.put _ (some 21) _=_
     simp only [Act.put,List.setIfInBounds_toArray,List.set_cons_zero,List.set_cons_succ,jyb,jBb]
     rfl
    refine one_ (i:=4) (N:=some 22) #[true,true,true,true,true,false,false,false,false,false] rfl rfl (jFb HT_.out (by kernel_rfl)) (by decide) (fun K hK=>?_)
    refine goes_ Try.func53 (by kernel_rfl) rfl #[.slice Ao21 y472.length co21] (by rfl) rfl rfl (aq) ?_
    with_reducible refine (jRa.calls _ _ y472 t475 _ ?side1 ?side2 A16.out).mono ?_
    (case side1=>exact cq (Kd.N_reads' HO474.out).2.2)
    (case side2=>exact (Kd.N_reads' HO474.out).2.1)
    rintro e w22 ⟨v476,rfl,ho0,hb⟩
    refine ⟨_,rfl,?_⟩
    have HO477:=am (Kd.jua (Kd.R_newM (M:=fun k_=>(w.heap.size≤k_)) ho0 (jY (Y18)) (fun k_ h_=>h_)) (jY (Y18)))
    replace HO_1:=am (Kd.V_elder' (by (with_reducible repeat (first | apply Kd.jsc | apply Kd.jrc | apply Kd.V_drew));exact HO_1.out) (Kd.jRb ho0) hb)
    replace HO_2:=am (Kd.V_elder' (by (with_reducible repeat (first | apply Kd.jsc | apply Kd.jrc | apply Kd.V_drew));exact HO_2.out) (Kd.jRb ho0) hb)
    replace HO474:=am (Kd.N_elder' (by (with_reducible repeat (first | apply Kd.N_alloc | apply Kd.N_drewN | apply Kd.N_drew));exact HO474.out) (Kd.jRb ho0) hb)
    replace BK469:=am (je (g:=gb469) (o:=.cells #[.slice A0_0 l0_0.length c0_0] 31 (0,0)) (kq BK469.out) hb)
    replace HB:=am (jk (Y18) hb)
    (try clear hb)
    (try clear hb2)
    (try clear hk)
    (try clear hi)
    (try clear ho0)
    obtain ⟨Ao23,co23,eo23⟩:=Kd.jja HO477.out
    (first | subst eo23 |(injection eo23 with f1_ f2_ f3_;have f4_:=f1_.symm;have f5_:=f3_.symm;clear f1_ f2_ f3_;subst f4_;subst f5_))
    refine hK.out _ _ ((jh BK469.out 0).trans rfl) (fun hHeld=>?_)
    clear hK K
    refine jjc (a':=?_) ?_ ?_
    rotate_left
    ·show Act.put _ (some 22) _=_
     simp only [Act.put,List.setIfInBounds_toArray,List.set_cons_zero,List.set_cons_succ,jyb,jBb]
     rfl
    refine one_ (i:=5) (N:=some 23) #[true,true,true,true,true,true,false,false,false,false] rfl rfl (jFb HT_.out (by kernel_rfl)) (by decide) (fun K hK=>?_)
    refine goes_ Try.func52 (by kernel_rfl) rfl #[.agg #[.slice A0_0 l0_0.length c0_0], .slice Ao23 t475.length co23] (by rfl) rfl rfl (aq) ?_
    with_reducible refine (jkb.calls kj3 _ _ l0_0 (fun k_=>some k_=(.slice Ao23 t475.length co23:Value).ownBlock) (.slice Ao23 t475.length co23) t475 t478 t481 w _ ?side1 ?side2 ?side3 ?side4 A17.out).mono ?_
    (case side1=>exact Y18)
    (case side2=>exact Kd.C_kept_came k106_heap HR0_0.out (Y18) (fun k_ hs_=>(fun e_=>Kd.jRb HO477.out k_ e_.symm) hs_))
    (case side3=>exact HC0_0.out)
    (case side4=>exact Kd.R_tight rfl HO477.out)
    rintro e w24 ⟨v479,rfl,ho0,hb,hkp⟩
    refine ⟨_,rfl,?_⟩
    have n0_:=am (Kd.V_mono (ok':=fun k_=>((P1_ k_∨P2_ k_)∨w.heap.size≤k_)∧some k_≠(.slice Ao21 y472.length co21:Value).ownBlock∧k_≠gb469∧some k_≠(v479:Value).ownBlock) (Kd.V_keptB (HO_1.out) hkp (fun k_ hk_ hs_=>(hk_.2) hs_)) (fun k_ hk_=>⟨hk_.1.1.1.1,hk_.1.1.2,hk_.1.1.1.2,fun e_=>Or.elim (ho0.1 k_ e_.symm) (fun hs_=>hk_.2.1 hs_) (fun hn_=>Nat.not_le.2 hk_.2.2 hn_)⟩))
    have n1_:=am (Kd.V_mono (ok':=fun k_=>((P1_ k_∨P2_ k_)∨w.heap.size≤k_)∧some k_≠(.slice Ao21 y472.length co21:Value).ownBlock∧k_≠gb469∧some k_≠(v479:Value).ownBlock) (Kd.V_keptB (HO_2.out) hkp (fun k_ hk_ hs_=>(hk_.2) hs_)) (fun k_ hk_=>⟨hk_.1.1.1.1,hk_.1.1.2,hk_.1.1.1.2,fun e_=>Or.elim (ho0.1 k_ e_.symm) (fun hs_=>hk_.2.1 hs_) (fun hn_=>Nat.not_le.2 hk_.2.2 hn_)⟩))
    have n2_:=am (jcc (kq BK469.out) hkp (fun hs_=>(fun e_=>(Kd.R_ne HO477.out BK469.out (by decide)) e_) hs_))
    have n3_:=am (Kd.N_mono (ok':=fun k_=>((P1_ k_∨P2_ k_)∨w.heap.size≤k_)∧k_≠gb469∧some k_≠(v479:Value).ownBlock) (Kd.N_keptB (HO474.out) hkp (fun k_ hk_ hs_=>(hk_.2) hs_)) (fun k_ hk_=>⟨hk_.1.1.1,hk_.1.1.2,fun e_=>Or.elim (ho0.1 k_ e_.symm) (fun hs_=>hk_.2.1 hs_) (fun hn_=>Nat.not_le.2 hk_.2.2 hn_)⟩))
    have n4_:=am (Kd.jD (ok':=fun k_=>(w.heap.size≤k_)) ho0 (fun k_ hk_=>Or.elim hk_ (fun hs_=>(HO477.out.1 k_ (hs_).symm).1) (fun hn_=>(Nat.le_trans (jY (Y18)) hn_))))
    have n5_:=am (hb)
    clear HO_1
    clear HO_2
    clear BK469
    clear HO474
    clear HB
    clear HO477
    have HO_1:=n0_
    have HO_2:=n1_
    have BK469:=n2_
    have HO474:=n3_
    have HO480:=n4_
    have HB:=n5_
    clear n0_ n1_ n2_ n3_ n4_ n5_
    (try clear hb)
    (try clear hkp)
    (try clear ho0)
    refine hK.out _ _ ((jh BK469.out 0).trans rfl) (fun hHeld=>?_)
    clear hK K
    refine jjc (a':=?_) ?_ ?_
    rotate_left
    ·show Act.put _ (some 23) _=_
     simp only [Act.put,List.setIfInBounds_toArray,List.set_cons_zero,List.set_cons_succ,jyb,jBb]
     rfl
    refine pq (i:=6) (N:=some 24) #[true,true,true,true,true,true,true,false,false,false] ?_
    refine pq (i:=7) (N:=some 25) #[true,true,true,true,true,true,true,true,false,false] ?_
    refine pq (i:=8) (N:=some 6) #[true,true,true,true,true,true,true,true,true,false] ?_
    refine pq (i:=9) (N:=some 7) #[true,true,true,true,true,true,true,true,true,true] ?_
    refine done_ (jgc HT_.out (by kernel_rfl)) ?_
    try go_wp2
    go_ret2
    exact ⟨_,Y0,rq HO480.out,Y18⟩
def jma.l0 : Nat → List Int → List Int → Int → Option (Bool)
 | 0,_,_,_=>none
 | k+1,x0,x1,x5=>if x5<(x0.length:Int) then (if 0≤x5 then (if x5<(x1.length:Int) then (if (rd x0 x5)=(rd x1 x5) then (jma.l0 k x0 x1 (wrap64 (x5+1))) else (some false)) else (none)) else (none)) else (some true)
def jma.f (k : Nat) (l0 : List Int) (l1 : List Int) : Option (Bool) := if (l0.length : Int) = (l1.length : Int) then (jma.l0 k l0 l1 0) else (some false)
set_option maxHeartbeats 8000000 in
set_option maxRecDepth 100000 in
theorem jma.calls (k : Nat) (A0 : Option Addr) (c0 : Nat) (l0 : List Int) (A1 : Option Addr) (c1 : Nat) (l1 : List Int) (r : Bool) (w : World) (hr0 : Kd.C (Kd.int .i64) w A0 l0.length l0) (hc0 : l0.length ≤ c0) (hr1 : Kd.C (Kd.int .i64) w A1 l1.length l1) (hc1 : l1.length ≤ c1) (h : jma.f k l0 l1 = some r) :
  Calls Try.prog 21 #[.slice A0 l0.length c0, .slice A1 l1.length c1] w fun e w'=>e=.returned (.bool r)∧jrb w w':=by
 have HR0:=am hr0
 have HC0:=am hc0
 clear hr0 hc0
 have HR1:=am hr1
 have HC1:=am hc1
 clear hr1 hc1
 have H:(if (l0.length:Int)=(l1.length:Int) then (jma.l0 k l0 l1 0) else (some false))=some r:=h
 clear h
 by_cases c3:(l0.length:Int)=(l1.length:Int)
 ·rw [if_pos c3] at H
  have c3b0:((l0.length:Int) == (l1.length:Int))=true:=beq_iff_eq.mpr c3
  have c3b1:((l0.length:Int) != (l1.length:Int))=false:=bne_eq_false_iff_eq.mpr c3
  have c3b2:(l0.length == l1.length)=true:=by first | simpa using c3 |(simp at c3 ⊢;omega)
  clear c3
  have H':=am H
  clear H
  go_enter Try.func21,Try.ntmps21
  go_wp2
  repeat (go_quiet (fail);try go_wp2)
  go_loopg [5] k (fun kq v5 w'=>∃ (x5_1:Int),v5=.int .i64 x5_1∧jv (jma.l0 kq l0 l1 x5_1=some r)∧jv (kq≤k)∧jrb w w')
  case atStart=>exact ⟨(0),(sq),H',⟨Nat.le_refl _⟩,Y4⟩
  case round =>
   clear H'
   try clear c1
   try clear c2
   try clear p2
   try clear c3
   try clear c3b0
   try clear c3b1
   try clear c3b2
   obtain ⟨x5_1,rfl,HA,HK1,⟨m1,rfl⟩⟩:=hrel
   cases gk with
   | zero=>exact absurd HA.out (by simp [jma.l0])
   | succ k1 =>
    have H:=HA.out
    clear HA
    simp only [jma.l0] at H
    by_cases c4:x5_1<(l0.length:Int)
    ·rw [if_pos c4] at H
     have c4b0:decide (x5_1<(l0.length:Int))=true:=dzT c4
     clear c4
     by_cases c5:0≤x5_1
     ·rw [if_pos c5] at H
      have c5b0:decide (0≤x5_1)=true:=dzT c5
      clear c5
      by_cases c6:x5_1<(l1.length:Int)
      ·rw [if_pos c6] at H
       have c6b0:decide (x5_1<(l1.length:Int))=true:=dzT c6
       clear c6
       by_cases c7:(rd l0 x5_1)=(rd l1 x5_1)
       ·rw [if_pos c7] at H
        have c7b0:((rd l0 x5_1) == (rd l1 x5_1))=true:=beq_iff_eq.mpr c7
        have c7b1:((rd l0 x5_1) != (rd l1 x5_1))=false:=bne_eq_false_iff_eq.mpr c7
        clear c7
        have H':=am H
        clear H
        have p516:0≤(x5_1:Int):=ozD (uq)
        have q516:x5_1<(l0.length:Int):=ozD (uq)
        obtain ⟨ad516,e516,hx516_0⟩:=Kd.jXb HR0.out x5_1 p516 q516
        cases e516
        replace p516:=ezT p516
        replace q516:=ezT q516
        have p517:0≤(x5_1:Int):=ozD (uq)
        have q517:x5_1<(l1.length:Int):=ozD (uq)
        obtain ⟨ad517,e517,hx517_0⟩:=Kd.jXb HR1.out x5_1 p517 q517
        cases e517
        replace p517:=ezT p517
        replace q517:=ezT q517
        go_wp2
        repeat (go_quiet (fail);try go_wp2)
        go_roundg k1
        case measure=>have:=HK1.out;omega
        case rel=>exact ⟨(wrap64 (x5_1+1)),(sq),H',⟨by have:=HK1.out;omega⟩,Y4⟩
       ·rw [if_neg c7] at H
        have c7b0:((rd l0 x5_1) == (rd l1 x5_1))=false:=beq_eq_false_iff_ne.mpr c7
        have c7b1:((rd l0 x5_1) != (rd l1 x5_1))=true:=bne_iff_ne.mpr c7
        obtain rfl:=Option.some.inj H
        have p516:0≤(x5_1:Int):=ozD (uq)
        have q516:x5_1<(l0.length:Int):=ozD (uq)
        obtain ⟨ad516,e516,hx516_0⟩:=Kd.jXb HR0.out x5_1 p516 q516
        cases e516
        replace p516:=ezT p516
        replace q516:=ezT q516
        have p517:0≤(x5_1:Int):=ozD (uq)
        have q517:x5_1<(l1.length:Int):=ozD (uq)
        obtain ⟨ad517,e517,hx517_0⟩:=Kd.jXb HR1.out x5_1 p517 q517
        cases e517
        replace p517:=ezT p517
        replace q517:=ezT q517
        go_wp2
        repeat (go_quiet (fail);try go_wp2)
        go_ret
        exact ⟨sq,Y4⟩
      ·rw [if_neg c6] at H
       exact absurd H (by simp)
     ·rw [if_neg c5] at H
      exact absurd H (by simp)
    ·rw [if_neg c4] at H
     have c4b0:decide (x5_1<(l0.length:Int))=false:=dzF c4
     clear c4
     obtain rfl:=Option.some.inj H
     go_wp2
     repeat (go_quiet (fail);try go_wp2)
     go_ret
     exact ⟨sq,Y4⟩
 ·rw [if_neg c3] at H
  have c3b0:((l0.length:Int) == (l1.length:Int))=false:=beq_eq_false_iff_ne.mpr c3
  have c3b1:((l0.length:Int) != (l1.length:Int))=true:=bne_iff_ne.mpr c3
  have c3b2:(l0.length == l1.length)=false:=by first | simpa using c3 |(simp at c3 ⊢;omega)
  obtain rfl:=Option.some.inj H
  go_enter Try.func21,Try.ntmps21
  go_wp2
  repeat (go_quiet (fail);try go_wp2)
  go_ret
  exact ⟨sq,Y4⟩
theorem mh_st3 {W : World} {base g n cap : Nat} {ok : Nat → Prop} {l : List S90} {a : Int} (h : Kd.R k90 90 W base ok (.slice (some ⟨g, 0, none⟩) n cap) l) (h0 : 0 ≤ a) (h1 : a < (n : Int)) (c : Int) :
  Kd.R k90 90 (W.setCell ⟨g,a.toNat * 5+3,none⟩ (.int .i64 c)) base ok (.slice (some ⟨g,0,none⟩) n cap) (l.set a.toNat ⟨(jo l a).f0,(jo l a).f1,(jo l a).f2,c,(jo l a).f4⟩)∧W.grownBy (W.setCell ⟨g,a.toNat * 5+3,none⟩ (.int .i64 c)) (some g)∧W.cell? ⟨g,a.toNat * 5+3,none⟩=some (.int .i64 (jo l a).f3)∧W.frozen? ⟨g,a.toNat * 5+3,none⟩=false∧W.cell? ⟨g,a.toNat * 5,none⟩=some (.int .i64 (jo l a).f0):=by
 obtain ⟨ce,hcl,hM,hcc,hfr⟩:=Kd.R_elem h z90 a h0 h1
 obtain rfl:=k90_openM hM
 have HP:=Kd.R_seg h a h0 h1 (seg:=[.int .i64 c]) (j:=3) hcl hcc (show 3+1≤5 from by decide) (x':=(⟨(jo l a).f0,(jo l a).f1,(jo l a).f2,c,(jo l a).f4⟩:S90)) (k90_mkM _ _ _ (⟨(jo l a).f0,(jo l a).f1,(jo l a).f2,c,(jo l a).f4⟩:S90)) (fun _ hk=>hk)
 exact ⟨HP.1,HP.2,hcc 3 _ rfl,hfr 3,hcc 0 _ rfl⟩
set_option maxHeartbeats 8000000 in
set_option maxRecDepth 100000 in
theorem mh_raise (m : Nat) (ct cp vl : Value) (fst : Int) (A : Option Addr) (c : Nat) (H : List S90) (cl cd : Int) (ok : Nat → Prop) (b : Nat) (w : World)
  (hm:w.heap[m]?=some (.cells #[ct,cp,vl, .slice A H.length c, .int .i64 fst] 110 (0,0))) (hR:Kd.R k90 90 w b ok (.slice A H.length c) H) (hf:∀ k,w.heap.size≤k→ok k) (hb:b≤w.heap.size) (hl:H.length≤1000000000) :
  Calls Try.prog 103 #[.pointer (some ⟨m,3,none⟩), .int .i64 cl, .int .i64 cd] w fun e w'=>e=.returned (.int .i64 (H.length:Int))∧∃ A' c',w'.heap[m]?=some (.cells #[ct,cp,vl, .slice A' (H.length+1) c', .int .i64 fst] 110 (0,0))∧Kd.R k90 90 w' b ok (.slice A' (H.length+1) c') (H ++ [⟨cl,cd, -1, -1,false⟩])∧Kept w w' (fun k=>k=m∨some k=(Value.slice A H.length c).ownBlock)∧((Value.slice A' (H.length+1) c').ownBlock=(Value.slice A H.length c).ownBlock∨∃ q,(Value.slice A' (H.length+1) c').ownBlock=some q∧w.heap.size≤q)∧Below 0 w w':=by
 have hu53:=Try.underlying53
 have hu90:=Try.underlying90
 have hu110:=Try.underlying110
 have c3:w.cell? ⟨m,3,none⟩=some (.slice A H.length c):=(jh hm 3).trans rfl
 have f3:=jd hm 3
 have hmw:=jta hm
 have HM:=am hm
 have HR:=am hR
 have HF:=am hf
 have hwl:wrap64 ((H.length:Int)+1 - 1)=(H.length:Int):=by unfold wrap64;omega
 have hwl2:wrap64 (((H.length+1:Nat):Int) - 1)=(H.length:Int):=by unfold wrap64;omega
 clear hm hR hf
 go_enter Try.func103,Try.ntmps103
 go_wp2_with ((with_reducible refine jCb (b:=.append) (xs:=#[.tmp 11, .tmp 15]) rfl ?_);at_builtin;refine Kd.R_append k90 (w0:=w) b rfl (.tmp 11) (.tmp 15) 51 90 (.agg #[(.int .i64 0),(.int .i64 0),(.int .i64 0),(.int .i64 0),(.bool false)]) 40 rfl Try.underlying51 info90 rfl (by decide) (by omega) _ H (⟨cl,cd, -1, -1,false⟩:S90) [.int .i64 cl, .int .i64 cd, .int .i64 (-1), .int .i64 (-1), .bool false] ok (fun _=>False) rfl rfl ?aP (fun _ hk=>hk.elim) HF.out HR.out (Below.refl _ _) hb ?aL ?_;(case aP=>exact k90_mkM _ _ _ (⟨cl,cd, -1, -1,false⟩:S90));(case aL=>omega);intro v1 w1 ho hb1 hg hat;obtain ⟨A',c',e'⟩:=Kd.jja ho;rw [show (H ++ [(⟨cl,cd, -1, -1,false⟩:S90)]).length=H.length+1 by simp] at e';subst e';have n0_:=am (jla HM.out hg (Kd.R_ne HR.out HM.out (by decide)));have n1_:=am ho;have n2_:=am hg;have n3_:=am hat;have n4_:=am hb1;clear ho hb1 hg hat;have d3:w1.cell? ⟨m,3,none⟩=some (.slice A H.length c):=(jh n0_.out 3).trans rfl;have g3:=jd n0_.out 3)
 go_ret
 refine ⟨rfl,A',c',jO n0_.out 3 _ rfl,Kd.jub n1_.out n0_.out (by decide) 3 _,?_,n3_.out,(n4_.out.mono (Nat.zero_le _)).setCell (Nat.zero_le _) _⟩
 exact Kept.setCell (Kept.jOb n2_.out (Kept.refl _ _) (fun k e=>.inl (.inr e.symm))) (.inl (.inl rfl)) _
def jC.l0 : Nat → List Int → Int → Int → Int → Option (Int)
 | 0,_,_,_,_=>none
 | k+1,x0,x1,x7,x8=>if x8<x7 then (if 0≤x8 then (if x8<(x0.length:Int) then (if x1=(rd x0 x8) then (some x8) else (jC.l0 k x0 x1 x7 (wrap64 (x8+1)))) else (none)) else (none)) else (some (-1))
def jC.f (k : Nat) (l0 : List Int) (a1 : Int) : Option (Int) := jC.l0 k l0 a1 (l0.length : Int) 0
theorem jC.mono_l : ∀ k, (∀ y0 y1 y2 y3, LeO (jC.l0 k y0 y1 y2 y3) (jC.l0 (k + 1) y0 y1 y2 y3))
 | 0=>fun _ _ _ _ r h=>by simp [jC.l0] at h
 | k+1=>by
  have ih0:=jC.mono_l k
  ·intro y0 y1 y2 y3
   unfold jC.l0
   exact (Y124)
theorem jC.mono : ∀ a0 a1 k, LeO (jC.f k a0 a1) (jC.f (k + 1) a0 a1) := by
 intro a0 a1 k
 have ih0:=jC.mono_l k
 unfold jC.f
 exact (Y124)
set_option maxHeartbeats 8000000 in
set_option maxRecDepth 100000 in
theorem jC.calls (k : Nat) (A0 : Option Addr) (c0 : Nat) (l0 : List Int) (a1 : Int) (r : Int) (w : World) (hr0 : Kd.C (Kd.int .i64) w A0 l0.length l0) (hc0 : l0.length ≤ c0) (h : jC.f k l0 a1 = some r) :
  Calls Try.prog 117 #[.slice A0 l0.length c0, .int .i64 a1] w fun e w'=>e=.returned (.int .i64 r)∧jrb w w':=by
 have HR0:=am hr0
 have HC0:=am hc0
 clear hr0 hc0
 have H:(jC.l0 k l0 a1 (l0.length:Int) 0)=some r:=h
 clear h
 have H':=am H
 clear H
 go_enter Try.func117,Try.ntmps117
 go_wp2
 go_loopg [8] k (fun kq v8 w'=>∃ (x8_1:Int),v8=.int .i64 x8_1∧jv (jC.l0 kq l0 a1 (l0.length:Int) x8_1=some r)∧jv (kq≤k)∧jrb w w')
 case atStart=>exact ⟨(0),(sq),H',⟨Nat.le_refl _⟩,Y4⟩
 case round =>
  clear H'
  try clear c1
  try clear p2
  obtain ⟨x8_1,rfl,HA,HK1,⟨m1,rfl⟩⟩:=hrel
  cases gk with
  | zero=>exact absurd HA.out (by simp [jC.l0])
  | succ k1 =>
   have H:=HA.out
   clear HA
   simp only [jC.l0] at H
   by_cases c3:x8_1<(l0.length:Int)
   ·rw [if_pos c3] at H
    have c3b0:decide (x8_1<(l0.length:Int))=true:=dzT c3
    clear c3
    by_cases c4:0≤x8_1
    ·rw [if_pos c4] at H
     have c4b0:decide (0≤x8_1)=true:=dzT c4
     clear c4
     by_cases c5:x8_1<(l0.length:Int)
     ·rw [if_pos c5] at H
      have c5b0:decide (x8_1<(l0.length:Int))=true:=dzT c5
      clear c5
      by_cases c6:a1=(rd l0 x8_1)
      ·rw [if_pos c6] at H
       have c6b0:(a1 == (rd l0 x8_1))=true:=beq_iff_eq.mpr c6
       have c6b1:(a1 != (rd l0 x8_1))=false:=bne_eq_false_iff_eq.mpr c6
       clear c6
       obtain rfl:=Option.some.inj H
       have p254:0≤(x8_1:Int):=ozD (uq)
       have q254:x8_1<(l0.length:Int):=ozD (uq)
       obtain ⟨ad254,e254,hx254_0⟩:=Kd.jXb HR0.out x8_1 p254 q254
       cases e254
       replace p254:=ezT p254
       replace q254:=ezT q254
       go_wp2
       go_ret
       exact ⟨sq,Y4⟩
      ·rw [if_neg c6] at H
       have c6b0:(a1 == (rd l0 x8_1))=false:=beq_eq_false_iff_ne.mpr c6
       have c6b1:(a1 != (rd l0 x8_1))=true:=bne_iff_ne.mpr c6
       have H':=am H
       clear H
       have p254:0≤(x8_1:Int):=ozD (uq)
       have q254:x8_1<(l0.length:Int):=ozD (uq)
       obtain ⟨ad254,e254,hx254_0⟩:=Kd.jXb HR0.out x8_1 p254 q254
       cases e254
       replace p254:=ezT p254
       replace q254:=ezT q254
       go_wp2
       go_roundg k1
       case measure=>have:=HK1.out;omega
       case rel=>exact ⟨(wrap64 (x8_1+1)),(sq),H',⟨by have:=HK1.out;omega⟩,Y4⟩
     ·rw [if_neg c5] at H
      exact absurd H (by simp)
    ·rw [if_neg c4] at H
     exact absurd H (by simp)
   ·rw [if_neg c3] at H
    have c3b0:decide (x8_1<(l0.length:Int))=false:=dzF c3
    clear c3
    obtain rfl:=Option.some.inj H
    go_wp2
    go_ret
    exact ⟨sq,Y4⟩
def jS.f (k : Nat) (l0 : List Int) (a1 : Int) : Option (Bool) := (jC.f k l0 a1).bind fun t255 => (some (decide (t255 ≥ 0)))
theorem jS.mono : ∀ a0 a1 k, LeO (jS.f k a0 a1) (jS.f (k + 1) a0 a1) := by
 intro a0 a1 k
 unfold jS.f
 exact (by repeat' (first |(with_reducible exact jC.mono _ _ _) |(with_reducible exact LeO.refl _) |(with_reducible exact LeO.none _) |(with_reducible refine LeO.ite ?_ ?_) |(with_reducible refine LeO.bind ?_ (fun _=>?_)) | exact jC.mono _ _ _ | exact LeO.none _ | refine LeO.ite ?_ ?_ | refine LeO.bind ?_ (fun _=>?_)))
set_option maxHeartbeats 8000000 in
set_option maxRecDepth 100000 in
theorem jS.calls (k : Nat) (A0 : Option Addr) (c0 : Nat) (l0 : List Int) (a1 : Int) (r : Bool) (w : World) (hr0 : Kd.C (Kd.int .i64) w A0 l0.length l0) (hc0 : l0.length ≤ c0) (h : jS.f k l0 a1 = some r) :
  Calls Try.prog 106 #[.slice A0 l0.length c0, .int .i64 a1] w fun e w'=>e=.returned (.bool r)∧jrb w w':=by
 have HR0:=am hr0
 have HC0:=am hc0
 clear hr0 hc0
 have H:((jC.f k l0 a1).bind fun t255=>(some (decide (t255≥0))))=some r:=h
 clear h
 replace H:=bzS H
 obtain ⟨t255,A30,H⟩:=H
 replace H:(some (decide (t255≥0)))=some r:=H
 have A3:=am A30
 clear A30
 obtain rfl:=Option.some.inj H
 go_enter Try.func106,Try.ntmps106
 go_wp2_with (first |((with_reducible refine jy (f:=117) rfl ?_);refine gL (some 7) Try.func117 #[.slice A0 l0.length c0, .int .i64 a1] ?_;(with_reducible refine (jC.calls k _ _ l0 a1 t255 _ ?side1 ?side2 A3.out).mono ?_);(case side1=>exact Y125);(case side2=>exact HC0.out);rintro e w' ⟨rfl,⟨nd,rfl⟩⟩;refine ⟨_,rfl,?_⟩))
 go_ret
 exact ⟨sq,Y4⟩
def jUa.f (l0 : List Int) : Option (List Int) := some (l0)
set_option maxHeartbeats 8000000 in
set_option maxRecDepth 100000 in
theorem jUa.calls (P0_ : Nat → Prop) (u9000_ : Value) (l0 : List Int) (r : List Int) (w0 w : World) (hB : Below w0.heap.size w0 w) (ho0 : Kd.R (Kd.int .i64) 3 w w0.heap.size P0_ u9000_ l0) (h : jUa.f l0 = some r) :
  Calls Try.prog 111 #[u9000_] w fun e w'=>∃ v0_:Value,e=.returned (v0_)∧Kd.R (Kd.int .i64) 3 w' w0.heap.size (fun k_=>(P0_ k_∨w.heap.size≤k_)) v0_ r∧Below w0.heap.size w0 w'∧Kept w w' (fun k_=>P0_ k_):=by
 have HO0:=am (show Kd.R (Kd.int .i64) 3 w w0.heap.size (fun k_=>(P0_ k_∨w.heap.size≤k_)) u9000_ l0 from Kd.jD ho0 (fun k_ hk=>(.inl hk)))
 have HK:=am (Kept.refl w (fun k_=>P0_ k_))
 have HW0:=am hB.size
 have HB:=am hB
 clear hB
 have H:(some (l0))=some r:=h
 clear h
 obtain ⟨y256,hy256⟩:∃ y_:List Int,y_=(l0):=⟨_,rfl⟩
 replace H:(some y256)=some r:=by first |(rw [hy256];with_reducible exact H) |(have H2_:=(Option.bind_some _ _).symm.trans H;rw [hy256];with_reducible exact H2_) |(have H2_:=(Option.bind_some _ _).symm.trans H;with_reducible exact H2_) | with_reducible exact H |(rw [hy256];exact H) | exact H
 have Ny256:=am hy256
 clear hy256
 obtain rfl:=Option.some.inj H
 obtain ⟨Ao2,co2,eo2⟩:=Kd.jja HO0.out
 subst eo2
 obtain ⟨i03,hi03,_,hsz3,_⟩:=info_parts info3
 have hy3:y256.length=l0.length:=(by rw [Ny256.out])
 have hcut3:=cut_clip (P:=Try.prog) 45 3 Try.underlying45 hi03 Ao2 _ co2 _ (Kd.jE HO0.out).2.1 hy3
 have hr3:=Kd.R_clip HO0.out Ny256.out
 clear hy3 hi03 hsz3 HO0
 have HO258:=am hr3
 clear hr3
 go_enter Try.func111,Try.ntmps111
 go_wp2
 go_ret
 exact ⟨_,Y0,rq HO258.out,bq,Y85⟩

def jSb (nx : Int → Option Int) : Nat → Int → List Int → Option (List Int)
 | 0,_,_=>none
 | k+1,f,acc=>if f≥0 then ((jS.f k acc f).bind fun b=>if b=true then some acc else (if acc.length<17592186044416 then (nx f).bind fun g=>jSb nx k g (acc ++ [f]) else none)) else some acc
set_option maxHeartbeats 8000000 in
set_option maxRecDepth 100000 in
theorem impl_contexts_walk (k : Nat) (B0_ : Nat) (nx : Int → Option Int) (a0 : Int) (r : List Int) (w : World) (h : jSb nx k a0 [] = some r)
  (hp:∀ W,Below w.heap.size w W→∀ (x y:Int),nx x=some y→Calls Try.prog 120 #[.int .i64 x, .pointer (some ⟨B0_,0,none⟩)] W fun e w'=>e=.returned (.int .i64 y)∧Below W.heap.size W w') :
  Calls Try.prog 119 #[.int .i64 a0, .func (.func 120) #[] #[.pointer (some ⟨B0_,0,none⟩)]] w fun e w'=>∃ v0_:Value,e=.returned v0_∧Kd.R (Kd.int .i64) 3 w' w.heap.size (fun _=>True) v0_ r∧Below w.heap.size w w':=by
 have HP:=am hp
 have H0:=am h
 have HB:=am (Below.refl w.heap.size w)
 clear hp h
 go_enter Try.func119,Try.ntmps119
 go_wp2_with ((with_reducible refine jP (N:=6) rfl ?_);refine Kd.R_lit (Kd.int .i64) _ 3 ?hg (N:=6) ?hd (xs:=([]:List Int)) (inner:=[]) (ok:=fun _=>True) (okp:=fun _=>True) ?hr ?hp (fun _ hk=>hk) trivial (Below.refl _ _) (Nat.le_refl _) (by simp) ?_;(case hd=>rfl);(case hg=>rfl);(case hr=>exact Y2);(case hp=>exact (Reps.none _ _));intro v111 w4 ho5 hb hg_ hnew_;clear hg_ hnew_;have n0_:=am (Kd.jua ho5 (jY (bq)));have n2_:=am (jk (bq) hb);clear HB;have HO:=n0_;have HB:=n2_;clear n0_ n2_ hb ho5)
 go_loopg [0,5] k (fun kq v0 v5 w'=>∃ (x:Int) (acc:List Int),v0=.int .i64 x∧jv (jSb nx kq x acc=some r)∧jv (kq≤k)∧jv (Kd.R (Kd.int .i64) 3 w' w.heap.size (fun _=>True) v5 acc)∧jv (Below w.heap.size w w'))
 case atStart=>exact ⟨a0,[],(sq),H0,⟨Nat.le_refl _⟩,⟨rq HO.out⟩,⟨bq⟩⟩
 case round =>
  clear H0 HO HB
  obtain ⟨x,acc,rfl,HA,HK1,HO,HB⟩:=hrel
  cases gk with
  | zero=>exact absurd HA.out (by simp [jSb])
  | succ k1 =>
   have H:=HA.out
   clear HA
   simp only [jSb] at H
   obtain ⟨Ao,co,eo⟩:=Kd.jja HO.out
   subst eo
   by_cases c6:x≥0
   ·rw [if_pos c6] at H
    have c6b0:decide (0≤x)=true:=dzT c6
    clear c6
    obtain ⟨b,A70,H⟩:=bzS H
    have A7:=am A70
    clear A70
    cases b with
    | true =>
     rw [if_pos rfl] at H
     obtain rfl:=Option.some.inj H
     clear H
     go_wp2_with (first |(go_at_call 106;(with_reducible refine (jS.calls k1 _ _ acc x true _ ?side1 ?side2 A7.out).mono ?_);(case side1=>exact cq (Kd.jE HO.out).2.2);(case side2=>exact (Kd.jE HO.out).2.1);rintro e w' ⟨rfl,⟨nd,rfl⟩⟩) |(go_at_call 111;refine (jUa.calls (fun _=>True) _ acc acc w _ (bq) (rq HO.out) (show jUa.f acc=some acc from rfl)).mono ?_;rintro e w9 ⟨v9,rfl,hR9,hB9,hK9⟩))
     go_ret
     exact ⟨_,rfl,Kd.jD hR9 (fun _ _=>trivial),hB9⟩
    | false =>
     rw [if_neg (by simp)] at H
     by_cases c10:acc.length<17592186044416
     ·rw [if_pos c10] at H
      have LM:=am c10
      clear c10
      obtain ⟨y,hy,H⟩:=bzS H
      have HQ:=am hy
      have H':=am H
      clear H hy
      go_wp2_with (first |(go_at_call 106;(with_reducible refine (jS.calls k1 _ _ acc x false _ ?side1 ?side2 A7.out).mono ?_);(case side1=>exact cq (Kd.jE HO.out).2.2);(case side2=>exact (Kd.jE HO.out).2.1);rintro e w' ⟨rfl,⟨nd,rfl⟩⟩) |(go_at_call 120;refine (HP.out _ (bq) _ _ HQ.out).mono ?_;rintro e w2 ⟨rfl,hb2⟩;have n1_:=am (Kd.jM (rq HO.out) hb2);have n2_:=am (jk (bq) hb2);clear HO HB;have HO:=n1_;have HB:=n2_;clear n1_ n2_ hb2) |((with_reducible refine jCb (b:=.append) (xs:=#[.tmp 18, .tmp 20]) rfl ?_);at_builtin;refine Kd.R_append (Kd.int .i64) (w0:=w) w.heap.size rfl (.tmp 18) (.tmp 20) 45 3 (.int .i64 0) 8 rfl Try.underlying45 info3 rfl (by decide) (by omega) (.slice Ao acc.length co) acc x [.int .i64 x] (fun _=>True) (fun _=>False) rfl rfl ?aP (fun _ hk=>hk.elim) ?aF ?aO ?aB ?aS ?aL ?_;(case aP=>exact rfl);(case aB=>exact (bq));(case aF=>exact (fun _ _=>trivial));(case aO=>exact (rq HO.out));(case aS=>exact (jY (bq)));(case aL=>have:=LM.out;omega);intro v115 w14 ho hb hg hat;have n1_:=am (hb);have n2_:=am (ho);clear HB HO;have HB:=n1_;have HO:=n2_;clear n1_ n2_ ho hb hg hat))
      go_roundg k1
      case measure=>have:=HK1.out;omega
      case rel=>exact ⟨y,acc ++ [x],(sq),H',⟨by have:=HK1.out;omega⟩,⟨rq HO.out⟩,⟨bq⟩⟩
     ·rw [if_neg c10] at H
      cases H
   ·rw [if_neg c6] at H
    have c6b0:decide (0≤x)=false:=dzF c6
    clear c6
    obtain rfl:=Option.some.inj H
    clear H
    go_wp2_with (go_at_call 111;refine (jUa.calls (fun _=>True) _ acc acc w _ (bq) (rq HO.out) (show jUa.f acc=some acc from rfl)).mono ?_;rintro e w9 ⟨v9,rfl,hR9,hB9,hK9⟩)
    go_ret
    exact ⟨_,rfl,Kd.jD hR9 (fun _ _=>trivial),hB9⟩
def ctxF (h : List S90) (g : Int) : Option Int := if 0 ≤ g then if g < (h.length : Int) then some (jo h g).f3 else none else none
theorem impl_contexts1_calls (A_ : Option Addr) (c_ : Nat) (l : List S90) (x y : Int) (B0 : Nat) (w : World) (hr : Kd.C k90 w A_ l.length l) (hc : w.cell? ⟨B0, 0, none⟩ = some (.slice A_ l.length c_)) (h : ctxF l x = some y) :
  Calls Try.prog 120 #[.int .i64 x, .pointer (some ⟨B0,0,none⟩)] w fun e w'=>e=.returned (.int .i64 y)∧Below w.heap.size w w':=by
 unfold ctxF at h
 by_cases h0:0≤x
 ·rw [if_pos h0] at h
  by_cases h1:x<(l.length:Int)
  ·rw [if_pos h1] at h
   obtain ⟨ad,rfl,hx0,hx1,hx2,hx3,hx4⟩:=at_T90 hr x h0 h1
   have HY:=am (Option.some.inj h)
   have HB:=am (Below.refl w.heap.size w)
   clear h hr
   have p0:=ezT h0
   have p1:=ezT h1
   have hu53:=Try.underlying53
   go_enter Try.func120,Try.ntmps120
   go_wp2
   go_ret
   exact ⟨by rw [← HY.out];rfl,bq⟩
  ·rw [if_neg h1] at h;cases h
 ·rw [if_neg h0] at h;cases h
def jCa.f (k : Nat) (l0_0 : List S90) (a1 : Int) : Option (List Int) := jSb (ctxF l0_0) k a1 []
theorem hp_cell_new (w : World) (v : Value) (t : TypeId) : (w.alloc (.cells #[v] t)).cell? ⟨w.heap.size, 0, none⟩ = some v := by simp
set_option maxHeartbeats 8000000 in
set_option maxRecDepth 100000 in
theorem jCa.calls (k : Nat) (A0_0 : Option Addr) (c0_0 : Nat) (l0_0 : List (S90)) (a1 : Int) (r : List Int) (w : World) (hr0_0 : Kd.C k90 w A0_0 l0_0.length l0_0) (hc0_0 : l0_0.length ≤ c0_0) (h : jCa.f k l0_0 a1 = some r) :
  Calls Try.prog 114 #[.agg #[.slice A0_0 l0_0.length c0_0], .int .i64 a1] w fun e w'=>∃ v0_:Value,e=.returned (v0_)∧Kd.R (Kd.int .i64) 3 w' w.heap.size (fun _=>True) v0_ r∧Below w.heap.size w w':=by
 have hu53:=Try.underlying53
 have B3:=am ((Below.refl w.heap.size w).alloc (Nat.le_refl _) (.cells #[.slice A0_0 l0_0.length c0_0] 53))
 have KC:=am (hp_cell_new w (.slice A0_0 l0_0.length c0_0) 53)
 have HF:=am (fun W (hb:Below w.heap.size w W) (B0:Nat) (hc:W.cell? ⟨B0,0,none⟩=some (.slice A0_0 l0_0.length c0_0))=>impl_contexts_walk k B0 (ctxF l0_0) a1 r W h (fun W' hb' x y hx =>
  impl_contexts1_calls A0_0 c0_0 l0_0 x y B0 W' (Kd.jka (Kd.jka hr0_0 hb) hb') (jia hb' hc) hx))
 clear h hr0_0
 go_enter Try.func114,Try.ntmps114
 go_wp2_with (go_at_call 119;refine (HF.out _ B3.out _ KC.out).mono ?_;rintro e w2 ⟨v2,rfl,hr2,hb3⟩)
 go_ret
 exact ⟨_,rfl,Kd.jua hr2 B3.out.size,job B3.out B3.out.size hb3⟩
set_option maxHeartbeats 8000000 in
set_option maxRecDepth 100000 in
theorem mh_while (k m : Nat) (ct cp vl : Value) (fst : Int) (A : Option Addr) (c : Nat) (H : List S90) (f g : Int) (L : List Int) (ok : Nat → Prop) (b : Nat) (w : World)
  (hm:w.heap[m]?=some (.cells #[ct,cp,vl, .slice A H.length c, .int .i64 fst] 110 (0,0))) (hR:Kd.R k90 90 w b ok (.slice A H.length c) H) (hb:b≤w.heap.size) (hl:H.length≤2000000000) (hL:jCa.f k H g=some L) (hLl:L.length≤2000000000) (hne:f≠g) (h0:0≤f) (h1:f<(H.length:Int)) (hall:∀ i:Nat,i<L.length→0≤rd L (i:Int)∧rd L (i:Int)<(H.length:Int)∧(jo H (rd L (i:Int))).f3≠f) :
  Calls Try.prog 104 #[.pointer (some ⟨m,3,none⟩), .int .i64 f, .int .i64 g] w fun e w'=>(∃ v,e=.returned v)∧w'.heap[m]?=some (.cells #[ct,cp,vl, .slice A H.length c, .int .i64 fst] 110 (0,0))∧Kd.R k90 90 w' b ok (.slice A H.length c) (H.set f.toNat ⟨(jo H f).f0,(jo H f).f1,(jo H f).f2,g,(jo H f).f4⟩)∧Kept w w' (fun k=>some k=(Value.slice A H.length c).ownBlock)∧Below 0 w w':=by
 have hu53:=Try.underlying53
 have hu90:=Try.underlying90
 have hu110:=Try.underlying110
 obtain ⟨gg,cp2,e1,hbg,hgw,cells,hgc⟩:=Kd.R_form hR (by omega)
 injection e1 with e1 e2 e3
 subst e1 e3
 have HC:=am (jCa.calls k (some ⟨gg,0,none⟩) c H g L w (Kd.jE hR).2.2 (Kd.jE hR).2.1 hL)
 have c3:w.cell? ⟨m,3,none⟩=some (.slice (some ⟨gg,0,none⟩) H.length c):=(jh hm 3).trans rfl
 have hmw:=jta hm
 have HM:=am hm
 have HR:=am hR
 have HG:=am (blk_ne hgc hm (by decide))
 have HA:=am hall
 have p0:=ezT h0
 have p1:=ezT h1
 have efg:(f == g)=false:=by simpa using hne
 clear hm hR hL e2 hall hgc hne
 go_enter Try.func104,Try.ntmps104
 go_wp2_with (go_at_call 114;refine HC.out.mono ?_;rintro e w1 ⟨v1,rfl,hR1,hb1⟩;clear HC;obtain ⟨Ao,co,eo⟩:=Kd.jja hR1;subst eo;have m1:=je HM.out hb1;have HR1:=am (Kd.jM HR.out hb1);have HV:=am hR1;have HM1:=am m1;have HB1:=am hb1;have d3:w1.cell? ⟨m,3,none⟩=some (.slice (some ⟨gg,0,none⟩) H.length c):=(jh m1 3).trans rfl;clear hR1 m1 c3 hb1)
 go_loopw [17] (fun v17 wr=>∃ i:Nat,i≤L.length∧v17=.int .i64 i∧wr=w1) (fun v17 _=>L.length - (intOf v17).toNat)
 case atStart=>exact ⟨0,Nat.zero_le _,rfl,rfl⟩
 case round =>
  obtain ⟨i,hi,rfl,rfl⟩:=hrel
  by_cases hlt:i<L.length
  ·obtain ⟨x0,x1,x2⟩:=HA.out i hlt
   obtain ⟨adl,rfl,hz⟩:=Kd.jXb (Kd.jE HV.out).2.2 (i:Int) (by omega) (by omega)
   rw [Int.toNat_natCast] at hz
   obtain ⟨x,hx⟩:∃ x,rd L (i:Int)=x:=⟨_,rfl⟩
   rw [hx] at hz x0 x1 x2
   clear hx
   obtain ⟨_,_,k3,_⟩:=mh_st3 HR1.out x0 x1 0
   have q0:=ezT x0
   have q1:=ezT x1
   have efx:((jo H x).f3 == f)=false:=by simpa using x2
   have hlb:=ezT (show (i:Int)<(L.length:Int) by omega)
   clear x2
   go_wp2
   go_roundw
   case rel=>exact ⟨i+1,hlt,by go_num,by first | trivial | rfl⟩
   case measure=>simp [intOf];omega
  ·obtain rfl:i=L.length:=by omega
   have hlb:=eq_false (show ¬ ((L.length:Int)<(L.length:Int)) by omega)
   obtain ⟨R1,G1,k3,f3,_⟩:=mh_st3 HR1.out h0 h1 g
   have HRf:=am R1
   have HGf:=am G1
   clear R1 G1
   go_wp2
   go_end0
   exact ⟨⟨_,rfl⟩,jla HM1.out HGf.out (fun e=>HG.out (by injection e with e;exact e.symm)),HRf.out,Kept.jOb HGf.out (Kept.of_below HB1.out _) (fun k e=>.inl (by simpa [Value.ownBlock] using e.symm)),(HB1.out.mono (Nat.zero_le _)).setCell (Nat.zero_le _) _⟩
def mR (k : Nat) (H : List S90) (cl cd h : Int) : Option (List S90) :=
 if H.length≤1000000000 then (if 0≤h then (jCa.f k (H ++ [⟨cl,cd, -1, -1,false⟩]) h).bind fun L=>if (decide (L.length≤2000000000) && (decide (h≠(H.length:Int)) && L.all fun x=>decide (0≤x) && (decide (x<((H.length+1:Nat):Int)) && decide ((jo (H ++ [⟨cl,cd, -1, -1,false⟩]) x).f3≠(H.length:Int)))))=true then some (H ++ [⟨cl,cd, -1,h,false⟩]) else none
  else some (H ++ [⟨cl,cd, -1, -1,false⟩])) else none
theorem mR_len {k : Nat} {H H' : List S90} {cl cd h : Int} (e : mR k H cl cd h = some H') : H'.length = H.length + 1 ∧ H.length ≤ 1000000000 := by
 unfold mR at e
 split at e
 ·split at e
  ·obtain ⟨L,_,e⟩:=bzS e
   split at e
   ·obtain rfl:=Option.some.inj e;exact ⟨by simp,by assumption⟩
   ·cases e
  ·obtain rfl:=Option.some.inj e;exact ⟨by simp,by assumption⟩
 ·cases e
theorem mR_set (H : List S90) (cl cd h : Int) : (H ++ [(⟨cl, cd, -1, -1, false⟩ : S90)]).set ((H.length : Int)).toNat ⟨(jo (H ++ [⟨cl, cd, -1, -1, false⟩]) (H.length : Int)).f0, (jo (H ++ [⟨cl, cd, -1, -1, false⟩]) (H.length : Int)).f1, (jo (H ++ [⟨cl, cd, -1, -1, false⟩]) (H.length : Int)).f2, h, (jo (H ++ [⟨cl, cd, -1, -1, false⟩]) (H.length : Int)).f4⟩ = H ++ [⟨cl, cd, -1, h, false⟩] := by
 have e:jo (H ++ [(⟨cl,cd, -1, -1,false⟩:S90)]) (H.length:Int)=⟨cl,cd, -1, -1,false⟩:=by simp [jo,List.getD_eq_getElem?_getD]
 rw [e,Int.toNat_natCast,List.set_append_right _ _ (Nat.le_refl _),Nat.sub_self]
 rfl
theorem mh_while_n (k m : Nat) (ct cp vl : Value) (fst : Int) (A : Option Addr) (c n : Nat) (H : List S90) (f g : Int) (L : List Int) (ok : Nat → Prop) (b : Nat) (w : World) (hn : H.length = n)
  (hm:w.heap[m]?=some (.cells #[ct,cp,vl, .slice A n c, .int .i64 fst] 110 (0,0))) (hR:Kd.R k90 90 w b ok (.slice A n c) H) (hb:b≤w.heap.size) (hl:n≤2000000000) (hL:jCa.f k H g=some L) (hLl:L.length≤2000000000) (hne:f≠g) (h0:0≤f) (h1:f<(n:Int)) (hall:∀ i:Nat,i<L.length→0≤rd L (i:Int)∧rd L (i:Int)<(n:Int)∧(jo H (rd L (i:Int))).f3≠f) :
  Calls Try.prog 104 #[.pointer (some ⟨m,3,none⟩), .int .i64 f, .int .i64 g] w fun e w'=>(∃ v,e=.returned v)∧w'.heap[m]?=some (.cells #[ct,cp,vl, .slice A n c, .int .i64 fst] 110 (0,0))∧Kd.R k90 90 w' b ok (.slice A n c) (H.set f.toNat ⟨(jo H f).f0,(jo H f).f1,(jo H f).f2,g,(jo H f).f4⟩)∧Kept w w' (fun k=>some k=(Value.slice A n c).ownBlock)∧Below 0 w w':=by
 subst hn
 exact mh_while k m ct cp vl fst A c H f g L ok b w hm hR hb hl hL hLl hne h0 h1 hall
theorem mR_inv {k : Nat} {H H' : List S90} {cl cd h : Int} (h0 : 0 ≤ h) (e : mR k H cl cd h = some H') : H' = H ++ [⟨cl, cd, -1, h, false⟩] ∧ ∃ L, jCa.f k (H ++ [⟨cl, cd, -1, -1, false⟩]) h = some L ∧ L.length ≤ 2000000000 ∧ (H.length : Int) ≠ h ∧ ∀ i : Nat, i < L.length → 0 ≤ rd L (i : Int) ∧ rd L (i : Int) < ((H.length + 1 : Nat) : Int) ∧ (jo (H ++ [⟨cl, cd, -1, -1, false⟩]) (rd L (i : Int))).f3 ≠ (H.length : Int) := by
 unfold mR at e
 by_cases hl:H.length≤1000000000
 ·rw [if_pos hl,if_pos h0] at e
  obtain ⟨L,hL,e⟩:=bzS e
  split at e
  ·rename_i hc
   simp only [Bool.and_eq_true,List.all_eq_true,decide_eq_true_eq] at hc
   refine ⟨(Option.some.inj e).symm,L,hL,hc.1,fun e=>hc.2.1 e.symm,fun i hi=>?_⟩
   have hr:rd L (i:Int)=L[i]:=by simp [rd,List.getD_eq_getElem?_getD,hi]
   rw [hr]
   exact hc.2.2 _ (List.getElem_mem hi)
  ·cases e
 ·rw [if_neg hl] at e;cases e
set_option maxHeartbeats 8000000 in
set_option maxRecDepth 100000 in
theorem mm_raise (k m : Nat) (ct cp vl : Value) (fst : Int) (A : Option Addr) (c n : Nat) (H H' : List S90) (cl cd h : Int) (ok : Nat → Prop) (b : Nat) (w : World) (hn : H.length = n)
  (hm:w.heap[m]?=some (.cells #[ct,cp,vl, .slice A n c, .int .i64 fst] 110 (0,0))) (hR:Kd.R k90 90 w b ok (.slice A n c) H) (hf:∀ k,w.heap.size≤k→ok k) (hb:b≤w.heap.size) (hr:mR k H cl cd h=some H') :
  Calls Try.prog 72 #[.pointer (some ⟨m,0,none⟩), .int .i64 cl, .int .i64 cd, .int .i64 h] w fun e w'=>e=.returned (.int .i64 (n:Int))∧∃ A' c',w'.heap[m]?=some (.cells #[ct,cp,vl, .slice A' (n+1) c', .int .i64 fst] 110 (0,0))∧Kd.R k90 90 w' b ok (.slice A' (n+1) c') H'∧Kept w w' (fun k=>k=m∨some k=(Value.slice A n c).ownBlock)∧Below 0 w w':=by
 subst hn
 have hu53:=Try.underlying53
 have hu90:=Try.underlying90
 have hu110:=Try.underlying110
 have hl:=(mR_len hr).2
 have HRS:=am (mh_raise m ct cp vl fst A c H cl cd ok b w hm hR hf hb hl)
 by_cases h0:0≤h
 ·obtain ⟨rfl,L,hL,hLl,hne,hall⟩:=mR_inv h0 hr
  have HWH:=am (fun (A':Option Addr) (c':Nat) (W:World) (hm':W.heap[m]?=some (.cells #[ct,cp,vl, .slice A' (H.length+1) c', .int .i64 fst] 110 (0,0))) (hR':Kd.R k90 90 W b ok (.slice A' (H.length+1) c') (H ++ [⟨cl,cd, -1, -1,false⟩])) (hb':b≤W.heap.size)=>mh_while_n k m ct cp vl fst A' c' (H.length+1) (H ++ [⟨cl,cd, -1, -1,false⟩]) (H.length:Int) h L ok b W (by simp) hm' hR' hb' (by omega) hL hLl hne (by omega) (by omega) hall)
  have p0:=dzT h0
  have HB:=am hb
  clear hr hL hall hne hm hR hf
  go_enter Try.func72,Try.ntmps72
  go_wp2_with (first |(go_at_call 103;refine HRS.out.mono ?_;rintro e w1 ⟨rfl,A',c',hm1,hR1,hK1,ho1,hb1⟩;clear HRS;have n0_:=am hm1;have n1_:=am hR1;have n2_:=am hK1;have n3_:=am ho1;have n4_:=am hb1;clear hm1 hR1 hK1 ho1 hb1) |(go_at_call 104;refine (HWH.out A' c' _ n0_.out n1_.out (Nat.le_trans HB.out n2_.out.1)).mono ?_;rintro e w2 ⟨⟨v,rfl⟩,hm2,hR2,hK2,hb2⟩;clear HWH;have m0_:=am hm2;have m1_:=am hR2;have m2_:=am hK2;have m3_:=am hb2;clear hm2 hR2 hK2 hb2))
  go_ret
  refine ⟨rfl,A',c',m0_.out,by have:=m1_.out;rw [mR_set] at this;exact this,n2_.out.then_ m2_.out (fun q hq=>?_),n4_.out.trans m3_.out⟩
  rcases n3_.out with e | ⟨q',e,hq'⟩
  ·exact .inl (.inr (hq.trans e))
  ·rw [e] at hq;injection hq with hq;subst hq;exact .inr hq'
 ·have e:H'=H ++ [⟨cl,cd, -1, -1,false⟩]:=by
   unfold mR at hr
   rw [if_pos hl,if_neg h0] at hr
   exact (Option.some.inj hr).symm
  subst e
  have p0:=dzF h0
  clear hr hm hR hf
  go_enter Try.func72,Try.ntmps72
  go_wp2_with (go_at_call 103;refine HRS.out.mono ?_;rintro e w1 ⟨rfl,A',c',hm1,hR1,hK1,ho1,hb1⟩;clear HRS;have n0_:=am hm1;have n1_:=am hR1;have n2_:=am hK1;have n4_:=am hb1;clear hm1 hR1 hK1 ho1 hb1)
  go_ret
  exact ⟨rfl,A',c',n0_.out,n1_.out,n2_.out,n4_.out⟩

def jaa.l0 : Nat → Int → List Int → List (S106) → Option (List Int)
 | 0,_,_,_=>none
 | k+1,x1,x5,x260000=>if x1≥0 then (if x5.length<17592186044416 then (if 0≤x1 then (if x1<(x260000.length:Int) then (jaa.l0 k ((jQ x260000 x1).f1) (x5 ++ [x1]) x260000) else (none)) else (none)) else (none)) else (some (x5))
def jaa.f (k : Nat) (l0_0 : List (S106)) (a1 : Int) : Option (List Int) := if 0 ≤ (l0_0.length : Int) then (if ((l0_0.length : Int) : Int).toNat ≤ 35184372088832 then (jaa.l0 k a1 (([] : List Int)) l0_0) else (none)) else (none)
theorem jaa.mono_l : ∀ k, (∀ y0 y1 y2, LeO (jaa.l0 k y0 y1 y2) (jaa.l0 (k + 1) y0 y1 y2))
 | 0=>fun _ _ _ r h=>by simp [jaa.l0] at h
 | k+1=>by
  have ih0:=jaa.mono_l k
  ·intro y0 y1 y2
   unfold jaa.l0
   exact (Y126)
theorem jaa.mono : ∀ a0 a1 k, LeO (jaa.f k a0 a1) (jaa.f (k + 1) a0 a1) := by
 intro a0 a1 k
 have ih0:=jaa.mono_l k
 unfold jaa.f
 exact (Y126)
set_option maxHeartbeats 8000000 in
set_option maxRecDepth 100000 in
theorem jaa.calls (k : Nat) (A0_0 : Option Addr) (c0_0 : Nat) (l0_0 : List (S106)) (a1 : Int) (r : List Int) (w : World) (hr0_0 : Kd.C k106 w A0_0 l0_0.length l0_0) (hc0_0 : l0_0.length ≤ c0_0) (h : jaa.f k l0_0 a1 = some r) :
  Calls Try.prog 60 #[.agg #[.slice A0_0 l0_0.length c0_0], .int .i64 a1] w fun e w'=>∃ v0_:Value,e=.returned (v0_)∧Kd.R (Kd.int .i64) 3 w' w.heap.size (fun _=>True) v0_ r∧Below w.heap.size w w':=by
 have hu31:=Try.underlying31
 have HR0_0:=am hr0_0
 have HC0_0:=am hc0_0
 clear hr0_0 hc0_0
 have HB:=am (Below.refl w.heap.size w)
 have H:(if 0≤(l0_0.length:Int) then (if ((l0_0.length:Int):Int).toNat≤35184372088832 then (jaa.l0 k a1 (([]:List Int)) l0_0) else (none)) else (none))=some r:=h
 clear h
 by_cases c3:0≤(l0_0.length:Int)
 ·rw [if_pos c3] at H
  have c3b0:=ezT c3
  have c3b1:decide (0≤(l0_0.length:Int))=true:=dzT c3
  clear c3
  by_cases c4:((l0_0.length:Int):Int).toNat≤35184372088832
  ·rw [if_pos c4] at H
   have c4b0:=ezT c4
   have c4b1:decide (((l0_0.length:Int):Int).toNat≤35184372088832)=true:=dzT c4
   clear c4
   obtain ⟨y260,hy260⟩:∃ y_:List Int,y_=(([]:List Int)):=⟨_,rfl⟩
   replace H:(jaa.l0 k a1 y260 l0_0)=some r:=by first |(rw [hy260];with_reducible exact H) |(have H2_:=(Option.bind_some _ _).symm.trans H;rw [hy260];with_reducible exact H2_) |(have H2_:=(Option.bind_some _ _).symm.trans H;with_reducible exact H2_) | with_reducible exact H |(rw [hy260];exact H) | exact H
   have Ny260:=am hy260
   clear hy260
   have H':=am H
   clear H
   go_enter Try.func60,Try.ntmps60
   go_wp2_with (first |((with_reducible refine jP (N:=2) rfl ?_);refine bE (N:=2) (cs:=#[.slice A0_0 l0_0.length c0_0]) (t:=31) ?_;intro gb259 hg w5 hbox hb;have BK259:=am (hbox);have GW259:=am ((Y3:w.heap.size≤gb259));have GE259:=am ((Y3:w.heap.size≤gb259));replace HB:=am (jk (bq) hb);clear hb hbox hg;have hcz6_0:=bc0 BK259.out;have hfz6_0:=jd BK259.out 0) |((with_reducible refine jP (N:=9) rfl ?_);refine Kd.R_mkcap (Kd.int .i64) _ 3 rfl (N:=9) rfl 45 _ _ rfl (l0_0.length:Int) rfl rfl Try.underlying45 (.int .i64 0) 8 info3 rfl (by decide) (by omega) (ok:=fun _=>True) trivial (ozD (uq)) (Nat.le_trans (Nat.mul_le_mul_right _ (ozD (uq):(l0_0.length:Int).toNat≤35184372088832)) (by omega)) (Below.refl _ _) (Nat.le_refl _) ?_;intro v261 w7 ho8 hb hg_ hnew_;clear hg_ hnew_;(first | rw [← Ny260.out] at ho8 |(simp only [Int.reduceToNat] at ho8;rw [← Ny260.out] at ho8));have HO262:=am (Kd.jua ho8 (jY (Y49)));replace BK259:=am (je (g:=gb259) (o:=.cells #[.slice A0_0 l0_0.length c0_0] 31 (0,0)) (kq BK259.out) hb);replace HB:=am (jk (Y49) hb);clear hb ho8))
   go_loopg [1,5] k (fun kq v1 v5 w'=>∃ (x1_1:Int) (x5_1:List Int),v1=.int .i64 x1_1∧jv (jaa.l0 kq x1_1 x5_1 l0_0=some r)∧jv (kq≤k)∧jv (Kd.R (Kd.int .i64) 3 w' w.heap.size (fun _=>True) v5 x5_1)∧jv (w'.heap[gb259]?=some (.cells #[(.slice A0_0 l0_0.length c0_0)] 31 (0,0)))∧jv (Below w.heap.size w w'))
   case atStart=>exact ⟨(a1),(y260),(sq),H',⟨Nat.le_refl _⟩,⟨rq HO262.out⟩,⟨kq BK259.out⟩,⟨Y49⟩⟩
   case round =>
    clear H'
    try clear p2
    try clear c3
    try clear c3b0
    try clear c3b1
    try clear c4
    try clear c4b0
    try clear c4b1
    try clear c6
    try clear hcz6_0
    try clear hfz6_0
    obtain ⟨x1_1,x5_1,rfl,HA,HK1,HO_5,BK259,HB⟩:=hrel
    cases gk with
    | zero=>exact absurd HA.out (by simp [jaa.l0])
    | succ k1 =>
     have H:=HA.out
     clear HA
     simp only [jaa.l0] at H
     by_cases c9:x1_1≥0
     ·rw [if_pos c9] at H
      have c9b0:decide (0≤x1_1)=true:=dzT c9
      clear c9
      by_cases c10:x5_1.length<17592186044416
      ·rw [if_pos c10] at H
       have LMc10:=am c10
       clear c10
       obtain ⟨y263,hy263⟩:∃ y_:List Int,y_=(x5_1 ++ [x1_1]):=⟨_,rfl⟩
       replace H:(if 0≤x1_1 then (if x1_1<(l0_0.length:Int) then (jaa.l0 k1 ((jQ l0_0 x1_1).f1) y263 l0_0) else (none)) else (none))=some r:=by first |(rw [hy263];with_reducible exact H) |(have H2_:=(Option.bind_some _ _).symm.trans H;rw [hy263];with_reducible exact H2_) |(have H2_:=(Option.bind_some _ _).symm.trans H;with_reducible exact H2_) | with_reducible exact H |(rw [hy263];exact H) | exact H
       have Ny263:=am hy263
       clear hy263
       by_cases c11:0≤x1_1
       ·rw [if_pos c11] at H
        have c11b0:decide (0≤x1_1)=true:=dzT c11
        clear c11
        by_cases c12:x1_1<(l0_0.length:Int)
        ·rw [if_pos c12] at H
         have c12b0:decide (x1_1<(l0_0.length:Int))=true:=dzT c12
         clear c12
         have H':=am H
         clear H
         go_wp2_with (first |((with_reducible refine jCb (b:=.append) (xs:=#[.tmp 18, .tmp 20]) rfl ?_);at_builtin;refine Kd.R_append (Kd.int .i64) (w0:=w) w.heap.size rfl (.tmp 18) (.tmp 20) 45 3 (.int .i64 0) 8 rfl Try.underlying45 info3 rfl (by decide) (by omega) u5 x5_1 x1_1 [.int .i64 x1_1] (fun _=>True) (fun _=>False) rfl rfl ?aP (fun _ hk=>hk.elim) ?aF ?aO ?aB ?aS ?aL ?_;(case aP=>exact rfl);(case aB=>exact (Y49));(case aF=>exact (fun _ _=>trivial));(case aO=>exact (rq HO_5.out));(case aS=>exact (jY (Y49)));(case aL=>have:=LMc10.out;omega);intro v264 w13 ho hb hg hat;rw [← Ny263.out] at ho;have n0_:=am (jla (g:=gb259) (o:=.cells #[.slice A0_0 l0_0.length c0_0] 31 (0,0)) (kq BK259.out) hg (Kd.R_ne HO_5.out BK259.out (by decide)));have n1_:=am (hb);have n2_:=am (ho);clear BK259 HB HO_5;have BK259:=n0_;have HB:=n1_;have HO265:=n2_;clear n0_ n1_ n2_ ho hb hg hat;have hcz14_0:=bc0 BK259.out;have hfz14_0:=jd BK259.out 0;have p266:0≤(x1_1:Int):=ozD (uq);have q266:x1_1<(l0_0.length:Int):=ozD (uq);obtain ⟨ad266,e266,hx266_0,hx266_1⟩:=at_T106 HR0_0.out x1_1 p266 q266;cases e266;replace hx266_0:=cb HB.out hx266_0;replace hx266_1:=cb HB.out hx266_1;replace p266:=ezT p266;replace q266:=ezT q266))
         go_roundg k1
         case measure=>have:=HK1.out;omega
         case rel=>exact ⟨((jQ l0_0 x1_1).f1),(y263),(sq),H',⟨by have:=HK1.out;omega⟩,⟨rq HO265.out⟩,⟨kq BK259.out⟩,⟨Y49⟩⟩
        ·rw [if_neg c12] at H
         exact absurd H (by simp)
       ·rw [if_neg c11] at H
        exact absurd H (by simp)
      ·rw [if_neg c10] at H
       exact absurd H (by simp)
     ·rw [if_neg c9] at H
      have c9b0:decide (0≤x1_1)=false:=dzF c9
      clear c9
      obtain ⟨y267,hy267⟩:∃ y_:List Int,y_=(x5_1):=⟨_,rfl⟩
      replace H:(some y267)=some r:=by first |(rw [hy267];with_reducible exact H) |(have H2_:=(Option.bind_some _ _).symm.trans H;rw [hy267];with_reducible exact H2_) |(have H2_:=(Option.bind_some _ _).symm.trans H;with_reducible exact H2_) | with_reducible exact H |(rw [hy267];exact H) | exact H
      have Ny267:=am hy267
      clear hy267
      obtain rfl:=Option.some.inj H
      obtain ⟨Ao15,co15,eo15⟩:=Kd.jja HO_5.out
      subst eo15
      obtain ⟨i016,hi016,_,hsz16,_⟩:=info_parts info3
      have hy16:y267.length=x5_1.length:=(by rw [Ny267.out])
      have hcut16:=cut_clip (P:=Try.prog) 45 3 Try.underlying45 hi016 Ao15 _ co15 _ (Kd.jE HO_5.out).2.1 hy16
      have hr16:=Kd.R_clip HO_5.out Ny267.out
      clear hy16 hi016 hsz16 HO_5
      have HO269:=am hr16
      clear hr16
      go_wp2
      go_ret
      exact ⟨_,Y0,rq HO269.out,Y49⟩
  ·rw [if_neg c4] at H
   exact absurd H (by simp)
 ·rw [if_neg c3] at H
  exact absurd H (by simp)
def jQa.f (k : Nat) (l0_0 : List (S106)) (a1 : Int) (a2 : Int) : Option (Bool) := (jaa.f k l0_0 a1).bind fun t271 => ((jS.f k t271 a2).bind fun t274 => (some t274))
theorem jQa.mono : ∀ a0 a1 a2 k, LeO (jQa.f k a0 a1 a2) (jQa.f (k + 1) a0 a1 a2) := by
 intro a0 a1 a2 k
 unfold jQa.f
 exact (by repeat' (first |(with_reducible exact jaa.mono _ _ _) |(with_reducible exact jS.mono _ _ _) |(with_reducible exact LeO.refl _) |(with_reducible exact LeO.none _) |(with_reducible refine LeO.ite ?_ ?_) |(with_reducible refine LeO.bind ?_ (fun _=>?_)) | exact jaa.mono _ _ _ | exact jS.mono _ _ _ | exact LeO.none _ | refine LeO.ite ?_ ?_ | refine LeO.bind ?_ (fun _=>?_)))
set_option maxHeartbeats 8000000 in
set_option maxRecDepth 100000 in
theorem jQa.calls (k : Nat) (A0_0 : Option Addr) (c0_0 : Nat) (l0_0 : List (S106)) (a1 : Int) (a2 : Int) (r : Bool) (w : World) (hr0_0 : Kd.C k106 w A0_0 l0_0.length l0_0) (hc0_0 : l0_0.length ≤ c0_0) (h : jQa.f k l0_0 a1 a2 = some r) :
  Calls Try.prog 74 #[.agg #[.slice A0_0 l0_0.length c0_0], .int .i64 a1, .int .i64 a2] w fun e w'=>e=.returned (.bool r)∧Below w.heap.size w w':=by
 have hu31:=Try.underlying31
 have HR0_0:=am hr0_0
 have HC0_0:=am hc0_0
 clear hr0_0 hc0_0
 have HB:=am (Below.refl w.heap.size w)
 have H:((jaa.f k l0_0 a1).bind fun t271=>((jS.f k t271 a2).bind fun t274=>(some t274)))=some r:=h
 clear h
 replace H:=bzS H
 obtain ⟨t271,A40,H⟩:=H
 replace H:((jS.f k t271 a2).bind fun t274=>(some t274))=some r:=H
 have A4:=am A40
 clear A40
 replace H:=bzS H
 obtain ⟨t274,A50,H⟩:=H
 replace H:(some t274)=some r:=H
 have A5:=am A50
 clear A50
 obtain rfl:=Option.some.inj H
 go_enter Try.func74,Try.ntmps74
 go_wp2_with (first |((with_reducible refine jP (N:=3) rfl ?_);refine bE (N:=3) (cs:=#[.slice A0_0 l0_0.length c0_0]) (t:=31) ?_;intro gb270 hg w6 hbox hb;have BK270:=am (hbox);have GW270:=am ((Y3:w.heap.size≤gb270));have GE270:=am ((Y3:w.heap.size≤gb270));replace HB:=am (jk (bq) hb);clear hb hbox hg;have hcz7_0:=bc0 BK270.out;have hfz7_0:=jd BK270.out 0) |((with_reducible refine jy (f:=60) rfl ?_);refine gL (some 9) Try.func60 #[.agg #[.slice A0_0 l0_0.length c0_0], .int .i64 a1] ?_;(with_reducible refine (jaa.calls k _ _ l0_0 a1 t271 _ ?side1 ?side2 A4.out).mono ?_);(case side1=>exact cq (Kd.jka HR0_0.out HB.out));(case side2=>exact HC0_0.out);rintro e w8 ⟨v272,rfl,ho0,hb⟩;refine ⟨_,rfl,?_⟩;have HO273:=am (Kd.jua ho0 (jY (Y99)));replace BK270:=am (je (g:=gb270) (o:=.cells #[.slice A0_0 l0_0.length c0_0] 31 (0,0)) (kq BK270.out) hb);replace HB:=am (jk (Y99) hb);(try clear hb);(try clear hb2);(try clear hk);(try clear hi);(try clear ho0);obtain ⟨Ao9,co9,eo9⟩:=Kd.jja HO273.out;subst eo9) |((with_reducible refine jy (f:=106) rfl ?_);refine gL (some 11) Try.func106 #[.slice Ao9 t271.length co9, .int .i64 a2] ?_;(with_reducible refine (jS.calls k _ _ t271 a2 t274 _ ?side1 ?side2 A5.out).mono ?_);(case side1=>exact cq (Kd.jE HO273.out).2.2);(case side2=>exact (Kd.jE HO273.out).2.1);rintro e w' ⟨rfl,⟨nd,rfl⟩⟩;refine ⟨_,rfl,?_⟩))
 go_ret
 exact ⟨Y0,Y99⟩
end Go.Proofs.Ytlhfcmbkjddgiaa.P
end
