/- One part of the proofs on this program: functions of the program as plain functions, that the code comes to them, and facts on them. -/
import Derived.Test.YtlhfcmbkjddgiaaYAll1
import Derived.Test.YtlhfcmbkjddgiaaYAll3
import Derived.Test.YtlhfcmbkjddgiaaYWAuto
section
namespace Go.Proofs.Ytlhfcmbkjddgiaa.P
open Go.RowKit Go.Proofs.YtlhfcmbkjddgiaaW.PrintWords Go.Proofs.YtlhfcmbkjddgiaaW.PrintLast Go.Proofs.YtlhfcmbkjddgiaaW.PrintMore
attribute [local go_sem] jX jV jka jja jN jM jW jU jh
set_option linter.unusedVariables false
set_option linter.unusedSimpArgs false
def jia.f (k : Nat) (s0_0 : List Int) (s0_1 : Int) : Option ((List (S106)) × Int) := (jR.f k s0_0 s0_1).bind fun bt384 => ((jr.f k s0_0 bt384.2 (bt384.1.length : Int)).bind fun bt389 => ((jr.f k s0_0 bt389.2 24).bind fun bt391 => (if bt391.1 = 0 then ((jWa.f k s0_0 bt391.2 (([(⟨#[]⟩ : ByteArray), (⟨#[97, 110, 121]⟩ : ByteArray), (⟨#[65]⟩ : ByteArray), (⟨#[116, 111, 111, 108, 111, 110, 103]⟩ : ByteArray)] : List ByteArray))).bind fun bt396 => (if 0 ≤ bt389.1 then (if bt389.1 < (bt384.1.length : Int) then (some ((bt384.1.set (bt389.1 : Int).toNat (⟨bt396.1, (jH bt384.1 bt389.1).f1⟩ : S106)), bt396.2)) else (none)) else (none))) else (if bt391.1 = 1 then ((jB.f k s0_0 bt391.2 (([bt389.1, (-1), 8, (-2)] : List Int))).bind fun bt402 => (if 0 ≤ bt389.1 then (if bt389.1 < (bt384.1.length : Int) then (some ((bt384.1.set (bt389.1 : Int).toNat (⟨(jH bt384.1 bt389.1).f0, bt402.1⟩ : S106)), bt402.2)) else (none)) else (none))) else (if bt391.1 = 2 then (some (([] : List (S106)), bt391.2)) else (some (bt384.1, bt391.2)))))))
def jia.T5 : Bool × List (List Nat × List Nat) := (true, [([], []), ([0], [0]), ([], []), ([], []), ([], []), ([3, 4], [3, 4]), ([1, 2, 0, 1, 2, 3, 4, 5], [1, 2]), ([6, 0, 1, 2, 3, 4, 5], [6]), ([7, 5, 5, 0, 1, 2, 3, 4, 5], [5, 7])])
def jia.B5 : List Nat := [0, 1, 0, 0, 0, 24, 63, 127, 255]
theorem jia.tab5 : rtab .any (opsOf Try.f76 5) = jia.T5 := by kernel_rfl
theorem jia.bits5 : jpc jia.T5.2 jia.B5 = true := by kernel_rfl
def jia.T7 : Bool × List (List Nat × List Nat) := (true, [([], []), ([0], [0]), ([], []), ([], []), ([], []), ([4], [4]), ([3, 5], [3, 5]), ([1, 2, 0, 1, 2, 3, 4, 5, 6], [1, 2]), ([7, 0, 1, 2, 3, 4, 5, 6], [7]), ([8, 6, 6, 0, 1, 2, 3, 4, 5, 6], [6, 8])])
def jia.B7 : List Nat := [0, 1, 0, 0, 0, 16, 56, 127, 255, 511]
theorem jia.tab7 : rtab .any (opsOf Try.f76 7) = jia.T7 := by kernel_rfl
theorem jia.bits7 : jpc jia.T7.2 jia.B7 = true := by kernel_rfl
set_option maxHeartbeats 8000000 in
set_option maxRecDepth 100000 in
theorem jia.calls (k : Nat) (g : Nat) (s0_0 : List Int) (s0_1 : Int) (r1 : List (S106)) (r2 : Int) (w0 w : World) (hI : je w0 w g s0_0 s0_1) (hB : Below w0.heap.size w0 w) (h : jia.f k s0_0 s0_1 = some (r1, r2)) :
  Calls Try.prog 76 #[.pointer (some ⟨g,0,none⟩)] w fun e w'=>∃ v0_:Value,e=.returned (.agg #[v0_])∧Kd.R k106 106 w' w.heap.size (fun _=>True) v0_ r1∧je w0 w' g s0_0 r2∧Below w0.heap.size w0 w'∧jk w w' g none:=by
 have hu31:=Try.underlying31
 have HI0:=am hI
 have HK:=am (jk.refl w g none)
 have HL:=am hB.size
 clear hI
 have HW0:=am hB.size
 have HB:=am hB
 clear hB
 have H:((jR.f k s0_0 s0_1).bind fun bt384=>((jr.f k s0_0 bt384.2 (bt384.1.length:Int)).bind fun bt389=>((jr.f k s0_0 bt389.2 24).bind fun bt391=>(if bt391.1=0 then ((jWa.f k s0_0 bt391.2 (([(⟨#[]⟩:ByteArray),(⟨#[97,110,121]⟩:ByteArray),(⟨#[65]⟩:ByteArray),(⟨#[116,111,111,108,111,110,103]⟩:ByteArray)]:List ByteArray))).bind fun bt396=>(if 0≤bt389.1 then (if bt389.1<(bt384.1.length:Int) then (some ((bt384.1.set (bt389.1:Int).toNat (⟨bt396.1,(jH bt384.1 bt389.1).f1⟩:S106)),bt396.2)) else (none)) else (none))) else (if bt391.1=1 then ((jB.f k s0_0 bt391.2 (([bt389.1,(-1),8,(-2)]:List Int))).bind fun bt402=>(if 0≤bt389.1 then (if bt389.1<(bt384.1.length:Int) then (some ((bt384.1.set (bt389.1:Int).toNat (⟨(jH bt384.1 bt389.1).f0,bt402.1⟩:S106)),bt402.2)) else (none)) else (none))) else (if bt391.1=2 then (some (([]:List (S106)),bt391.2)) else (some (bt384.1,bt391.2))))))))=some (r1,r2):=h
 clear h
 replace H:=bzS H
 obtain ⟨⟨t384,t387⟩,A20,H⟩:=H
 replace H:((jr.f k s0_0 t387 (t384.length:Int)).bind fun bt389=>((jr.f k s0_0 bt389.2 24).bind fun bt391=>(if bt391.1=0 then ((jWa.f k s0_0 bt391.2 (([(⟨#[]⟩:ByteArray),(⟨#[97,110,121]⟩:ByteArray),(⟨#[65]⟩:ByteArray),(⟨#[116,111,111,108,111,110,103]⟩:ByteArray)]:List ByteArray))).bind fun bt396=>(if 0≤bt389.1 then (if bt389.1<(t384.length:Int) then (some ((t384.set (bt389.1:Int).toNat (⟨bt396.1,(jH t384 bt389.1).f1⟩:S106)),bt396.2)) else (none)) else (none))) else (if bt391.1=1 then ((jB.f k s0_0 bt391.2 (([bt389.1,(-1),8,(-2)]:List Int))).bind fun bt402=>(if 0≤bt389.1 then (if bt389.1<(t384.length:Int) then (some ((t384.set (bt389.1:Int).toNat (⟨(jH t384 bt389.1).f0,bt402.1⟩:S106)),bt402.2)) else (none)) else (none))) else (if bt391.1=2 then (some (([]:List (S106)),bt391.2)) else (some (t384,bt391.2)))))))=some (r1,r2):=H
 have A2:=am A20
 clear A20
 replace H:=bzS H
 obtain ⟨⟨t389,t390⟩,A30,H⟩:=H
 replace H:((jr.f k s0_0 t390 24).bind fun bt391=>(if bt391.1=0 then ((jWa.f k s0_0 bt391.2 (([(⟨#[]⟩:ByteArray),(⟨#[97,110,121]⟩:ByteArray),(⟨#[65]⟩:ByteArray),(⟨#[116,111,111,108,111,110,103]⟩:ByteArray)]:List ByteArray))).bind fun bt396=>(if 0≤t389 then (if t389<(t384.length:Int) then (some ((t384.set (t389:Int).toNat (⟨bt396.1,(jH t384 t389).f1⟩:S106)),bt396.2)) else (none)) else (none))) else (if bt391.1=1 then ((jB.f k s0_0 bt391.2 (([t389,(-1),8,(-2)]:List Int))).bind fun bt402=>(if 0≤t389 then (if t389<(t384.length:Int) then (some ((t384.set (t389:Int).toNat (⟨(jH t384 t389).f0,bt402.1⟩:S106)),bt402.2)) else (none)) else (none))) else (if bt391.1=2 then (some (([]:List (S106)),bt391.2)) else (some (t384,bt391.2))))))=some (r1,r2):=H
 have A3:=am A30
 clear A30
 replace H:=bzS H
 obtain ⟨⟨t391,t392⟩,A40,H⟩:=H
 replace H:(if t391=0 then ((jWa.f k s0_0 t392 (([(⟨#[]⟩:ByteArray),(⟨#[97,110,121]⟩:ByteArray),(⟨#[65]⟩:ByteArray),(⟨#[116,111,111,108,111,110,103]⟩:ByteArray)]:List ByteArray))).bind fun bt396=>(if 0≤t389 then (if t389<(t384.length:Int) then (some ((t384.set (t389:Int).toNat (⟨bt396.1,(jH t384 t389).f1⟩:S106)),bt396.2)) else (none)) else (none))) else (if t391=1 then ((jB.f k s0_0 t392 (([t389,(-1),8,(-2)]:List Int))).bind fun bt402=>(if 0≤t389 then (if t389<(t384.length:Int) then (some ((t384.set (t389:Int).toNat (⟨(jH t384 t389).f0,bt402.1⟩:S106)),bt402.2)) else (none)) else (none))) else (if t391=2 then (some (([]:List (S106)),t392)) else (some (t384,t392)))))=some (r1,r2):=H
 have A4:=am A40
 clear A40
 by_cases c5:t391=0
 ·rw [if_pos c5] at H
  have c5b0:(t391 == 0)=true:=beq_iff_eq.mpr c5
  have c5b1:(t391 != 0)=false:=bne_eq_false_iff_eq.mpr c5
  clear c5
  obtain ⟨y393,hy393⟩:∃ y_:List ByteArray,y_=(([(⟨#[]⟩:ByteArray),(⟨#[97,110,121]⟩:ByteArray),(⟨#[65]⟩:ByteArray),(⟨#[116,111,111,108,111,110,103]⟩:ByteArray)]:List ByteArray)):=⟨_,rfl⟩
  replace H:((jWa.f k s0_0 t392 y393).bind fun bt396=>(if 0≤t389 then (if t389<(t384.length:Int) then (some ((t384.set (t389:Int).toNat (⟨bt396.1,(jH t384 t389).f1⟩:S106)),bt396.2)) else (none)) else (none)))=some (r1,r2):=by first |(rw [hy393];with_reducible exact H) |(have H2_:=(Option.bind_some _ _).symm.trans H;rw [hy393];with_reducible exact H2_) |(have H2_:=(Option.bind_some _ _).symm.trans H;with_reducible exact H2_) | with_reducible exact H |(rw [hy393];exact H) | exact H
  have Ny393:=am hy393
  clear hy393
  replace H:=bzS H
  obtain ⟨⟨t396,t397⟩,A60,H⟩:=H
  replace H:(if 0≤t389 then (if t389<(t384.length:Int) then (some ((t384.set (t389:Int).toNat (⟨t396,(jH t384 t389).f1⟩:S106)),t397)) else (none)) else (none))=some (r1,r2):=H
  have A6:=am A60
  clear A60
  by_cases c7:0≤t389
  ·rw [if_pos c7] at H
   have c7b0:decide (0≤t389)=true:=dzT c7
   clear c7
   by_cases c8:t389<(t384.length:Int)
   ·rw [if_pos c8] at H
    have c8b0:decide (t389<(t384.length:Int))=true:=dzT c8
    clear c8
    obtain ⟨y398,hy398⟩:∃ y_:List (S106),y_=(t384.set (t389:Int).toNat (⟨t396,(jH t384 t389).f1⟩:S106)):=⟨_,rfl⟩
    replace H:(some (y398,t397))=some (r1,r2):=by first |(rw [hy398];with_reducible exact H) |(have H2_:=(Option.bind_some _ _).symm.trans H;rw [hy398];with_reducible exact H2_) |(have H2_:=(Option.bind_some _ _).symm.trans H;with_reducible exact H2_) | with_reducible exact H |(rw [hy398];exact H) | exact H
    have Ny398:=am hy398
    clear hy398
    simp only [Option.some.injEq,Prod.mk.injEq] at H
    obtain ⟨rfl,rfl⟩:=H
    go_enter Try.func76,Try.ntmps76
    try go_wp2_with (first |((with_reducible refine jG (N:=2) rfl ?_);refine bE (N:=2) (cs:=#[.slice none 0 0]) (t:=31) ?_;intro gb383 hg w10 hbox hb;have BK383:=am (hbox);have GW383:=am ((Y7:w.heap.size≤gb383));have GE383:=am ((Nat.le_trans HW0.out (Y7:w.heap.size≤gb383):w0.heap.size≤gb383));have NB0_383:=am ((Y23:g≠gb383));have NB383_0:=am ((Y24:gb383≠g));replace HK:=am (jk.trans (Y11) (jk.of_below hb g none) (.inl rfl));replace HB:=am (jg (Y12) hb);replace HI0:=am (je.below (Y10) hb);clear hb hbox hg) |((with_reducible refine jo (f:=107) rfl ?_);refine gL (some 6) Try.func107 #[.pointer (some ⟨g,0,none⟩)] ?_;(with_reducible refine (jR.calls k g s0_0 s0_1 t384 t387 w0 _ ?side1 ?side2 A2.out).mono ?_);(case side1=>exact Y45);(case side2=>exact Y46);rintro e w11 ⟨v385,rfl,ho0,hi,hb,hk⟩;refine ⟨_,rfl,?_⟩;have HO386:=am (Kd.jpa ho0 (jya (w:=w) (g:=g) (row:=none) (Y27)));replace BK383:=am (jk.blk hk (g':=gb383) (o:=.cells #[.slice none 0 0] 31 (0,0)) (kq BK383.out) NB383_0.out (by simp));replace HK:=am (jk.trans (Y27) hk (.inl rfl));replace HB:=am (hb);replace HI0:=am (hi);(try clear hb);(try clear hb2);(try clear hk);(try clear hi);(try clear ho0)) |((with_reducible refine jG (N:=3) rfl ?_);refine bE (N:=3) (cs:=#[.slice none 0 0]) (t:=31) ?_;intro gb388 hg w12 hbox hb;have BK388:=am (hbox);have GW388:=am ((Y47:w.heap.size≤gb388));have GE388:=am ((Nat.le_trans HW0.out (Y47:w.heap.size≤gb388):w0.heap.size≤gb388));have NB383_388:=am ((Y70:gb383≠gb388));have NB388_383:=am ((Y71:gb388≠gb383));have NB0_388:=am ((Y72:g≠gb388));have NB388_0:=am ((Y73:gb388≠g));replace HO386:=am (Kd.jaa (rq HO386.out) hb);replace BK383:=am (jc (g:=gb383) (o:=.cells #[.slice none 0 0] 31 (0,0)) (kq BK383.out) hb);replace HK:=am (jk.trans (Y27) (jk.of_below hb g none) (.inl rfl));replace HB:=am (jg (Y46) hb);replace HI0:=am (je.below (Y45) hb);clear hb hbox hg;obtain ⟨Ao13,co13,eo13⟩:=Kd.jga HO386.out;subst eo13;have hnb14:=NB388_383.out;have hnc14:=NB383_388.out;have hnb15:=NB388_0.out;have hnc15:=NB0_388.out;have hcz16_0:=bc0 BK388.out;have hfz16_0:=ja BK388.out 0) |((with_reducible refine jo (f:=47) rfl ?_);refine gL (some 11) Try.func47 #[.pointer (some ⟨g,0,none⟩), .int .i64 (t384.length:Int)] ?_;(with_reducible refine (jr.calls k g s0_0 t387 (t384.length:Int) t389 t390 w0 _ ?side1 ?side2 A3.out).mono ?_);(case side1=>exact Y6);(case side2=>exact Y15);rintro e w17 ⟨rfl,hi,hb,hk⟩;refine ⟨_,rfl,?_⟩;replace BK383:=am (jk.blk hk (g':=gb383) (o:=.cells #[.slice none 0 0] 31 (0,0)) (Y74) NB383_0.out (by simp));replace HO386:=am (Kd.jJ (Kd.jIa (je.apart (show je w0 _ g s0_0 t387 from Y6) (by (with_reducible repeat (first | apply Kd.jda | apply Kd.jfa | apply Kd.jma));exact (Kd.jJ (Kd.joa (p:=⟨gb388,0,none⟩) (Kd.jna HO386.out BK388.out (by decide)) (fun _ hk=>hk.2) (.slice Ao13 t384.length co13)) (fun _ h_=>h_.1))) (by decide)) hk (fun _ h=>h.2)) (fun _ h=>h.1));replace BK388:=am (jk.blk hk (g':=gb388) (o:=.cells #[.slice Ao13 t384.length co13] 31 (0,0)) (Y75) NB388_0.out (by simp));replace HK:=am (jk.trans (Y13) hk (.inl rfl));replace HB:=am (hb);replace HI0:=am (hi);(try clear hb);(try clear hb2);(try clear hk);(try clear hi)) |((with_reducible refine jo (f:=47) rfl ?_);refine gL (some 13) Try.func47 #[.pointer (some ⟨g,0,none⟩), .int .i64 24] ?_;(with_reducible refine (jr.calls k g s0_0 t390 24 t391 t392 w0 _ ?side1 ?side2 A4.out).mono ?_);(case side1=>exact Y6);(case side2=>exact Y15);rintro e w18 ⟨rfl,hi,hb,hk⟩;refine ⟨_,rfl,?_⟩;replace BK383:=am (jk.blk hk (g':=gb383) (o:=.cells #[.slice none 0 0] 31 (0,0)) (kq BK383.out) NB383_0.out (by simp));replace HO386:=am (Kd.jJ (Kd.jIa (je.apart (show je w0 _ g s0_0 t390 from Y6) (rq HO386.out) (by decide)) hk (fun _ h=>h.2)) (fun _ h=>h.1));replace BK388:=am (jk.blk hk (g':=gb388) (o:=.cells #[.slice Ao13 t384.length co13] 31 (0,0)) (kq BK388.out) NB388_0.out (by simp));replace HK:=am (jk.trans (Y13) hk (.inl rfl));replace HB:=am (hb);replace HI0:=am (hi);(try clear hb);(try clear hb2);(try clear hk);(try clear hi)))
    replace HO386:=am (Kd.jma HO386.out)
    replace BK383:=am (jf BK383.out)
    replace BK388:=am (jf BK388.out)
    replace HI0:=am (je.drew HI0.out)
    replace HK:=am (jTa HK.out)
    replace HB:=am (jD HB.out)
    refine start_ (n:=9) (S:=fun w'=>w'.cell? ⟨gb388,0,none⟩=some (.slice Ao13 t384.length co13)) (ds:=[8]) #[false,false,false,false,false,false,false,false,false] (by kernel_rfl) rfl rfl ((jw BK388.out 0).trans rfl) (fun hHeld=>?_);refine jXb jia.tab5 jia.bits5 (fun HT_ HW_=>?_)
    generalize w18.drew=w19 at HO386 BK383 BK388 HI0 HK HB hHeld ⊢
    refine pq (i:=0) (N:=some 16) #[true,false,false,false,false,false,false,false,false] ?_
    refine pq (i:=2) (N:=some 18) #[true,false,true,false,false,false,false,false,false] ?_
    refine pq (i:=3) (N:=some 19) #[true,false,true,true,false,false,false,false,false] ?_
    refine jYb (i:=1) (N:=some 17) (v:=?_) (a':=?_) #[true,true,true,true,false,false,false,false,false] rfl rfl (jFb HT_.out HW_.out (by kernel_rfl)) (fun _ _ _ h=>h) (Or.inl ⟨by rfl,?_⟩) hHeld ?_ ?_
    rotate_left
    ·intro w' s0
     go_simp
     with_reducible rfl
    rotate_left
    ·exact sa
    refine one_ (i:=4) (N:=some 20) #[true,true,true,true,true,false,false,false,false] rfl rfl (jRb HT_.out (by kernel_rfl)) (by decide) (fun K hK=>?_)
    refine Kd.R_lit_step Kd.string _ 9 ?hg (N:=20) ?hd (xs:=([(⟨#[]⟩:ByteArray),(⟨#[97,110,121]⟩:ByteArray),(⟨#[65]⟩:ByteArray),(⟨#[116,111,111,108,111,110,103]⟩:ByteArray)]:List ByteArray)) (inner:=[.string (⟨#[]⟩:ByteArray), .string (⟨#[97,110,121]⟩:ByteArray), .string (⟨#[65]⟩:ByteArray), .string (⟨#[116,111,111,108,111,110,103]⟩:ByteArray)]) (ok:=fun _=>True) (okp:=fun _=>True) ?hr ?hp (fun _ hk=>hk) trivial (Below.refl _ _) (Nat.le_refl _) (by simp) ?_;(case hd=>rfl);(case hg=>rfl);(case hr=>exact Y3);(case hp=>exact (Reps.one (show Kd.M Kd.string _ _ _ (⟨#[]⟩:ByteArray) [.string (⟨#[]⟩:ByteArray)] from rfl) (Reps.one (show Kd.M Kd.string _ _ _ (⟨#[97,110,121]⟩:ByteArray) [.string (⟨#[97,110,121]⟩:ByteArray)] from rfl) (Reps.one (show Kd.M Kd.string _ _ _ (⟨#[65]⟩:ByteArray) [.string (⟨#[65]⟩:ByteArray)] from rfl) (Reps.one (show Kd.M Kd.string _ _ _ (⟨#[116,111,111,108,111,110,103]⟩:ByteArray) [.string (⟨#[116,111,111,108,111,110,103]⟩:ByteArray)] from rfl) (Reps.none _ _))))))
    intro v394 w20 ho21 hb hg_ hnew_
    clear hg_ hnew_
    (first | rw [← Ny393.out] at ho21 |(simp only [Int.reduceToNat] at ho21;rw [← Ny393.out] at ho21))
    have HO395:=am (Kd.jpa ho21 (jya (w:=w) (g:=g) (row:=none) (Y13)))
    replace HO386:=am (Kd.jaa (rq HO386.out) hb)
    replace BK383:=am (jc (g:=gb383) (o:=.cells #[.slice none 0 0] 31 (0,0)) (kq BK383.out) hb)
    replace BK388:=am (jc (g:=gb388) (o:=.cells #[.slice Ao13 t384.length co13] 31 (0,0)) (kq BK388.out) hb)
    replace HK:=am (jk.trans (Y13) (jk.of_below hb g none) (.inl rfl))
    replace HB:=am (jg (Y15) hb)
    replace HI0:=am (je.below (Y6) hb)
    clear hb ho21
    obtain ⟨Ao22,co22,eo22⟩:=Kd.jga HO395.out
    (first | subst eo22 |(injection eo22 with f1_ f2_ f3_;have f4_:=f1_.symm;have f5_:=f3_.symm;clear f1_ f2_ f3_;subst f4_;subst f5_))
    refine hK.out _ _ ((jw BK388.out 0).trans rfl) (fun hHeld=>?_)
    clear hK K
    refine norm_ (a':=?_) ?_ ?_
    rotate_left
    ·show Act.put _ (some 20) _=_
     simp only [Act.put,List.setIfInBounds_toArray,List.set_cons_zero,List.set_cons_succ,jHb,jLb]
     rfl
    refine one_ (i:=5) (N:=some 21) #[true,true,true,true,true,true,false,false,false] rfl rfl (jRb HT_.out (by kernel_rfl)) (by decide) (fun K hK=>?_)
    refine goes_ Try.func108 (by kernel_rfl) rfl #[.pointer (some ⟨g,0,none⟩), .slice Ao22 y393.length co22] (by rfl) rfl rfl (aq) ?_
    with_reducible refine (jWa.calls k g s0_0 t392 _ _ y393 t396 t397 w0 _ ?side1 ?side2 ?side3 ?side4 ?side5 A6.out).mono ?_
    (case side1=>exact Y6)
    (case side2=>exact Y15)
    (case side3=>exact cq (Kd.jC HO395.out).2.2)
    (case side4=>exact (Kd.jC HO395.out).2.1)
    (case side5=>exact jIb (je.own_ne HI0.out HO395.out (by decide)))
    rintro e w23 ⟨rfl,hi,hb,hk⟩
    refine ⟨_,rfl,?_⟩
    replace BK383:=am (jk.blk hk (g':=gb383) (o:=.cells #[.slice none 0 0] 31 (0,0)) (kq BK383.out) NB383_0.out (by simp))
    replace HO386:=am (Kd.jJ (Kd.jIa (je.apart (show je w0 _ g s0_0 t392 from Y6) (rq HO386.out) (by decide)) hk (fun _ h=>h.2)) (fun _ h=>h.1))
    replace BK388:=am (jk.blk hk (g':=gb388) (o:=.cells #[.slice Ao13 t384.length co13] 31 (0,0)) (kq BK388.out) NB388_0.out (by simp))
    replace HO395:=am (Kd.jJ (Kd.jIa (je.apart (show je w0 _ g s0_0 t392 from Y6) (rq HO395.out) (by decide)) hk (fun _ h=>h.2)) (fun _ h=>h.1))
    replace HK:=am (jk.trans (Y13) hk (.inl rfl))
    replace HB:=am (hb)
    replace HI0:=am (hi)
    (try clear hb)
    (try clear hb2)
    (try clear hk)
    (try clear hi)
    have p9:0≤(t389:Int):=ozD (uq)
    have q9:(t389:Int)<((t384.length:Int):Int):=ozD (uq)
    obtain ⟨go9,co9,eo9,gb9,gl9,cl9,HG9⟩:=Kd.R_form HO386.out (by omega)
    (first | cases eo9 |(injection eo9 with ea_ en_ ec_;(first | subst ea_ |(injection ea_ with ea_;subst ea_));subst ec_;clear en_))
    have GB9:=am gb9
    have GG9:=am HG9
    clear gb9 gl9 HG9
    obtain ⟨ce9,hcl9,hM9,hcc9,hfr9⟩:=Kd.R_elem HO386.out z106 (t389:Int) p9 q9
    obtain rfl:=k106_openM hM9
    have hx9_0:World.cell? _ ⟨go9,(t389:Int).toNat * 2,none⟩=some (.string ((jH t384 t389).f0)):=hcc9 0 _ rfl
    have hx9_1:World.cell? _ ⟨go9,(t389:Int).toNat * 2+1,none⟩=some (.int .i64 ((jH t384 t389).f1)):=hcc9 1 _ rfl
    have hf9_0:World.frozen? _ ⟨go9,(t389:Int).toNat * 2,none⟩=false:=hfr9 0
    have hf9_1:World.frozen? _ ⟨go9,(t389:Int).toNat * 2+1,none⟩=false:=hfr9 1
    clear hcl9 hcc9 hfr9 hM9
    replace p9:=ezT p9
    replace q9:=ezT q9
    have HN0_go9:=am (show g≠go9 from by have h_:=je.own_ne HI0.out HO386.out (by decide);intro e_;exact h_ (by rw [e_];rfl))
    obtain ⟨ce24,hcl24,hM24,hcc24,hfr24⟩:=Kd.R_elem HO386.out z106 (t389:Int) (ozD (uq)) (by have h_:(t389:Int)<((t384.length:Int):Int):=ozD (uq);first | exact h_ |(have e_:=(Kd.jC HO386.out).1;omega) | simpa using h_)
    obtain rfl:=k106_openM hM24
    have HP24:=(Kd.R_seg HO386.out (t389:Int) (ozD (uq)) (by have h_:(t389:Int)<((t384.length:Int):Int):=ozD (uq);first | exact h_ |(have e_:=(Kd.jC HO386.out).1;omega) | simpa using h_) (seg:=[.string t396]) (j:=0) hcl24 hcc24 (show 1≤2 from by decide) (x':=(⟨t396,(jH t384 t389).f1⟩:S106)) (k106_mkM _ _ _ (⟨t396,(jH t384 t389).f1⟩:S106) ) (fun _ hk=>hk)).1
    rw [← Ny398.out] at HP24
    have HQ24:=am HP24
    clear hcl24 hcc24 hfr24 hM24 HP24
    refine hK.out _ _ ((jw BK388.out 0).trans rfl) (fun hHeld=>?_)
    clear hK K
    refine norm_ (a':=?_) ?_ ?_
    rotate_left
    ·show Act.put _ (some 21) _=_
     simp only [Act.put,List.setIfInBounds_toArray,List.set_cons_zero,List.set_cons_succ,jHb,jLb]
     rfl
    refine pq (i:=6) (N:=some 22) #[true,true,true,true,true,true,true,false,false] ?_
    refine pq (i:=7) (N:=some 23) #[true,true,true,true,true,true,true,true,false] ?_
    refine last_ (i:=8) (N:=none) #[true,true,true,true,true,true,true,true,true] rfl rfl (jRb HT_.out (by kernel_rfl)) (by decide) (fun K hK=>?_)
    refine skip_ (w1:=?_) (by rfl) rfl ?_ ?_
    rotate_left
    ·go_simp
     rfl
    refine hK.out _ _ ?_
    clear hK K
    refine done_ (done_of HT_.out (by kernel_rfl)) ?_
    have n0_:jE (Kd.R k106 106 (w23.setCell ⟨go9,(t389:Int).toNat * 2,none⟩ (.string t396)) w.heap.size (fun _=>True) (.slice (some ⟨go9,0,none⟩) t384.length co13) y398):=⟨rq HQ24.out⟩
    have n1_:jE (Kd.R Kd.string 9 (w23.setCell ⟨go9,(t389:Int).toNat * 2,none⟩ (.string t396)) w.heap.size (fun _=>True) (.slice Ao22 y393.length co22) y393):=⟨by (with_reducible repeat (first | apply Kd.jda | apply Kd.jfa | apply Kd.jma));exact Kd.jJ (Kd.joa (p:=⟨go9,(t389:Int).toNat * 2,none⟩) (Kd.jna HO395.out GG9.out (by decide)) (fun _ hk=>hk.2) (.string t396)) (fun _ hk=>trivial)⟩
    have n2_:jE ((w23.setCell ⟨go9,(t389:Int).toNat * 2,none⟩ (.string t396)).heap[gb383]?=some (.cells #[.slice none 0 0] 31 (0,0))):=⟨by (with_reducible repeat (first | refine jd ?_ _ | refine jf ?_ | refine jb ?_ _));refine jT ?_ (by have h_:=Kd.R_ne HO386.out BK383.out (by decide);intro e_;exact h_ (by rw [e_];rfl)) _;(with_reducible repeat (first | refine jd ?_ _ | refine jf ?_ | refine jb ?_ _));exact BK383.out⟩
    have n3_:jE ((w23.setCell ⟨go9,(t389:Int).toNat * 2,none⟩ (.string t396)).heap[gb388]?=some (.cells #[.slice (some ⟨go9,0,none⟩) t384.length co13] 31 (0,0))):=⟨by (with_reducible repeat (first | refine jd ?_ _ | refine jf ?_ | refine jb ?_ _));refine jT ?_ (by have h_:=Kd.R_ne HO386.out BK388.out (by decide);intro e_;exact h_ (by rw [e_];rfl)) _;(with_reducible repeat (first | refine jd ?_ _ | refine jf ?_ | refine jb ?_ _));exact BK388.out⟩
    have n4_:jE (je w0 (w23.setCell ⟨go9,(t389:Int).toNat * 2,none⟩ (.string t396)) g s0_0 t397):=⟨by repeat (first |(with_reducible first | exact HI0.out | apply je.alloc | apply je.drewN | apply je.drew | apply je.jQb | refine je.far ?_ HN0_go9.out _ | refine je.far ?_ NB0_383.out _ | refine je.far ?_ NB0_388.out _) | exact HI0.out)⟩
    have n5_:jE (jk w (w23.setCell ⟨go9,(t389:Int).toNat * 2,none⟩ (.string t396)) g none):=⟨by repeat (first |(with_reducible first | exact HK.out | apply jk.set_ | apply jRa | apply jTa | apply jSa | refine jPa ?_ GB9.out _ | refine jPa ?_ GW383.out _ | refine jPa ?_ GW388.out _) | exact HK.out)⟩
    have n6_:jE (Below w0.heap.size w0 (w23.setCell ⟨go9,(t389:Int).toNat * 2,none⟩ (.string t396))):=⟨by repeat (first |(with_reducible first | exact HB.out | apply jF | apply jq | apply jD | refine jy ?_ (Nat.le_trans HL.out GB9.out) | refine jy ?_ (je.ge HI0.out) | refine jy ?_ GE383.out | refine jy ?_ GE388.out) | exact HB.out)⟩
    (try clear HO386)
    (try clear HO395)
    (try clear BK383)
    (try clear BK388)
    (try clear HI0)
    (try clear HK)
    (try clear HB)
    generalize (w23.setCell ⟨go9,(t389:Int).toNat * 2,none⟩ (.string t396))=w25 at n0_ n1_ n2_ n3_ n4_ n5_ n6_ ⊢
    have HO386:=n0_
    have HO395:=n1_
    have BK383:=n2_
    have BK388:=n3_
    have HI0:=n4_
    have HK:=n5_
    have HB:=n6_
    clear n0_ n1_ n2_ n3_ n4_ n5_ n6_
    have hcz26_0:=bc0 BK388.out
    have hfz26_0:=ja BK388.out 0
    have hnb27:=NB383_0.out
    have hnc27:=NB0_383.out
    have hcz28_0:=bc0 BK383.out
    have hfz28_0:=ja BK383.out 0
    try go_wp2
    refine bodyPost_ret (results_cell_row rfl _ _ gb383 31 #[.slice (some ⟨go9,0,none⟩) t384.length co13] (0,0) _ rfl (Y76) Try.underlying31 rfl (by kernel_rfl)) rfl ?_
    exact ⟨_,Y0,by (with_reducible repeat (first | apply Kd.jda | apply Kd.jfa | apply Kd.jma));exact Kd.jJ (Kd.joa (p:=⟨gb383,0,none⟩) (Kd.jna HO386.out BK383.out (by decide)) (fun _ hk=>hk.2) (.slice (some ⟨go9,0,none⟩) t384.length co13)) (fun _ hk=>trivial),Y6,Y15,Y13⟩
   ·rw [if_neg c8] at H
    exact absurd H (by simp)
  ·rw [if_neg c7] at H
   exact absurd H (by simp)
 ·rw [if_neg c5] at H
  have c5b0:(t391 == 0)=false:=beq_eq_false_iff_ne.mpr c5
  have c5b1:(t391 != 0)=true:=bne_iff_ne.mpr c5
  by_cases c29:t391=1
  ·rw [if_pos c29] at H
   have c29b0:(t391 == 1)=true:=beq_iff_eq.mpr c29
   have c29b1:(t391 != 1)=false:=bne_eq_false_iff_eq.mpr c29
   clear c29
   obtain ⟨y399,hy399⟩:∃ y_:List Int,y_=(([t389,(-1),8,(-2)]:List Int)):=⟨_,rfl⟩
   replace H:((jB.f k s0_0 t392 y399).bind fun bt402=>(if 0≤t389 then (if t389<(t384.length:Int) then (some ((t384.set (t389:Int).toNat (⟨(jH t384 t389).f0,bt402.1⟩:S106)),bt402.2)) else (none)) else (none)))=some (r1,r2):=by first |(rw [hy399];with_reducible exact H) |(have H2_:=(Option.bind_some _ _).symm.trans H;rw [hy399];with_reducible exact H2_) |(have H2_:=(Option.bind_some _ _).symm.trans H;with_reducible exact H2_) | with_reducible exact H |(rw [hy399];exact H) | exact H
   have Ny399:=am hy399
   clear hy399
   replace H:=bzS H
   obtain ⟨⟨t402,t403⟩,A300,H⟩:=H
   replace H:(if 0≤t389 then (if t389<(t384.length:Int) then (some ((t384.set (t389:Int).toNat (⟨(jH t384 t389).f0,t402⟩:S106)),t403)) else (none)) else (none))=some (r1,r2):=H
   have A30:=am A300
   clear A300
   by_cases c31:0≤t389
   ·rw [if_pos c31] at H
    have c31b0:decide (0≤t389)=true:=dzT c31
    clear c31
    by_cases c32:t389<(t384.length:Int)
    ·rw [if_pos c32] at H
     have c32b0:decide (t389<(t384.length:Int))=true:=dzT c32
     clear c32
     obtain ⟨y404,hy404⟩:∃ y_:List (S106),y_=(t384.set (t389:Int).toNat (⟨(jH t384 t389).f0,t402⟩:S106)):=⟨_,rfl⟩
     replace H:(some (y404,t403))=some (r1,r2):=by first |(rw [hy404];with_reducible exact H) |(have H2_:=(Option.bind_some _ _).symm.trans H;rw [hy404];with_reducible exact H2_) |(have H2_:=(Option.bind_some _ _).symm.trans H;with_reducible exact H2_) | with_reducible exact H |(rw [hy404];exact H) | exact H
     have Ny404:=am hy404
     clear hy404
     simp only [Option.some.injEq,Prod.mk.injEq] at H
     obtain ⟨rfl,rfl⟩:=H
     go_enter Try.func76,Try.ntmps76
     try go_wp2_with (first |((with_reducible refine jG (N:=2) rfl ?_);refine bE (N:=2) (cs:=#[.slice none 0 0]) (t:=31) ?_;intro gb383 hg w34 hbox hb;have BK383:=am (hbox);have GW383:=am ((Y7:w.heap.size≤gb383));have GE383:=am ((Nat.le_trans HW0.out (Y7:w.heap.size≤gb383):w0.heap.size≤gb383));have NB0_383:=am ((Y23:g≠gb383));have NB383_0:=am ((Y24:gb383≠g));replace HK:=am (jk.trans (Y11) (jk.of_below hb g none) (.inl rfl));replace HB:=am (jg (Y12) hb);replace HI0:=am (je.below (Y10) hb);clear hb hbox hg) |((with_reducible refine jo (f:=107) rfl ?_);refine gL (some 6) Try.func107 #[.pointer (some ⟨g,0,none⟩)] ?_;(with_reducible refine (jR.calls k g s0_0 s0_1 t384 t387 w0 _ ?side1 ?side2 A2.out).mono ?_);(case side1=>exact Y45);(case side2=>exact Y46);rintro e w35 ⟨v385,rfl,ho0,hi,hb,hk⟩;refine ⟨_,rfl,?_⟩;have HO386:=am (Kd.jpa ho0 (jya (w:=w) (g:=g) (row:=none) (Y27)));replace BK383:=am (jk.blk hk (g':=gb383) (o:=.cells #[.slice none 0 0] 31 (0,0)) (kq BK383.out) NB383_0.out (by simp));replace HK:=am (jk.trans (Y27) hk (.inl rfl));replace HB:=am (hb);replace HI0:=am (hi);(try clear hb);(try clear hb2);(try clear hk);(try clear hi);(try clear ho0)) |((with_reducible refine jG (N:=3) rfl ?_);refine bE (N:=3) (cs:=#[.slice none 0 0]) (t:=31) ?_;intro gb388 hg w36 hbox hb;have BK388:=am (hbox);have GW388:=am ((Y47:w.heap.size≤gb388));have GE388:=am ((Nat.le_trans HW0.out (Y47:w.heap.size≤gb388):w0.heap.size≤gb388));have NB383_388:=am ((Y70:gb383≠gb388));have NB388_383:=am ((Y71:gb388≠gb383));have NB0_388:=am ((Y72:g≠gb388));have NB388_0:=am ((Y73:gb388≠g));replace HO386:=am (Kd.jaa (rq HO386.out) hb);replace BK383:=am (jc (g:=gb383) (o:=.cells #[.slice none 0 0] 31 (0,0)) (kq BK383.out) hb);replace HK:=am (jk.trans (Y27) (jk.of_below hb g none) (.inl rfl));replace HB:=am (jg (Y46) hb);replace HI0:=am (je.below (Y45) hb);clear hb hbox hg;obtain ⟨Ao37,co37,eo37⟩:=Kd.jga HO386.out;subst eo37;have hnb38:=NB388_383.out;have hnc38:=NB383_388.out;have hnb39:=NB388_0.out;have hnc39:=NB0_388.out;have hcz40_0:=bc0 BK388.out;have hfz40_0:=ja BK388.out 0) |((with_reducible refine jo (f:=47) rfl ?_);refine gL (some 11) Try.func47 #[.pointer (some ⟨g,0,none⟩), .int .i64 (t384.length:Int)] ?_;(with_reducible refine (jr.calls k g s0_0 t387 (t384.length:Int) t389 t390 w0 _ ?side1 ?side2 A3.out).mono ?_);(case side1=>exact Y6);(case side2=>exact Y15);rintro e w41 ⟨rfl,hi,hb,hk⟩;refine ⟨_,rfl,?_⟩;replace BK383:=am (jk.blk hk (g':=gb383) (o:=.cells #[.slice none 0 0] 31 (0,0)) (Y74) NB383_0.out (by simp));replace HO386:=am (Kd.jJ (Kd.jIa (je.apart (show je w0 _ g s0_0 t387 from Y6) (by (with_reducible repeat (first | apply Kd.jda | apply Kd.jfa | apply Kd.jma));exact (Kd.jJ (Kd.joa (p:=⟨gb388,0,none⟩) (Kd.jna HO386.out BK388.out (by decide)) (fun _ hk=>hk.2) (.slice Ao37 t384.length co37)) (fun _ h_=>h_.1))) (by decide)) hk (fun _ h=>h.2)) (fun _ h=>h.1));replace BK388:=am (jk.blk hk (g':=gb388) (o:=.cells #[.slice Ao37 t384.length co37] 31 (0,0)) (Y75) NB388_0.out (by simp));replace HK:=am (jk.trans (Y13) hk (.inl rfl));replace HB:=am (hb);replace HI0:=am (hi);(try clear hb);(try clear hb2);(try clear hk);(try clear hi)) |((with_reducible refine jo (f:=47) rfl ?_);refine gL (some 13) Try.func47 #[.pointer (some ⟨g,0,none⟩), .int .i64 24] ?_;(with_reducible refine (jr.calls k g s0_0 t390 24 t391 t392 w0 _ ?side1 ?side2 A4.out).mono ?_);(case side1=>exact Y6);(case side2=>exact Y15);rintro e w42 ⟨rfl,hi,hb,hk⟩;refine ⟨_,rfl,?_⟩;replace BK383:=am (jk.blk hk (g':=gb383) (o:=.cells #[.slice none 0 0] 31 (0,0)) (kq BK383.out) NB383_0.out (by simp));replace HO386:=am (Kd.jJ (Kd.jIa (je.apart (show je w0 _ g s0_0 t390 from Y6) (rq HO386.out) (by decide)) hk (fun _ h=>h.2)) (fun _ h=>h.1));replace BK388:=am (jk.blk hk (g':=gb388) (o:=.cells #[.slice Ao37 t384.length co37] 31 (0,0)) (kq BK388.out) NB388_0.out (by simp));replace HK:=am (jk.trans (Y13) hk (.inl rfl));replace HB:=am (hb);replace HI0:=am (hi);(try clear hb);(try clear hb2);(try clear hk);(try clear hi)))
     replace HO386:=am (Kd.jma HO386.out)
     replace BK383:=am (jf BK383.out)
     replace BK388:=am (jf BK388.out)
     replace HI0:=am (je.drew HI0.out)
     replace HK:=am (jTa HK.out)
     replace HB:=am (jD HB.out)
     refine start_ (n:=10) (S:=fun w'=>w'.cell? ⟨gb388,0,none⟩=some (.slice Ao37 t384.length co37)) (ds:=[9]) #[false,false,false,false,false,false,false,false,false,false] (by kernel_rfl) rfl rfl ((jw BK388.out 0).trans rfl) (fun hHeld=>?_);refine jXb jia.tab7 jia.bits7 (fun HT_ HW_=>?_)
     generalize w42.drew=w43 at HO386 BK383 BK388 HI0 HK HB hHeld ⊢
     refine pq (i:=0) (N:=some 26) #[true,false,false,false,false,false,false,false,false,false] ?_
     refine pq (i:=2) (N:=some 28) #[true,false,true,false,false,false,false,false,false,false] ?_
     refine pq (i:=3) (N:=some 29) #[true,false,true,true,false,false,false,false,false,false] ?_
     refine pq (i:=4) (N:=some 30) #[true,false,true,true,true,false,false,false,false,false] ?_
     refine jYb (i:=1) (N:=some 27) (v:=?_) (a':=?_) #[true,true,true,true,true,false,false,false,false,false] rfl rfl (jFb HT_.out HW_.out (by kernel_rfl)) (fun _ _ _ h=>h) (Or.inl ⟨by rfl,?_⟩) hHeld ?_ ?_
     rotate_left
     ·intro w' s0
      go_simp
      with_reducible rfl
     rotate_left
     ·exact sa
     refine one_ (i:=5) (N:=some 31) #[true,true,true,true,true,true,false,false,false,false] rfl rfl (jRb HT_.out (by kernel_rfl)) (by decide) (fun K hK=>?_)
     refine Kd.R_lit_step (Kd.int .i64) _ 3 ?hg (N:=31) ?hd (xs:=([t389,(-1),8,(-2)]:List Int)) (inner:=[.int .i64 t389, .int .i64 (-1), .int .i64 8, .int .i64 (-2)]) (ok:=fun _=>True) (okp:=fun _=>True) ?hr ?hp (fun _ hk=>hk) trivial (Below.refl _ _) (Nat.le_refl _) (by simp) ?_;(case hd=>rfl);(case hg=>rfl);(case hr=>exact Y3);(case hp=>exact (Reps.one (show Kd.M (Kd.int .i64) _ _ _ t389 [.int .i64 t389] from rfl) (Reps.one (show Kd.M (Kd.int .i64) _ _ _ (-1) [.int .i64 (-1)] from rfl) (Reps.one (show Kd.M (Kd.int .i64) _ _ _ 8 [.int .i64 8] from rfl) (Reps.one (show Kd.M (Kd.int .i64) _ _ _ (-2) [.int .i64 (-2)] from rfl) (Reps.none _ _))))))
     intro v400 w44 ho45 hb hg_ hnew_
     clear hg_ hnew_
     (first | rw [← Ny399.out] at ho45 |(simp only [Int.reduceToNat] at ho45;rw [← Ny399.out] at ho45))
     have HO401:=am (Kd.jpa ho45 (jya (w:=w) (g:=g) (row:=none) (Y13)))
     replace HO386:=am (Kd.jaa (rq HO386.out) hb)
     replace BK383:=am (jc (g:=gb383) (o:=.cells #[.slice none 0 0] 31 (0,0)) (kq BK383.out) hb)
     replace BK388:=am (jc (g:=gb388) (o:=.cells #[.slice Ao37 t384.length co37] 31 (0,0)) (kq BK388.out) hb)
     replace HK:=am (jk.trans (Y13) (jk.of_below hb g none) (.inl rfl))
     replace HB:=am (jg (Y15) hb)
     replace HI0:=am (je.below (Y6) hb)
     clear hb ho45
     obtain ⟨Ao46,co46,eo46⟩:=Kd.jga HO401.out
     (first | subst eo46 |(injection eo46 with f1_ f2_ f3_;have f4_:=f1_.symm;have f5_:=f3_.symm;clear f1_ f2_ f3_;subst f4_;subst f5_))
     refine hK.out _ _ ((jw BK388.out 0).trans rfl) (fun hHeld=>?_)
     clear hK K
     refine norm_ (a':=?_) ?_ ?_
     rotate_left
     ·show Act.put _ (some 31) _=_
      simp only [Act.put,List.setIfInBounds_toArray,List.set_cons_zero,List.set_cons_succ,jHb,jLb]
      rfl
     refine one_ (i:=6) (N:=some 32) #[true,true,true,true,true,true,true,false,false,false] rfl rfl (jRb HT_.out (by kernel_rfl)) (by decide) (fun K hK=>?_)
     refine goes_ Try.func77 (by kernel_rfl) rfl #[.pointer (some ⟨g,0,none⟩), .slice Ao46 y399.length co46] (by rfl) rfl rfl (aq) ?_
     with_reducible refine (jB.calls k g s0_0 t392 _ _ y399 t402 t403 w0 _ ?side1 ?side2 ?side3 ?side4 ?side5 A30.out).mono ?_
     (case side1=>exact Y6)
     (case side2=>exact Y15)
     (case side3=>exact cq (Kd.jC HO401.out).2.2)
     (case side4=>exact (Kd.jC HO401.out).2.1)
     (case side5=>exact jIb (je.own_ne HI0.out HO401.out (by decide)))
     rintro e w47 ⟨rfl,hi,hb,hk⟩
     refine ⟨_,rfl,?_⟩
     replace BK383:=am (jk.blk hk (g':=gb383) (o:=.cells #[.slice none 0 0] 31 (0,0)) (kq BK383.out) NB383_0.out (by simp))
     replace HO386:=am (Kd.jJ (Kd.jIa (je.apart (show je w0 _ g s0_0 t392 from Y6) (rq HO386.out) (by decide)) hk (fun _ h=>h.2)) (fun _ h=>h.1))
     replace BK388:=am (jk.blk hk (g':=gb388) (o:=.cells #[.slice Ao37 t384.length co37] 31 (0,0)) (kq BK388.out) NB388_0.out (by simp))
     replace HO401:=am (Kd.jJ (Kd.jIa (je.apart (show je w0 _ g s0_0 t392 from Y6) (rq HO401.out) (by decide)) hk (fun _ h=>h.2)) (fun _ h=>h.1))
     replace HK:=am (jk.trans (Y13) hk (.inl rfl))
     replace HB:=am (hb)
     replace HI0:=am (hi)
     (try clear hb)
     (try clear hb2)
     (try clear hk)
     (try clear hi)
     have p33:0≤(t389:Int):=ozD (uq)
     have q33:(t389:Int)<((t384.length:Int):Int):=ozD (uq)
     obtain ⟨go33,co33,eo33,gb33,gl33,cl33,HG33⟩:=Kd.R_form HO386.out (by omega)
     (first | cases eo33 |(injection eo33 with ea_ en_ ec_;(first | subst ea_ |(injection ea_ with ea_;subst ea_));subst ec_;clear en_))
     have GB33:=am gb33
     have GG33:=am HG33
     clear gb33 gl33 HG33
     obtain ⟨ce33,hcl33,hM33,hcc33,hfr33⟩:=Kd.R_elem HO386.out z106 (t389:Int) p33 q33
     obtain rfl:=k106_openM hM33
     have hx33_0:World.cell? _ ⟨go33,(t389:Int).toNat * 2,none⟩=some (.string ((jH t384 t389).f0)):=hcc33 0 _ rfl
     have hx33_1:World.cell? _ ⟨go33,(t389:Int).toNat * 2+1,none⟩=some (.int .i64 ((jH t384 t389).f1)):=hcc33 1 _ rfl
     have hf33_0:World.frozen? _ ⟨go33,(t389:Int).toNat * 2,none⟩=false:=hfr33 0
     have hf33_1:World.frozen? _ ⟨go33,(t389:Int).toNat * 2+1,none⟩=false:=hfr33 1
     clear hcl33 hcc33 hfr33 hM33
     replace p33:=ezT p33
     replace q33:=ezT q33
     have HN0_go33:=am (show g≠go33 from by have h_:=je.own_ne HI0.out HO386.out (by decide);intro e_;exact h_ (by rw [e_];rfl))
     obtain ⟨ce48,hcl48,hM48,hcc48,hfr48⟩:=Kd.R_elem HO386.out z106 (t389:Int) (ozD (uq)) (by have h_:(t389:Int)<((t384.length:Int):Int):=ozD (uq);first | exact h_ |(have e_:=(Kd.jC HO386.out).1;omega) | simpa using h_)
     obtain rfl:=k106_openM hM48
     have HP48:=(Kd.R_seg HO386.out (t389:Int) (ozD (uq)) (by have h_:(t389:Int)<((t384.length:Int):Int):=ozD (uq);first | exact h_ |(have e_:=(Kd.jC HO386.out).1;omega) | simpa using h_) (seg:=[.int .i64 t402]) (j:=1) hcl48 hcc48 (show 2≤2 from by decide) (x':=(⟨(jH t384 t389).f0,t402⟩:S106)) (k106_mkM _ _ _ (⟨(jH t384 t389).f0,t402⟩:S106) ) (fun _ hk=>hk)).1
     rw [← Ny404.out] at HP48
     have HQ48:=am HP48
     clear hcl48 hcc48 hfr48 hM48 HP48
     refine hK.out _ _ ((jw BK388.out 0).trans rfl) (fun hHeld=>?_)
     clear hK K
     refine norm_ (a':=?_) ?_ ?_
     rotate_left
     ·show Act.put _ (some 32) _=_
      simp only [Act.put,List.setIfInBounds_toArray,List.set_cons_zero,List.set_cons_succ,jHb,jLb]
      rfl
     refine pq (i:=7) (N:=some 33) #[true,true,true,true,true,true,true,true,false,false] ?_
     refine pq (i:=8) (N:=some 34) #[true,true,true,true,true,true,true,true,true,false] ?_
     refine last_ (i:=9) (N:=none) #[true,true,true,true,true,true,true,true,true,true] rfl rfl (jRb HT_.out (by kernel_rfl)) (by decide) (fun K hK=>?_)
     refine skip_ (w1:=?_) (by rfl) rfl ?_ ?_
     rotate_left
     ·go_simp
      rfl
     refine hK.out _ _ ?_
     clear hK K
     refine done_ (done_of HT_.out (by kernel_rfl)) ?_
     have n0_:jE (Kd.R k106 106 (w47.setCell ⟨go33,(t389:Int).toNat * 2+1,none⟩ (.int .i64 t402)) w.heap.size (fun _=>True) (.slice (some ⟨go33,0,none⟩) t384.length co37) y404):=⟨rq HQ48.out⟩
     have n1_:jE (Kd.R (Kd.int .i64) 3 (w47.setCell ⟨go33,(t389:Int).toNat * 2+1,none⟩ (.int .i64 t402)) w.heap.size (fun _=>True) (.slice Ao46 y399.length co46) y399):=⟨by (with_reducible repeat (first | apply Kd.jda | apply Kd.jfa | apply Kd.jma));exact Kd.jJ (Kd.joa (p:=⟨go33,(t389:Int).toNat * 2+1,none⟩) (Kd.jna HO401.out GG33.out (by decide)) (fun _ hk=>hk.2) (.int .i64 t402)) (fun _ hk=>trivial)⟩
     have n2_:jE ((w47.setCell ⟨go33,(t389:Int).toNat * 2+1,none⟩ (.int .i64 t402)).heap[gb383]?=some (.cells #[.slice none 0 0] 31 (0,0))):=⟨by (with_reducible repeat (first | refine jd ?_ _ | refine jf ?_ | refine jb ?_ _));refine jT ?_ (by have h_:=Kd.R_ne HO386.out BK383.out (by decide);intro e_;exact h_ (by rw [e_];rfl)) _;(with_reducible repeat (first | refine jd ?_ _ | refine jf ?_ | refine jb ?_ _));exact BK383.out⟩
     have n3_:jE ((w47.setCell ⟨go33,(t389:Int).toNat * 2+1,none⟩ (.int .i64 t402)).heap[gb388]?=some (.cells #[.slice (some ⟨go33,0,none⟩) t384.length co37] 31 (0,0))):=⟨by (with_reducible repeat (first | refine jd ?_ _ | refine jf ?_ | refine jb ?_ _));refine jT ?_ (by have h_:=Kd.R_ne HO386.out BK388.out (by decide);intro e_;exact h_ (by rw [e_];rfl)) _;(with_reducible repeat (first | refine jd ?_ _ | refine jf ?_ | refine jb ?_ _));exact BK388.out⟩
     have n4_:jE (je w0 (w47.setCell ⟨go33,(t389:Int).toNat * 2+1,none⟩ (.int .i64 t402)) g s0_0 t403):=⟨by repeat (first |(with_reducible first | exact HI0.out | apply je.alloc | apply je.drewN | apply je.drew | apply je.jQb | refine je.far ?_ HN0_go33.out _ | refine je.far ?_ NB0_383.out _ | refine je.far ?_ NB0_388.out _) | exact HI0.out)⟩
     have n5_:jE (jk w (w47.setCell ⟨go33,(t389:Int).toNat * 2+1,none⟩ (.int .i64 t402)) g none):=⟨by repeat (first |(with_reducible first | exact HK.out | apply jk.set_ | apply jRa | apply jTa | apply jSa | refine jPa ?_ GB33.out _ | refine jPa ?_ GW383.out _ | refine jPa ?_ GW388.out _) | exact HK.out)⟩
     have n6_:jE (Below w0.heap.size w0 (w47.setCell ⟨go33,(t389:Int).toNat * 2+1,none⟩ (.int .i64 t402))):=⟨by repeat (first |(with_reducible first | exact HB.out | apply jF | apply jq | apply jD | refine jy ?_ (Nat.le_trans HL.out GB33.out) | refine jy ?_ (je.ge HI0.out) | refine jy ?_ GE383.out | refine jy ?_ GE388.out) | exact HB.out)⟩
     (try clear HO386)
     (try clear HO401)
     (try clear BK383)
     (try clear BK388)
     (try clear HI0)
     (try clear HK)
     (try clear HB)
     generalize (w47.setCell ⟨go33,(t389:Int).toNat * 2+1,none⟩ (.int .i64 t402))=w49 at n0_ n1_ n2_ n3_ n4_ n5_ n6_ ⊢
     have HO386:=n0_
     have HO401:=n1_
     have BK383:=n2_
     have BK388:=n3_
     have HI0:=n4_
     have HK:=n5_
     have HB:=n6_
     clear n0_ n1_ n2_ n3_ n4_ n5_ n6_
     have hcz50_0:=bc0 BK388.out
     have hfz50_0:=ja BK388.out 0
     have hnb51:=NB383_0.out
     have hnc51:=NB0_383.out
     have hcz52_0:=bc0 BK383.out
     have hfz52_0:=ja BK383.out 0
     try go_wp2
     refine bodyPost_ret (results_cell_row rfl _ _ gb383 31 #[.slice (some ⟨go33,0,none⟩) t384.length co37] (0,0) _ rfl (Y76) Try.underlying31 rfl (by kernel_rfl)) rfl ?_
     exact ⟨_,Y0,by (with_reducible repeat (first | apply Kd.jda | apply Kd.jfa | apply Kd.jma));exact Kd.jJ (Kd.joa (p:=⟨gb383,0,none⟩) (Kd.jna HO386.out BK383.out (by decide)) (fun _ hk=>hk.2) (.slice (some ⟨go33,0,none⟩) t384.length co37)) (fun _ hk=>trivial),Y6,Y15,Y13⟩
    ·rw [if_neg c32] at H
     exact absurd H (by simp)
   ·rw [if_neg c31] at H
    exact absurd H (by simp)
  ·rw [if_neg c29] at H
   have c29b0:(t391 == 1)=false:=beq_eq_false_iff_ne.mpr c29
   have c29b1:(t391 != 1)=true:=bne_iff_ne.mpr c29
   by_cases c53:t391=2
   ·rw [if_pos c53] at H
    have c53b0:(t391 == 2)=true:=beq_iff_eq.mpr c53
    have c53b1:(t391 != 2)=false:=bne_eq_false_iff_eq.mpr c53
    clear c53
    simp only [Option.some.injEq,Prod.mk.injEq] at H
    obtain ⟨rfl,rfl⟩:=H
    go_enter Try.func76,Try.ntmps76
    go_wp2_with (first |((with_reducible refine jG (N:=2) rfl ?_);refine bE (N:=2) (cs:=#[.slice none 0 0]) (t:=31) ?_;intro gb383 hg w54 hbox hb;have BK383:=am (hbox);have GW383:=am ((Y7:w.heap.size≤gb383));have GE383:=am ((Nat.le_trans HW0.out (Y7:w.heap.size≤gb383):w0.heap.size≤gb383));have NB0_383:=am ((Y23:g≠gb383));have NB383_0:=am ((Y24:gb383≠g));replace HK:=am (jk.trans (Y11) (jk.of_below hb g none) (.inl rfl));replace HB:=am (jg (Y12) hb);replace HI0:=am (je.below (Y10) hb);clear hb hbox hg) |((with_reducible refine jo (f:=107) rfl ?_);refine gL (some 6) Try.func107 #[.pointer (some ⟨g,0,none⟩)] ?_;(with_reducible refine (jR.calls k g s0_0 s0_1 t384 t387 w0 _ ?side1 ?side2 A2.out).mono ?_);(case side1=>exact Y45);(case side2=>exact Y46);rintro e w55 ⟨v385,rfl,ho0,hi,hb,hk⟩;refine ⟨_,rfl,?_⟩;have HO386:=am (Kd.jpa ho0 (jya (w:=w) (g:=g) (row:=none) (Y27)));replace BK383:=am (jk.blk hk (g':=gb383) (o:=.cells #[.slice none 0 0] 31 (0,0)) (kq BK383.out) NB383_0.out (by simp));replace HK:=am (jk.trans (Y27) hk (.inl rfl));replace HB:=am (hb);replace HI0:=am (hi);(try clear hb);(try clear hb2);(try clear hk);(try clear hi);(try clear ho0)) |((with_reducible refine jG (N:=3) rfl ?_);refine bE (N:=3) (cs:=#[.slice none 0 0]) (t:=31) ?_;intro gb388 hg w56 hbox hb;have BK388:=am (hbox);have GW388:=am ((Y47:w.heap.size≤gb388));have GE388:=am ((Nat.le_trans HW0.out (Y47:w.heap.size≤gb388):w0.heap.size≤gb388));have NB383_388:=am ((Y70:gb383≠gb388));have NB388_383:=am ((Y71:gb388≠gb383));have NB0_388:=am ((Y72:g≠gb388));have NB388_0:=am ((Y73:gb388≠g));replace HO386:=am (Kd.jaa (rq HO386.out) hb);replace BK383:=am (jc (g:=gb383) (o:=.cells #[.slice none 0 0] 31 (0,0)) (kq BK383.out) hb);replace HK:=am (jk.trans (Y27) (jk.of_below hb g none) (.inl rfl));replace HB:=am (jg (Y46) hb);replace HI0:=am (je.below (Y45) hb);clear hb hbox hg;obtain ⟨Ao57,co57,eo57⟩:=Kd.jga HO386.out;subst eo57;have hnb58:=NB388_383.out;have hnc58:=NB383_388.out;have hnb59:=NB388_0.out;have hnc59:=NB0_388.out;have hcz60_0:=bc0 BK388.out;have hfz60_0:=ja BK388.out 0) |((with_reducible refine jo (f:=47) rfl ?_);refine gL (some 11) Try.func47 #[.pointer (some ⟨g,0,none⟩), .int .i64 (t384.length:Int)] ?_;(with_reducible refine (jr.calls k g s0_0 t387 (t384.length:Int) t389 t390 w0 _ ?side1 ?side2 A3.out).mono ?_);(case side1=>exact Y6);(case side2=>exact Y15);rintro e w61 ⟨rfl,hi,hb,hk⟩;refine ⟨_,rfl,?_⟩;replace BK383:=am (jk.blk hk (g':=gb383) (o:=.cells #[.slice none 0 0] 31 (0,0)) (Y74) NB383_0.out (by simp));replace HO386:=am (Kd.jJ (Kd.jIa (je.apart (show je w0 _ g s0_0 t387 from Y6) (by (with_reducible repeat (first | apply Kd.jda | apply Kd.jfa | apply Kd.jma));exact (Kd.jJ (Kd.joa (p:=⟨gb388,0,none⟩) (Kd.jna HO386.out BK388.out (by decide)) (fun _ hk=>hk.2) (.slice Ao57 t384.length co57)) (fun _ h_=>h_.1))) (by decide)) hk (fun _ h=>h.2)) (fun _ h=>h.1));replace BK388:=am (jk.blk hk (g':=gb388) (o:=.cells #[.slice Ao57 t384.length co57] 31 (0,0)) (Y75) NB388_0.out (by simp));replace HK:=am (jk.trans (Y13) hk (.inl rfl));replace HB:=am (hb);replace HI0:=am (hi);(try clear hb);(try clear hb2);(try clear hk);(try clear hi)) |((with_reducible refine jo (f:=47) rfl ?_);refine gL (some 13) Try.func47 #[.pointer (some ⟨g,0,none⟩), .int .i64 24] ?_;(with_reducible refine (jr.calls k g s0_0 t390 24 t391 t392 w0 _ ?side1 ?side2 A4.out).mono ?_);(case side1=>exact Y6);(case side2=>exact Y15);rintro e w62 ⟨rfl,hi,hb,hk⟩;refine ⟨_,rfl,?_⟩;replace BK383:=am (jk.blk hk (g':=gb383) (o:=.cells #[.slice none 0 0] 31 (0,0)) (kq BK383.out) NB383_0.out (by simp));replace HO386:=am (Kd.jJ (Kd.jIa (je.apart (show je w0 _ g s0_0 t390 from Y6) (rq HO386.out) (by decide)) hk (fun _ h=>h.2)) (fun _ h=>h.1));replace BK388:=am (jk.blk hk (g':=gb388) (o:=.cells #[.slice Ao57 t384.length co57] 31 (0,0)) (kq BK388.out) NB388_0.out (by simp));replace HK:=am (jk.trans (Y13) hk (.inl rfl));replace HB:=am (hb);replace HI0:=am (hi);(try clear hb);(try clear hb2);(try clear hk);(try clear hi);have hnb63:=NB383_0.out;have hnc63:=NB0_383.out;have hcz64_0:=bc0 BK383.out;have hfz64_0:=ja BK383.out 0))
    refine bodyPost_ret (results_cell_row rfl _ _ gb383 31 #[.slice none 0 0] (0,0) _ rfl (Y76) Try.underlying31 rfl (by kernel_rfl)) rfl ?_
    exact ⟨_,Y0,Y85,Y6,Y15,Y13⟩
   ·rw [if_neg c53] at H
    have c53b0:(t391 == 2)=false:=beq_eq_false_iff_ne.mpr c53
    have c53b1:(t391 != 2)=true:=bne_iff_ne.mpr c53
    simp only [Option.some.injEq,Prod.mk.injEq] at H
    obtain ⟨rfl,rfl⟩:=H
    go_enter Try.func76,Try.ntmps76
    go_wp2_with (first |((with_reducible refine jG (N:=2) rfl ?_);refine bE (N:=2) (cs:=#[.slice none 0 0]) (t:=31) ?_;intro gb383 hg w65 hbox hb;have BK383:=am (hbox);have GW383:=am ((Y7:w.heap.size≤gb383));have GE383:=am ((Nat.le_trans HW0.out (Y7:w.heap.size≤gb383):w0.heap.size≤gb383));have NB0_383:=am ((Y23:g≠gb383));have NB383_0:=am ((Y24:gb383≠g));replace HK:=am (jk.trans (Y11) (jk.of_below hb g none) (.inl rfl));replace HB:=am (jg (Y12) hb);replace HI0:=am (je.below (Y10) hb);clear hb hbox hg) |((with_reducible refine jo (f:=107) rfl ?_);refine gL (some 6) Try.func107 #[.pointer (some ⟨g,0,none⟩)] ?_;(with_reducible refine (jR.calls k g s0_0 s0_1 t384 t387 w0 _ ?side1 ?side2 A2.out).mono ?_);(case side1=>exact Y45);(case side2=>exact Y46);rintro e w66 ⟨v385,rfl,ho0,hi,hb,hk⟩;refine ⟨_,rfl,?_⟩;have HO386:=am (Kd.jpa ho0 (jya (w:=w) (g:=g) (row:=none) (Y27)));replace BK383:=am (jk.blk hk (g':=gb383) (o:=.cells #[.slice none 0 0] 31 (0,0)) (kq BK383.out) NB383_0.out (by simp));replace HK:=am (jk.trans (Y27) hk (.inl rfl));replace HB:=am (hb);replace HI0:=am (hi);(try clear hb);(try clear hb2);(try clear hk);(try clear hi);(try clear ho0)) |((with_reducible refine jG (N:=3) rfl ?_);refine bE (N:=3) (cs:=#[.slice none 0 0]) (t:=31) ?_;intro gb388 hg w67 hbox hb;have BK388:=am (hbox);have GW388:=am ((Y47:w.heap.size≤gb388));have GE388:=am ((Nat.le_trans HW0.out (Y47:w.heap.size≤gb388):w0.heap.size≤gb388));have NB383_388:=am ((Y70:gb383≠gb388));have NB388_383:=am ((Y71:gb388≠gb383));have NB0_388:=am ((Y72:g≠gb388));have NB388_0:=am ((Y73:gb388≠g));replace HO386:=am (Kd.jaa (rq HO386.out) hb);replace BK383:=am (jc (g:=gb383) (o:=.cells #[.slice none 0 0] 31 (0,0)) (kq BK383.out) hb);replace HK:=am (jk.trans (Y27) (jk.of_below hb g none) (.inl rfl));replace HB:=am (jg (Y46) hb);replace HI0:=am (je.below (Y45) hb);clear hb hbox hg;obtain ⟨Ao68,co68,eo68⟩:=Kd.jga HO386.out;subst eo68;have hnb69:=NB388_383.out;have hnc69:=NB383_388.out;have hnb70:=NB388_0.out;have hnc70:=NB0_388.out;have hcz71_0:=bc0 BK388.out;have hfz71_0:=ja BK388.out 0) |((with_reducible refine jo (f:=47) rfl ?_);refine gL (some 11) Try.func47 #[.pointer (some ⟨g,0,none⟩), .int .i64 (t384.length:Int)] ?_;(with_reducible refine (jr.calls k g s0_0 t387 (t384.length:Int) t389 t390 w0 _ ?side1 ?side2 A3.out).mono ?_);(case side1=>exact Y6);(case side2=>exact Y15);rintro e w72 ⟨rfl,hi,hb,hk⟩;refine ⟨_,rfl,?_⟩;replace BK383:=am (jk.blk hk (g':=gb383) (o:=.cells #[.slice none 0 0] 31 (0,0)) (Y74) NB383_0.out (by simp));replace HO386:=am (Kd.jJ (Kd.jIa (je.apart (show je w0 _ g s0_0 t387 from Y6) (by (with_reducible repeat (first | apply Kd.jda | apply Kd.jfa | apply Kd.jma));exact (Kd.jJ (Kd.joa (p:=⟨gb388,0,none⟩) (Kd.jna HO386.out BK388.out (by decide)) (fun _ hk=>hk.2) (.slice Ao68 t384.length co68)) (fun _ h_=>h_.1))) (by decide)) hk (fun _ h=>h.2)) (fun _ h=>h.1));replace BK388:=am (jk.blk hk (g':=gb388) (o:=.cells #[.slice Ao68 t384.length co68] 31 (0,0)) (Y75) NB388_0.out (by simp));replace HK:=am (jk.trans (Y13) hk (.inl rfl));replace HB:=am (hb);replace HI0:=am (hi);(try clear hb);(try clear hb2);(try clear hk);(try clear hi)) |((with_reducible refine jo (f:=47) rfl ?_);refine gL (some 13) Try.func47 #[.pointer (some ⟨g,0,none⟩), .int .i64 24] ?_;(with_reducible refine (jr.calls k g s0_0 t390 24 t391 t392 w0 _ ?side1 ?side2 A4.out).mono ?_);(case side1=>exact Y6);(case side2=>exact Y15);rintro e w73 ⟨rfl,hi,hb,hk⟩;refine ⟨_,rfl,?_⟩;replace BK383:=am (jk.blk hk (g':=gb383) (o:=.cells #[.slice none 0 0] 31 (0,0)) (kq BK383.out) NB383_0.out (by simp));replace HO386:=am (Kd.jJ (Kd.jIa (je.apart (show je w0 _ g s0_0 t390 from Y6) (rq HO386.out) (by decide)) hk (fun _ h=>h.2)) (fun _ h=>h.1));replace BK388:=am (jk.blk hk (g':=gb388) (o:=.cells #[.slice Ao68 t384.length co68] 31 (0,0)) (kq BK388.out) NB388_0.out (by simp));replace HK:=am (jk.trans (Y13) hk (.inl rfl));replace HB:=am (hb);replace HI0:=am (hi);(try clear hb);(try clear hb2);(try clear hk);(try clear hi);have hcz74_0:=bc0 BK388.out;have hfz74_0:=ja BK388.out 0;have hnb75:=NB383_0.out;have hnc75:=NB0_383.out;have hcz76_0:=bc0 BK383.out;have hfz76_0:=ja BK383.out 0))
    refine bodyPost_ret (results_cell_row rfl _ _ gb383 31 #[.slice Ao68 t384.length co68] (0,0) _ rfl (Y76) Try.underlying31 rfl (by kernel_rfl)) rfl ?_
    exact ⟨_,Y0,by (with_reducible repeat (first | apply Kd.jda | apply Kd.jfa | apply Kd.jma));exact Kd.jJ (Kd.joa (p:=⟨gb383,0,none⟩) (Kd.jna HO386.out BK383.out (by decide)) (fun _ hk=>hk.2) (.slice Ao68 t384.length co68)) (fun _ hk=>trivial),Y6,Y15,Y13⟩
def jib.f (k : Nat) (s0_0 : List Int) (s0_1 : Int) : Option ((List (S106)) × (List (S44)) × Int) := (jia.f k s0_0 s0_1).bind fun bt406 => ((jea.f k s0_0 bt406.2 bt406.1).bind fun bt411 => (if (bt411.1.length : Int) > 0 then ((jr.f k s0_0 bt411.2 (bt411.1.length : Int)).bind fun bt415 => ((jr.f k s0_0 bt415.2 24).bind fun bt417 => (if bt417.1 = 0 then ((jB.f k s0_0 bt417.2 (([(-1), 4, 2] : List Int))).bind fun bt422 => (if 0 ≤ bt415.1 then (if bt415.1 < (bt411.1.length : Int) then (some (bt406.1, (bt411.1.set (bt415.1 : Int).toNat (⟨bt422.1, (jL bt411.1 bt415.1).f1, (jL bt411.1 bt415.1).f2⟩ : S44)), bt422.2)) else (none)) else (none))) else (if bt417.1 = 1 then ((jB.f k s0_0 bt417.2 (([(-1), 100] : List Int))).bind fun bt428 => (if 0 ≤ bt415.1 then (if bt415.1 < (bt411.1.length : Int) then (some (bt406.1, (bt411.1.set (bt415.1 : Int).toNat (⟨(jL bt411.1 bt415.1).f0, bt428.1, (jL bt411.1 bt415.1).f2⟩ : S44)), bt428.2)) else (none)) else (none))) else (if bt417.1 = 2 then ((jB.f k s0_0 bt417.2 (([5, 100, (-1)] : List Int))).bind fun bt434 => (if 0 ≤ bt415.1 then (if bt415.1 < (bt411.1.length : Int) then (some (bt406.1, (bt411.1.set (bt415.1 : Int).toNat (⟨(jL bt411.1 bt415.1).f0, (jL bt411.1 bt415.1).f1, bt434.1⟩ : S44)), bt434.2)) else (none)) else (none))) else (some (bt406.1, bt411.1, bt417.2))))))) else (some (bt406.1, bt411.1, bt411.2))))
set_option maxHeartbeats 8000000 in
set_option maxRecDepth 100000 in
theorem jib.calls (k : Nat) (g : Nat) (s0_0 : List Int) (s0_1 : Int) (r1 : List (S106)) (r2 : List (S44)) (r3 : Int) (w0 w : World) (hI : je w0 w g s0_0 s0_1) (hB : Below w0.heap.size w0 w) (h : jib.f k s0_0 s0_1 = some (r1, r2, r3)) :
  Calls Try.prog 46 #[.pointer (some ⟨g,0,none⟩)] w fun e w'=>∃ v0_ v1_:Value,e=.returned (.tuple #[.agg #[v0_],v1_])∧Kd.R k106 106 w' w.heap.size (fun _=>True) v0_ r1∧Kd.R k44 44 w' w.heap.size (fun _=>True) v1_ r2∧je w0 w' g s0_0 r3∧Below w0.heap.size w0 w'∧jk w w' g none:=by
 have hu31:=Try.underlying31
 have HI0:=am hI
 have HK:=am (jk.refl w g none)
 have HL:=am hB.size
 clear hI
 have HW0:=am hB.size
 have HB:=am hB
 clear hB
 have H:((jia.f k s0_0 s0_1).bind fun bt406=>((jea.f k s0_0 bt406.2 bt406.1).bind fun bt411=>(if (bt411.1.length:Int) > 0 then ((jr.f k s0_0 bt411.2 (bt411.1.length:Int)).bind fun bt415=>((jr.f k s0_0 bt415.2 24).bind fun bt417=>(if bt417.1=0 then ((jB.f k s0_0 bt417.2 (([(-1),4,2]:List Int))).bind fun bt422=>(if 0≤bt415.1 then (if bt415.1<(bt411.1.length:Int) then (some (bt406.1,(bt411.1.set (bt415.1:Int).toNat (⟨bt422.1,(jL bt411.1 bt415.1).f1,(jL bt411.1 bt415.1).f2⟩:S44)),bt422.2)) else (none)) else (none))) else (if bt417.1=1 then ((jB.f k s0_0 bt417.2 (([(-1),100]:List Int))).bind fun bt428=>(if 0≤bt415.1 then (if bt415.1<(bt411.1.length:Int) then (some (bt406.1,(bt411.1.set (bt415.1:Int).toNat (⟨(jL bt411.1 bt415.1).f0,bt428.1,(jL bt411.1 bt415.1).f2⟩:S44)),bt428.2)) else (none)) else (none))) else (if bt417.1=2 then ((jB.f k s0_0 bt417.2 (([5,100,(-1)]:List Int))).bind fun bt434=>(if 0≤bt415.1 then (if bt415.1<(bt411.1.length:Int) then (some (bt406.1,(bt411.1.set (bt415.1:Int).toNat (⟨(jL bt411.1 bt415.1).f0,(jL bt411.1 bt415.1).f1,bt434.1⟩:S44)),bt434.2)) else (none)) else (none))) else (some (bt406.1,bt411.1,bt417.2))))))) else (some (bt406.1,bt411.1,bt411.2)))))=some (r1,r2,r3):=h
 clear h
 replace H:=bzS H
 obtain ⟨⟨t406,t409⟩,A20,H⟩:=H
 replace H:((jea.f k s0_0 t409 t406).bind fun bt411=>(if (bt411.1.length:Int) > 0 then ((jr.f k s0_0 bt411.2 (bt411.1.length:Int)).bind fun bt415=>((jr.f k s0_0 bt415.2 24).bind fun bt417=>(if bt417.1=0 then ((jB.f k s0_0 bt417.2 (([(-1),4,2]:List Int))).bind fun bt422=>(if 0≤bt415.1 then (if bt415.1<(bt411.1.length:Int) then (some (t406,(bt411.1.set (bt415.1:Int).toNat (⟨bt422.1,(jL bt411.1 bt415.1).f1,(jL bt411.1 bt415.1).f2⟩:S44)),bt422.2)) else (none)) else (none))) else (if bt417.1=1 then ((jB.f k s0_0 bt417.2 (([(-1),100]:List Int))).bind fun bt428=>(if 0≤bt415.1 then (if bt415.1<(bt411.1.length:Int) then (some (t406,(bt411.1.set (bt415.1:Int).toNat (⟨(jL bt411.1 bt415.1).f0,bt428.1,(jL bt411.1 bt415.1).f2⟩:S44)),bt428.2)) else (none)) else (none))) else (if bt417.1=2 then ((jB.f k s0_0 bt417.2 (([5,100,(-1)]:List Int))).bind fun bt434=>(if 0≤bt415.1 then (if bt415.1<(bt411.1.length:Int) then (some (t406,(bt411.1.set (bt415.1:Int).toNat (⟨(jL bt411.1 bt415.1).f0,(jL bt411.1 bt415.1).f1,bt434.1⟩:S44)),bt434.2)) else (none)) else (none))) else (some (t406,bt411.1,bt417.2))))))) else (some (t406,bt411.1,bt411.2))))=some (r1,r2,r3):=H
 have A2:=am A20
 clear A20
 replace H:=bzS H
 obtain ⟨⟨t411,t414⟩,A30,H⟩:=H
 replace H:(if (t411.length:Int) > 0 then ((jr.f k s0_0 t414 (t411.length:Int)).bind fun bt415=>((jr.f k s0_0 bt415.2 24).bind fun bt417=>(if bt417.1=0 then ((jB.f k s0_0 bt417.2 (([(-1),4,2]:List Int))).bind fun bt422=>(if 0≤bt415.1 then (if bt415.1<(t411.length:Int) then (some (t406,(t411.set (bt415.1:Int).toNat (⟨bt422.1,(jL t411 bt415.1).f1,(jL t411 bt415.1).f2⟩:S44)),bt422.2)) else (none)) else (none))) else (if bt417.1=1 then ((jB.f k s0_0 bt417.2 (([(-1),100]:List Int))).bind fun bt428=>(if 0≤bt415.1 then (if bt415.1<(t411.length:Int) then (some (t406,(t411.set (bt415.1:Int).toNat (⟨(jL t411 bt415.1).f0,bt428.1,(jL t411 bt415.1).f2⟩:S44)),bt428.2)) else (none)) else (none))) else (if bt417.1=2 then ((jB.f k s0_0 bt417.2 (([5,100,(-1)]:List Int))).bind fun bt434=>(if 0≤bt415.1 then (if bt415.1<(t411.length:Int) then (some (t406,(t411.set (bt415.1:Int).toNat (⟨(jL t411 bt415.1).f0,(jL t411 bt415.1).f1,bt434.1⟩:S44)),bt434.2)) else (none)) else (none))) else (some (t406,t411,bt417.2))))))) else (some (t406,t411,t414)))=some (r1,r2,r3):=H
 have A3:=am A30
 clear A30
 by_cases c4:(t411.length:Int) > 0
 ·rw [if_pos c4] at H
  have c4b0:decide (0<(t411.length:Int))=true:=dzT c4
  have c4b1:decide (0<t411.length)=true:=dzT (by omega)
  clear c4
  replace H:=bzS H
  obtain ⟨⟨t415,t416⟩,A50,H⟩:=H
  replace H:((jr.f k s0_0 t416 24).bind fun bt417=>(if bt417.1=0 then ((jB.f k s0_0 bt417.2 (([(-1),4,2]:List Int))).bind fun bt422=>(if 0≤t415 then (if t415<(t411.length:Int) then (some (t406,(t411.set (t415:Int).toNat (⟨bt422.1,(jL t411 t415).f1,(jL t411 t415).f2⟩:S44)),bt422.2)) else (none)) else (none))) else (if bt417.1=1 then ((jB.f k s0_0 bt417.2 (([(-1),100]:List Int))).bind fun bt428=>(if 0≤t415 then (if t415<(t411.length:Int) then (some (t406,(t411.set (t415:Int).toNat (⟨(jL t411 t415).f0,bt428.1,(jL t411 t415).f2⟩:S44)),bt428.2)) else (none)) else (none))) else (if bt417.1=2 then ((jB.f k s0_0 bt417.2 (([5,100,(-1)]:List Int))).bind fun bt434=>(if 0≤t415 then (if t415<(t411.length:Int) then (some (t406,(t411.set (t415:Int).toNat (⟨(jL t411 t415).f0,(jL t411 t415).f1,bt434.1⟩:S44)),bt434.2)) else (none)) else (none))) else (some (t406,t411,bt417.2))))))=some (r1,r2,r3):=H
  have A5:=am A50
  clear A50
  replace H:=bzS H
  obtain ⟨⟨t417,t418⟩,A60,H⟩:=H
  replace H:(if t417=0 then ((jB.f k s0_0 t418 (([(-1),4,2]:List Int))).bind fun bt422=>(if 0≤t415 then (if t415<(t411.length:Int) then (some (t406,(t411.set (t415:Int).toNat (⟨bt422.1,(jL t411 t415).f1,(jL t411 t415).f2⟩:S44)),bt422.2)) else (none)) else (none))) else (if t417=1 then ((jB.f k s0_0 t418 (([(-1),100]:List Int))).bind fun bt428=>(if 0≤t415 then (if t415<(t411.length:Int) then (some (t406,(t411.set (t415:Int).toNat (⟨(jL t411 t415).f0,bt428.1,(jL t411 t415).f2⟩:S44)),bt428.2)) else (none)) else (none))) else (if t417=2 then ((jB.f k s0_0 t418 (([5,100,(-1)]:List Int))).bind fun bt434=>(if 0≤t415 then (if t415<(t411.length:Int) then (some (t406,(t411.set (t415:Int).toNat (⟨(jL t411 t415).f0,(jL t411 t415).f1,bt434.1⟩:S44)),bt434.2)) else (none)) else (none))) else (some (t406,t411,t418)))))=some (r1,r2,r3):=H
  have A6:=am A60
  clear A60
  by_cases c7:t417=0
  ·rw [if_pos c7] at H
   have c7b0:(t417 == 0)=true:=beq_iff_eq.mpr c7
   have c7b1:(t417 != 0)=false:=bne_eq_false_iff_eq.mpr c7
   clear c7
   obtain ⟨y419,hy419⟩:∃ y_:List Int,y_=(([(-1),4,2]:List Int)):=⟨_,rfl⟩
   replace H:((jB.f k s0_0 t418 y419).bind fun bt422=>(if 0≤t415 then (if t415<(t411.length:Int) then (some (t406,(t411.set (t415:Int).toNat (⟨bt422.1,(jL t411 t415).f1,(jL t411 t415).f2⟩:S44)),bt422.2)) else (none)) else (none)))=some (r1,r2,r3):=by first |(rw [hy419];with_reducible exact H) |(have H2_:=(Option.bind_some _ _).symm.trans H;rw [hy419];with_reducible exact H2_) |(have H2_:=(Option.bind_some _ _).symm.trans H;with_reducible exact H2_) | with_reducible exact H |(rw [hy419];exact H) | exact H
   have Ny419:=am hy419
   clear hy419
   replace H:=bzS H
   obtain ⟨⟨t422,t423⟩,A80,H⟩:=H
   replace H:(if 0≤t415 then (if t415<(t411.length:Int) then (some (t406,(t411.set (t415:Int).toNat (⟨t422,(jL t411 t415).f1,(jL t411 t415).f2⟩:S44)),t423)) else (none)) else (none))=some (r1,r2,r3):=H
   have A8:=am A80
   clear A80
   by_cases c9:0≤t415
   ·rw [if_pos c9] at H
    have c9b0:decide (0≤t415)=true:=dzT c9
    clear c9
    by_cases c10:t415<(t411.length:Int)
    ·rw [if_pos c10] at H
     have c10b0:decide (t415<(t411.length:Int))=true:=dzT c10
     clear c10
     obtain ⟨y424,hy424⟩:∃ y_:List (S44),y_=(t411.set (t415:Int).toNat (⟨t422,(jL t411 t415).f1,(jL t411 t415).f2⟩:S44)):=⟨_,rfl⟩
     replace H:(some (t406,y424,t423))=some (r1,r2,r3):=by first |(rw [hy424];with_reducible exact H) |(have H2_:=(Option.bind_some _ _).symm.trans H;rw [hy424];with_reducible exact H2_) |(have H2_:=(Option.bind_some _ _).symm.trans H;with_reducible exact H2_) | with_reducible exact H |(rw [hy424];exact H) | exact H
     have Ny424:=am hy424
     clear hy424
     simp only [Option.some.injEq,Prod.mk.injEq] at H
     obtain ⟨rfl,rfl,rfl⟩:=H
     go_enter Try.func46,Try.ntmps46
     go_wp2_with (first |((with_reducible refine jG (N:=2) rfl ?_);refine bE (N:=2) (cs:=#[.slice none 0 0]) (t:=31) ?_;intro gb405 hg w12 hbox hb;have BK405:=am (hbox);have GW405:=am ((Y7:w.heap.size≤gb405));have GE405:=am ((Nat.le_trans HW0.out (Y7:w.heap.size≤gb405):w0.heap.size≤gb405));have NB0_405:=am ((Y23:g≠gb405));have NB405_0:=am ((Y24:gb405≠g));replace HK:=am (jk.trans (Y11) (jk.of_below hb g none) (.inl rfl));replace HB:=am (jg (Y12) hb);replace HI0:=am (je.below (Y10) hb);clear hb hbox hg) |((with_reducible refine jo (f:=76) rfl ?_);refine gL (some 8) Try.func76 #[.pointer (some ⟨g,0,none⟩)] ?_;(with_reducible refine (jia.calls k g s0_0 s0_1 t406 t409 w0 _ ?side1 ?side2 A2.out).mono ?_);(case side1=>exact Y35);(case side2=>exact Y36);rintro e w13 ⟨v407,rfl,ho0,hi,hb,hk⟩;refine ⟨_,rfl,?_⟩;have HO408:=am (Kd.jpa ho0 (jya (w:=w) (g:=g) (row:=none) (Y17)));replace BK405:=am (jk.blk hk (g':=gb405) (o:=.cells #[.slice none 0 0] 31 (0,0)) (kq BK405.out) NB405_0.out (by simp));replace HK:=am (jk.trans (Y17) hk (.inl rfl));replace HB:=am (hb);replace HI0:=am (hi);(try clear hb);(try clear hb2);(try clear hk);(try clear hi);(try clear ho0)) |((with_reducible refine jG (N:=4) rfl ?_);refine bE (N:=4) (cs:=#[.slice none 0 0]) (t:=31) ?_;intro gb410 hg w14 hbox hb;have BK410:=am (hbox);have GW410:=am ((Y37:w.heap.size≤gb410));have GE410:=am ((Nat.le_trans HW0.out (Y37:w.heap.size≤gb410):w0.heap.size≤gb410));have NB405_410:=am ((Y56:gb405≠gb410));have NB410_405:=am ((Y57:gb410≠gb405));have NB0_410:=am ((Y58:g≠gb410));have NB410_0:=am ((Y59:gb410≠g));replace HO408:=am (Kd.jaa (rq HO408.out) hb);replace BK405:=am (jc (g:=gb405) (o:=.cells #[.slice none 0 0] 31 (0,0)) (kq BK405.out) hb);replace HK:=am (jk.trans (Y17) (jk.of_below hb g none) (.inl rfl));replace HB:=am (jg (Y36) hb);replace HI0:=am (je.below (Y35) hb);clear hb hbox hg;obtain ⟨Ao15,co15,eo15⟩:=Kd.jga HO408.out;subst eo15;have hnb16:=NB410_405.out;have hnc16:=NB405_410.out;have hnb17:=NB410_0.out;have hnc17:=NB0_410.out;have hcz18_0:=bc0 BK410.out;have hfz18_0:=ja BK410.out 0) |((with_reducible refine jo (f:=64) rfl ?_);refine gL (some 11) Try.func64 #[.pointer (some ⟨g,0,none⟩), .agg #[.slice Ao15 t406.length co15]] ?_;(with_reducible refine (jea.calls k g s0_0 t409 _ _ t406 t411 t414 w0 _ ?side1 ?side2 ?side3 ?side4 A3.out).mono ?_);(case side1=>exact Y1);(case side2=>exact Y8);(case side3=>exact Kd.jnc (je.apart (show je w0 _ g s0_0 t409 from Y1) (Y108) (by decide)) (fun _ h_=>h_.2));(case side4=>exact (Kd.jC HO408.out).2.1);rintro e w19 ⟨v412,rfl,ho0,hi,hb,hk⟩;refine ⟨_,rfl,?_⟩;have HO413:=am (Kd.jpa ho0 (jya (w:=w) (g:=g) (row:=none) (Y5)));replace BK405:=am (jk.blk hk (g':=gb405) (o:=.cells #[.slice none 0 0] 31 (0,0)) (Y60) NB405_0.out (by simp));replace HO408:=am (Kd.jJ (Kd.jIa (je.apart (show je w0 _ g s0_0 t409 from Y1) (Y108) (by decide)) hk (fun _ h=>h.2)) (fun _ h=>h.1));replace BK410:=am (jk.blk hk (g':=gb410) (o:=.cells #[.slice Ao15 t406.length co15] 31 (0,0)) (Y61) NB410_0.out (by simp));replace HK:=am (jk.trans (Y5) hk (.inl rfl));replace HB:=am (hb);replace HI0:=am (hi);(try clear hb);(try clear hb2);(try clear hk);(try clear hi);(try clear ho0);obtain ⟨Ao20,co20,eo20⟩:=Kd.jga HO413.out;subst eo20) |((with_reducible refine jo (f:=47) rfl ?_);refine gL (some 18) Try.func47 #[.pointer (some ⟨g,0,none⟩), .int .i64 (t411.length:Int)] ?_;(with_reducible refine (jr.calls k g s0_0 t414 (t411.length:Int) t415 t416 w0 _ ?side1 ?side2 A5.out).mono ?_);(case side1=>exact Y1);(case side2=>exact Y8);rintro e w21 ⟨rfl,hi,hb,hk⟩;refine ⟨_,rfl,?_⟩;replace BK405:=am (jk.blk hk (g':=gb405) (o:=.cells #[.slice none 0 0] 31 (0,0)) (kq BK405.out) NB405_0.out (by simp));replace HO408:=am (Kd.jJ (Kd.jIa (je.apart (show je w0 _ g s0_0 t414 from Y1) (rq HO408.out) (by decide)) hk (fun _ h=>h.2)) (fun _ h=>h.1));replace BK410:=am (jk.blk hk (g':=gb410) (o:=.cells #[.slice Ao15 t406.length co15] 31 (0,0)) (kq BK410.out) NB410_0.out (by simp));replace HO413:=am (Kd.jJ (Kd.jIa (je.apart (show je w0 _ g s0_0 t414 from Y1) (rq HO413.out) (by decide)) hk (fun _ h=>h.2)) (fun _ h=>h.1));replace HK:=am (jk.trans (Y5) hk (.inl rfl));replace HB:=am (hb);replace HI0:=am (hi);(try clear hb);(try clear hb2);(try clear hk);(try clear hi)) |((with_reducible refine jo (f:=47) rfl ?_);refine gL (some 20) Try.func47 #[.pointer (some ⟨g,0,none⟩), .int .i64 24] ?_;(with_reducible refine (jr.calls k g s0_0 t416 24 t417 t418 w0 _ ?side1 ?side2 A6.out).mono ?_);(case side1=>exact Y1);(case side2=>exact Y8);rintro e w22 ⟨rfl,hi,hb,hk⟩;refine ⟨_,rfl,?_⟩;replace BK405:=am (jk.blk hk (g':=gb405) (o:=.cells #[.slice none 0 0] 31 (0,0)) (kq BK405.out) NB405_0.out (by simp));replace HO408:=am (Kd.jJ (Kd.jIa (je.apart (show je w0 _ g s0_0 t416 from Y1) (rq HO408.out) (by decide)) hk (fun _ h=>h.2)) (fun _ h=>h.1));replace BK410:=am (jk.blk hk (g':=gb410) (o:=.cells #[.slice Ao15 t406.length co15] 31 (0,0)) (kq BK410.out) NB410_0.out (by simp));replace HO413:=am (Kd.jJ (Kd.jIa (je.apart (show je w0 _ g s0_0 t416 from Y1) (rq HO413.out) (by decide)) hk (fun _ h=>h.2)) (fun _ h=>h.1));replace HK:=am (jk.trans (Y5) hk (.inl rfl));replace HB:=am (hb);replace HI0:=am (hi);(try clear hb);(try clear hb2);(try clear hk);(try clear hi)) |((with_reducible refine jG (N:=26) rfl ?_);refine Kd.R_lit (Kd.int .i64) _ 3 ?hg (N:=26) ?hd (xs:=([(-1),4,2]:List Int)) (inner:=[.int .i64 (-1), .int .i64 4, .int .i64 2]) (ok:=fun _=>True) (okp:=fun _=>True) ?hr ?hp (fun _ hk=>hk) trivial (Below.refl _ _) (Nat.le_refl _) (by simp) ?_;(case hd=>rfl);(case hg=>rfl);(case hr=>exact Y3);(case hp=>exact (Reps.one (show Kd.M (Kd.int .i64) _ _ _ (-1) [.int .i64 (-1)] from rfl) (Reps.one (show Kd.M (Kd.int .i64) _ _ _ 4 [.int .i64 4] from rfl) (Reps.one (show Kd.M (Kd.int .i64) _ _ _ 2 [.int .i64 2] from rfl) (Reps.none _ _)))));intro v420 w23 ho24 hb hg_ hnew_;clear hg_ hnew_;(first | rw [← Ny419.out] at ho24 |(simp only [Int.reduceToNat] at ho24;rw [← Ny419.out] at ho24));have HO421:=am (Kd.jpa ho24 (jya (w:=w) (g:=g) (row:=none) (Y5)));replace HO408:=am (Kd.jaa (rq HO408.out) hb);replace HO413:=am (Kd.jaa (rq HO413.out) hb);replace BK405:=am (jc (g:=gb405) (o:=.cells #[.slice none 0 0] 31 (0,0)) (kq BK405.out) hb);replace BK410:=am (jc (g:=gb410) (o:=.cells #[.slice Ao15 t406.length co15] 31 (0,0)) (kq BK410.out) hb);replace HK:=am (jk.trans (Y5) (jk.of_below hb g none) (.inl rfl));replace HB:=am (jg (Y8) hb);replace HI0:=am (je.below (Y1) hb);clear hb ho24;obtain ⟨Ao25,co25,eo25⟩:=Kd.jga HO421.out;subst eo25) |((with_reducible refine jo (f:=77) rfl ?_);refine gL (some 27) Try.func77 #[.pointer (some ⟨g,0,none⟩), .slice Ao25 y419.length co25] ?_;(with_reducible refine (jB.calls k g s0_0 t418 _ _ y419 t422 t423 w0 _ ?side1 ?side2 ?side3 ?side4 ?side5 A8.out).mono ?_);(case side1=>exact Y1);(case side2=>exact Y8);(case side3=>exact cq (Kd.jC HO421.out).2.2);(case side4=>exact (Kd.jC HO421.out).2.1);(case side5=>exact jIb (je.own_ne HI0.out HO421.out (by decide)));rintro e w26 ⟨rfl,hi,hb,hk⟩;refine ⟨_,rfl,?_⟩;replace BK405:=am (jk.blk hk (g':=gb405) (o:=.cells #[.slice none 0 0] 31 (0,0)) (kq BK405.out) NB405_0.out (by simp));replace HO408:=am (Kd.jJ (Kd.jIa (je.apart (show je w0 _ g s0_0 t418 from Y1) (rq HO408.out) (by decide)) hk (fun _ h=>h.2)) (fun _ h=>h.1));replace BK410:=am (jk.blk hk (g':=gb410) (o:=.cells #[.slice Ao15 t406.length co15] 31 (0,0)) (kq BK410.out) NB410_0.out (by simp));replace HO413:=am (Kd.jJ (Kd.jIa (je.apart (show je w0 _ g s0_0 t418 from Y1) (rq HO413.out) (by decide)) hk (fun _ h=>h.2)) (fun _ h=>h.1));replace HO421:=am (Kd.jJ (Kd.jIa (je.apart (show je w0 _ g s0_0 t418 from Y1) (rq HO421.out) (by decide)) hk (fun _ h=>h.2)) (fun _ h=>h.1));replace HK:=am (jk.trans (Y5) hk (.inl rfl));replace HB:=am (hb);replace HI0:=am (hi);(try clear hb);(try clear hb2);(try clear hk);(try clear hi);have p11:0≤(t415:Int):=ozD (uq);have q11:(t415:Int)<((t411.length:Int):Int):=ozD (uq);obtain ⟨go11,co11,eo11,gb11,gl11,cl11,HG11⟩:=Kd.R_form HO413.out (by omega);(first | cases eo11 |(injection eo11 with ea_ en_ ec_;(first | subst ea_ |(injection ea_ with ea_;subst ea_));subst ec_;clear en_));have GB11:=am gb11;have GG11:=am HG11;clear gb11 gl11 HG11;obtain ⟨ce11,hcl11,hM11,hcc11,hfr11⟩:=Kd.R_elem HO413.out z44 (t415:Int) p11 q11;obtain rfl:=jmc hM11;have hx11_0:w26.cell? ⟨go11,(t415:Int).toNat * 3,none⟩=some (.int .i64 ((jL t411 t415).f0)):=hcc11 0 _ rfl;have hx11_1:w26.cell? ⟨go11,(t415:Int).toNat * 3+1,none⟩=some (.int .i64 ((jL t411 t415).f1)):=hcc11 1 _ rfl;have hx11_2:w26.cell? ⟨go11,(t415:Int).toNat * 3+2,none⟩=some (.int .i64 ((jL t411 t415).f2)):=hcc11 2 _ rfl;have hf11_0:w26.frozen? ⟨go11,(t415:Int).toNat * 3,none⟩=false:=hfr11 0;have hf11_1:w26.frozen? ⟨go11,(t415:Int).toNat * 3+1,none⟩=false:=hfr11 1;have hf11_2:w26.frozen? ⟨go11,(t415:Int).toNat * 3+2,none⟩=false:=hfr11 2;clear hcl11 hcc11 hfr11 hM11;replace p11:=ezT p11;replace q11:=ezT q11;have HX27:=am (show Kd.R k44 44 w26 w.heap.size (fun _=>True) (.slice (some ⟨go11,0,none⟩) t411.length co20) t411 from (rq HO413.out));obtain ⟨ce27,hcl27,hM27,hcc27,hfr27⟩:=Kd.R_elem HX27.out z44 (t415:Int) (ozD (uq)) (by have h_:(t415:Int)<((t411.length:Int):Int):=ozD (uq);first | exact h_ |(have e_:=(Kd.jC HO413.out).1;omega) | simpa using h_);obtain rfl:=jmc hM27;have HP27:=Kd.R_seg HX27.out (t415:Int) (ozD (uq)) (by have h_:(t415:Int)<((t411.length:Int):Int):=ozD (uq);first | exact h_ |(have e_:=(Kd.jC HO413.out).1;omega) | simpa using h_) (seg:=[.int .i64 t422]) (j:=0) hcl27 hcc27 (show 1≤3 from by decide) (x':=(⟨t422,(jL t411 t415).f1,(jL t411 t415).f2⟩:S44)) (k44_mkM _ _ _ (⟨t422,(jL t411 t415).f1,(jL t411 t415).f2⟩:S44) ) (fun _ hk=>hk);have hx27_0:=hcc27 0 _ rfl;(try simp only [show (k44).sz=3 from rfl,Nat.mul_one,Nat.add_zero] at hx27_0);have hf27_0:=hfr27 0;(try simp only [show (k44).sz=3 from rfl,Nat.mul_one,Nat.add_zero] at hf27_0);clear hcl27 hcc27 hfr27 hM27) |((with_reducible refine gate_store (t:=3) (p:=29) rfl ?_);refine store_event (t:=3) (p:=29) (v:=?vo_w28) (w1:=(w26.setCell ⟨go11,(t415:Int).toNat * 3,none⟩ (.int .i64 t422))) ?hg ?ho ?hn ?hr ?_;(case ho=>rfl);(case hg=>rfl);(case hn=>rfl);(case hr=>exact Y3);intro w28 hw;have hg:w26.grownBy w28 (some go11):=(by rw [hw];exact HP27.2);have hp_:Kd.R k44 44 w28 w.heap.size (fun _=>True) (.slice (some ⟨go11,0,none⟩) t411.length co20) y424:=(by rw [hw,Ny424.out];exact HP27.1);clear HP27;replace HI0:=am (je.grown (Y1) hg (je.own_ne HI0.out HO413.out (by decide)));replace BK405:=am (jqa (g:=gb405) (o:=.cells #[.slice none 0 0] 31 (0,0)) (kq BK405.out) hg (Kd.R_ne HO413.out BK405.out (by decide)));replace HO408:=am (Kd.jkc (v:=(.slice (some ⟨go11,0,none⟩) t411.length co20)) (rq HO408.out) (Kd.jjc HO413.out) (by decide) hg);replace BK410:=am (jqa (g:=gb410) (o:=.cells #[.slice Ao15 t406.length co15] 31 (0,0)) (kq BK410.out) hg (Kd.R_ne HO413.out BK410.out (by decide)));replace HO421:=am (Kd.jkc (v:=(.slice (some ⟨go11,0,none⟩) t411.length co20)) (rq HO421.out) (Kd.jjc HO413.out) (by decide) hg);replace HB:=am ((by rw [hw];exact jy (HB.out) (Nat.le_trans HL.out GB11.out):Below w0.heap.size w0 w28));replace HK:=am (jk.trans (Y5) (jk.jGb hg g) (Kd.R_base2 HO413.out));replace HO413:=am (hp_);clear hg hw hp_;have hcz29_0:=bc0 BK410.out;have hfz29_0:=ja BK410.out 0;have hnb30:=NB405_0.out;have hnc30:=NB0_405.out;have hcz31_0:=bc0 BK405.out;have hfz31_0:=ja BK405.out 0))
     refine bodyPost_ret (jmb rfl _ _ gb405 31 #[.slice Ao15 t406.length co15] (0,0) _ rfl (Y62) Try.underlying31 rfl (by kernel_rfl)) rfl ?_
     exact ⟨_,_,Y0,by (with_reducible repeat (first | apply Kd.jda | apply Kd.jfa | apply Kd.jma));exact Kd.jJ (Kd.joa (p:=⟨gb405,0,none⟩) (Kd.jna HO408.out BK405.out (by decide)) (fun _ hk=>hk.2) (.slice Ao15 t406.length co15)) (fun _ hk=>trivial),by (with_reducible repeat (first | apply Kd.jda | apply Kd.jfa | apply Kd.jma));exact Kd.jJ (Kd.joa (p:=⟨gb405,0,none⟩) (Kd.jna HO413.out BK405.out (by decide)) (fun _ hk=>hk.2) (.slice Ao15 t406.length co15)) (fun _ hk=>trivial),Y1,Y8,Y5⟩
    ·rw [if_neg c10] at H
     exact absurd H (by simp)
   ·rw [if_neg c9] at H
    exact absurd H (by simp)
  ·rw [if_neg c7] at H
   have c7b0:(t417 == 0)=false:=beq_eq_false_iff_ne.mpr c7
   have c7b1:(t417 != 0)=true:=bne_iff_ne.mpr c7
   by_cases c32:t417=1
   ·rw [if_pos c32] at H
    have c32b0:(t417 == 1)=true:=beq_iff_eq.mpr c32
    have c32b1:(t417 != 1)=false:=bne_eq_false_iff_eq.mpr c32
    clear c32
    obtain ⟨y425,hy425⟩:∃ y_:List Int,y_=(([(-1),100]:List Int)):=⟨_,rfl⟩
    replace H:((jB.f k s0_0 t418 y425).bind fun bt428=>(if 0≤t415 then (if t415<(t411.length:Int) then (some (t406,(t411.set (t415:Int).toNat (⟨(jL t411 t415).f0,bt428.1,(jL t411 t415).f2⟩:S44)),bt428.2)) else (none)) else (none)))=some (r1,r2,r3):=by first |(rw [hy425];with_reducible exact H) |(have H2_:=(Option.bind_some _ _).symm.trans H;rw [hy425];with_reducible exact H2_) |(have H2_:=(Option.bind_some _ _).symm.trans H;with_reducible exact H2_) | with_reducible exact H |(rw [hy425];exact H) | exact H
    have Ny425:=am hy425
    clear hy425
    replace H:=bzS H
    obtain ⟨⟨t428,t429⟩,A330,H⟩:=H
    replace H:(if 0≤t415 then (if t415<(t411.length:Int) then (some (t406,(t411.set (t415:Int).toNat (⟨(jL t411 t415).f0,t428,(jL t411 t415).f2⟩:S44)),t429)) else (none)) else (none))=some (r1,r2,r3):=H
    have A33:=am A330
    clear A330
    by_cases c34:0≤t415
    ·rw [if_pos c34] at H
     have c34b0:decide (0≤t415)=true:=dzT c34
     clear c34
     by_cases c35:t415<(t411.length:Int)
     ·rw [if_pos c35] at H
      have c35b0:decide (t415<(t411.length:Int))=true:=dzT c35
      clear c35
      obtain ⟨y430,hy430⟩:∃ y_:List (S44),y_=(t411.set (t415:Int).toNat (⟨(jL t411 t415).f0,t428,(jL t411 t415).f2⟩:S44)):=⟨_,rfl⟩
      replace H:(some (t406,y430,t429))=some (r1,r2,r3):=by first |(rw [hy430];with_reducible exact H) |(have H2_:=(Option.bind_some _ _).symm.trans H;rw [hy430];with_reducible exact H2_) |(have H2_:=(Option.bind_some _ _).symm.trans H;with_reducible exact H2_) | with_reducible exact H |(rw [hy430];exact H) | exact H
      have Ny430:=am hy430
      clear hy430
      simp only [Option.some.injEq,Prod.mk.injEq] at H
      obtain ⟨rfl,rfl,rfl⟩:=H
      go_enter Try.func46,Try.ntmps46
      go_wp2_with (first |((with_reducible refine jG (N:=2) rfl ?_);refine bE (N:=2) (cs:=#[.slice none 0 0]) (t:=31) ?_;intro gb405 hg w37 hbox hb;have BK405:=am (hbox);have GW405:=am ((Y7:w.heap.size≤gb405));have GE405:=am ((Nat.le_trans HW0.out (Y7:w.heap.size≤gb405):w0.heap.size≤gb405));have NB0_405:=am ((Y23:g≠gb405));have NB405_0:=am ((Y24:gb405≠g));replace HK:=am (jk.trans (Y11) (jk.of_below hb g none) (.inl rfl));replace HB:=am (jg (Y12) hb);replace HI0:=am (je.below (Y10) hb);clear hb hbox hg) |((with_reducible refine jo (f:=76) rfl ?_);refine gL (some 8) Try.func76 #[.pointer (some ⟨g,0,none⟩)] ?_;(with_reducible refine (jia.calls k g s0_0 s0_1 t406 t409 w0 _ ?side1 ?side2 A2.out).mono ?_);(case side1=>exact Y35);(case side2=>exact Y36);rintro e w38 ⟨v407,rfl,ho0,hi,hb,hk⟩;refine ⟨_,rfl,?_⟩;have HO408:=am (Kd.jpa ho0 (jya (w:=w) (g:=g) (row:=none) (Y17)));replace BK405:=am (jk.blk hk (g':=gb405) (o:=.cells #[.slice none 0 0] 31 (0,0)) (kq BK405.out) NB405_0.out (by simp));replace HK:=am (jk.trans (Y17) hk (.inl rfl));replace HB:=am (hb);replace HI0:=am (hi);(try clear hb);(try clear hb2);(try clear hk);(try clear hi);(try clear ho0)) |((with_reducible refine jG (N:=4) rfl ?_);refine bE (N:=4) (cs:=#[.slice none 0 0]) (t:=31) ?_;intro gb410 hg w39 hbox hb;have BK410:=am (hbox);have GW410:=am ((Y37:w.heap.size≤gb410));have GE410:=am ((Nat.le_trans HW0.out (Y37:w.heap.size≤gb410):w0.heap.size≤gb410));have NB405_410:=am ((Y56:gb405≠gb410));have NB410_405:=am ((Y57:gb410≠gb405));have NB0_410:=am ((Y58:g≠gb410));have NB410_0:=am ((Y59:gb410≠g));replace HO408:=am (Kd.jaa (rq HO408.out) hb);replace BK405:=am (jc (g:=gb405) (o:=.cells #[.slice none 0 0] 31 (0,0)) (kq BK405.out) hb);replace HK:=am (jk.trans (Y17) (jk.of_below hb g none) (.inl rfl));replace HB:=am (jg (Y36) hb);replace HI0:=am (je.below (Y35) hb);clear hb hbox hg;obtain ⟨Ao40,co40,eo40⟩:=Kd.jga HO408.out;subst eo40;have hnb41:=NB410_405.out;have hnc41:=NB405_410.out;have hnb42:=NB410_0.out;have hnc42:=NB0_410.out;have hcz43_0:=bc0 BK410.out;have hfz43_0:=ja BK410.out 0) |((with_reducible refine jo (f:=64) rfl ?_);refine gL (some 11) Try.func64 #[.pointer (some ⟨g,0,none⟩), .agg #[.slice Ao40 t406.length co40]] ?_;(with_reducible refine (jea.calls k g s0_0 t409 _ _ t406 t411 t414 w0 _ ?side1 ?side2 ?side3 ?side4 A3.out).mono ?_);(case side1=>exact Y1);(case side2=>exact Y8);(case side3=>exact Kd.jnc (je.apart (show je w0 _ g s0_0 t409 from Y1) (Y109) (by decide)) (fun _ h_=>h_.2));(case side4=>exact (Kd.jC HO408.out).2.1);rintro e w44 ⟨v412,rfl,ho0,hi,hb,hk⟩;refine ⟨_,rfl,?_⟩;have HO413:=am (Kd.jpa ho0 (jya (w:=w) (g:=g) (row:=none) (Y5)));replace BK405:=am (jk.blk hk (g':=gb405) (o:=.cells #[.slice none 0 0] 31 (0,0)) (Y60) NB405_0.out (by simp));replace HO408:=am (Kd.jJ (Kd.jIa (je.apart (show je w0 _ g s0_0 t409 from Y1) (Y109) (by decide)) hk (fun _ h=>h.2)) (fun _ h=>h.1));replace BK410:=am (jk.blk hk (g':=gb410) (o:=.cells #[.slice Ao40 t406.length co40] 31 (0,0)) (Y61) NB410_0.out (by simp));replace HK:=am (jk.trans (Y5) hk (.inl rfl));replace HB:=am (hb);replace HI0:=am (hi);(try clear hb);(try clear hb2);(try clear hk);(try clear hi);(try clear ho0);obtain ⟨Ao45,co45,eo45⟩:=Kd.jga HO413.out;subst eo45) |((with_reducible refine jo (f:=47) rfl ?_);refine gL (some 18) Try.func47 #[.pointer (some ⟨g,0,none⟩), .int .i64 (t411.length:Int)] ?_;(with_reducible refine (jr.calls k g s0_0 t414 (t411.length:Int) t415 t416 w0 _ ?side1 ?side2 A5.out).mono ?_);(case side1=>exact Y1);(case side2=>exact Y8);rintro e w46 ⟨rfl,hi,hb,hk⟩;refine ⟨_,rfl,?_⟩;replace BK405:=am (jk.blk hk (g':=gb405) (o:=.cells #[.slice none 0 0] 31 (0,0)) (kq BK405.out) NB405_0.out (by simp));replace HO408:=am (Kd.jJ (Kd.jIa (je.apart (show je w0 _ g s0_0 t414 from Y1) (rq HO408.out) (by decide)) hk (fun _ h=>h.2)) (fun _ h=>h.1));replace BK410:=am (jk.blk hk (g':=gb410) (o:=.cells #[.slice Ao40 t406.length co40] 31 (0,0)) (kq BK410.out) NB410_0.out (by simp));replace HO413:=am (Kd.jJ (Kd.jIa (je.apart (show je w0 _ g s0_0 t414 from Y1) (rq HO413.out) (by decide)) hk (fun _ h=>h.2)) (fun _ h=>h.1));replace HK:=am (jk.trans (Y5) hk (.inl rfl));replace HB:=am (hb);replace HI0:=am (hi);(try clear hb);(try clear hb2);(try clear hk);(try clear hi)) |((with_reducible refine jo (f:=47) rfl ?_);refine gL (some 20) Try.func47 #[.pointer (some ⟨g,0,none⟩), .int .i64 24] ?_;(with_reducible refine (jr.calls k g s0_0 t416 24 t417 t418 w0 _ ?side1 ?side2 A6.out).mono ?_);(case side1=>exact Y1);(case side2=>exact Y8);rintro e w47 ⟨rfl,hi,hb,hk⟩;refine ⟨_,rfl,?_⟩;replace BK405:=am (jk.blk hk (g':=gb405) (o:=.cells #[.slice none 0 0] 31 (0,0)) (kq BK405.out) NB405_0.out (by simp));replace HO408:=am (Kd.jJ (Kd.jIa (je.apart (show je w0 _ g s0_0 t416 from Y1) (rq HO408.out) (by decide)) hk (fun _ h=>h.2)) (fun _ h=>h.1));replace BK410:=am (jk.blk hk (g':=gb410) (o:=.cells #[.slice Ao40 t406.length co40] 31 (0,0)) (kq BK410.out) NB410_0.out (by simp));replace HO413:=am (Kd.jJ (Kd.jIa (je.apart (show je w0 _ g s0_0 t416 from Y1) (rq HO413.out) (by decide)) hk (fun _ h=>h.2)) (fun _ h=>h.1));replace HK:=am (jk.trans (Y5) hk (.inl rfl));replace HB:=am (hb);replace HI0:=am (hi);(try clear hb);(try clear hb2);(try clear hk);(try clear hi)) |((with_reducible refine jG (N:=35) rfl ?_);refine Kd.R_lit (Kd.int .i64) _ 3 ?hg (N:=35) ?hd (xs:=([(-1),100]:List Int)) (inner:=[.int .i64 (-1), .int .i64 100]) (ok:=fun _=>True) (okp:=fun _=>True) ?hr ?hp (fun _ hk=>hk) trivial (Below.refl _ _) (Nat.le_refl _) (by simp) ?_;(case hd=>rfl);(case hg=>rfl);(case hr=>exact Y3);(case hp=>exact (Reps.one (show Kd.M (Kd.int .i64) _ _ _ (-1) [.int .i64 (-1)] from rfl) (Reps.one (show Kd.M (Kd.int .i64) _ _ _ 100 [.int .i64 100] from rfl) (Reps.none _ _))));intro v426 w48 ho49 hb hg_ hnew_;clear hg_ hnew_;(first | rw [← Ny425.out] at ho49 |(simp only [Int.reduceToNat] at ho49;rw [← Ny425.out] at ho49));have HO427:=am (Kd.jpa ho49 (jya (w:=w) (g:=g) (row:=none) (Y5)));replace HO408:=am (Kd.jaa (rq HO408.out) hb);replace HO413:=am (Kd.jaa (rq HO413.out) hb);replace BK405:=am (jc (g:=gb405) (o:=.cells #[.slice none 0 0] 31 (0,0)) (kq BK405.out) hb);replace BK410:=am (jc (g:=gb410) (o:=.cells #[.slice Ao40 t406.length co40] 31 (0,0)) (kq BK410.out) hb);replace HK:=am (jk.trans (Y5) (jk.of_below hb g none) (.inl rfl));replace HB:=am (jg (Y8) hb);replace HI0:=am (je.below (Y1) hb);clear hb ho49;obtain ⟨Ao50,co50,eo50⟩:=Kd.jga HO427.out;subst eo50) |((with_reducible refine jo (f:=77) rfl ?_);refine gL (some 36) Try.func77 #[.pointer (some ⟨g,0,none⟩), .slice Ao50 y425.length co50] ?_;(with_reducible refine (jB.calls k g s0_0 t418 _ _ y425 t428 t429 w0 _ ?side1 ?side2 ?side3 ?side4 ?side5 A33.out).mono ?_);(case side1=>exact Y1);(case side2=>exact Y8);(case side3=>exact cq (Kd.jC HO427.out).2.2);(case side4=>exact (Kd.jC HO427.out).2.1);(case side5=>exact jIb (je.own_ne HI0.out HO427.out (by decide)));rintro e w51 ⟨rfl,hi,hb,hk⟩;refine ⟨_,rfl,?_⟩;replace BK405:=am (jk.blk hk (g':=gb405) (o:=.cells #[.slice none 0 0] 31 (0,0)) (kq BK405.out) NB405_0.out (by simp));replace HO408:=am (Kd.jJ (Kd.jIa (je.apart (show je w0 _ g s0_0 t418 from Y1) (rq HO408.out) (by decide)) hk (fun _ h=>h.2)) (fun _ h=>h.1));replace BK410:=am (jk.blk hk (g':=gb410) (o:=.cells #[.slice Ao40 t406.length co40] 31 (0,0)) (kq BK410.out) NB410_0.out (by simp));replace HO413:=am (Kd.jJ (Kd.jIa (je.apart (show je w0 _ g s0_0 t418 from Y1) (rq HO413.out) (by decide)) hk (fun _ h=>h.2)) (fun _ h=>h.1));replace HO427:=am (Kd.jJ (Kd.jIa (je.apart (show je w0 _ g s0_0 t418 from Y1) (rq HO427.out) (by decide)) hk (fun _ h=>h.2)) (fun _ h=>h.1));replace HK:=am (jk.trans (Y5) hk (.inl rfl));replace HB:=am (hb);replace HI0:=am (hi);(try clear hb);(try clear hb2);(try clear hk);(try clear hi);have p36:0≤(t415:Int):=ozD (uq);have q36:(t415:Int)<((t411.length:Int):Int):=ozD (uq);obtain ⟨go36,co36,eo36,gb36,gl36,cl36,HG36⟩:=Kd.R_form HO413.out (by omega);(first | cases eo36 |(injection eo36 with ea_ en_ ec_;(first | subst ea_ |(injection ea_ with ea_;subst ea_));subst ec_;clear en_));have GB36:=am gb36;have GG36:=am HG36;clear gb36 gl36 HG36;obtain ⟨ce36,hcl36,hM36,hcc36,hfr36⟩:=Kd.R_elem HO413.out z44 (t415:Int) p36 q36;obtain rfl:=jmc hM36;have hx36_0:w51.cell? ⟨go36,(t415:Int).toNat * 3,none⟩=some (.int .i64 ((jL t411 t415).f0)):=hcc36 0 _ rfl;have hx36_1:w51.cell? ⟨go36,(t415:Int).toNat * 3+1,none⟩=some (.int .i64 ((jL t411 t415).f1)):=hcc36 1 _ rfl;have hx36_2:w51.cell? ⟨go36,(t415:Int).toNat * 3+2,none⟩=some (.int .i64 ((jL t411 t415).f2)):=hcc36 2 _ rfl;have hf36_0:w51.frozen? ⟨go36,(t415:Int).toNat * 3,none⟩=false:=hfr36 0;have hf36_1:w51.frozen? ⟨go36,(t415:Int).toNat * 3+1,none⟩=false:=hfr36 1;have hf36_2:w51.frozen? ⟨go36,(t415:Int).toNat * 3+2,none⟩=false:=hfr36 2;clear hcl36 hcc36 hfr36 hM36;replace p36:=ezT p36;replace q36:=ezT q36;have HX52:=am (show Kd.R k44 44 w51 w.heap.size (fun _=>True) (.slice (some ⟨go36,0,none⟩) t411.length co45) t411 from (rq HO413.out));obtain ⟨ce52,hcl52,hM52,hcc52,hfr52⟩:=Kd.R_elem HX52.out z44 (t415:Int) (ozD (uq)) (by have h_:(t415:Int)<((t411.length:Int):Int):=ozD (uq);first | exact h_ |(have e_:=(Kd.jC HO413.out).1;omega) | simpa using h_);obtain rfl:=jmc hM52;have HP52:=Kd.R_seg HX52.out (t415:Int) (ozD (uq)) (by have h_:(t415:Int)<((t411.length:Int):Int):=ozD (uq);first | exact h_ |(have e_:=(Kd.jC HO413.out).1;omega) | simpa using h_) (seg:=[.int .i64 t428]) (j:=1) hcl52 hcc52 (show 2≤3 from by decide) (x':=(⟨(jL t411 t415).f0,t428,(jL t411 t415).f2⟩:S44)) (k44_mkM _ _ _ (⟨(jL t411 t415).f0,t428,(jL t411 t415).f2⟩:S44) ) (fun _ hk=>hk);have hx52_1:=hcc52 1 _ rfl;(try simp only [show (k44).sz=3 from rfl,Nat.mul_one,Nat.add_zero] at hx52_1);have hf52_1:=hfr52 1;(try simp only [show (k44).sz=3 from rfl,Nat.mul_one,Nat.add_zero] at hf52_1);clear hcl52 hcc52 hfr52 hM52) |((with_reducible refine gate_store (t:=3) (p:=38) rfl ?_);refine store_event (t:=3) (p:=38) (v:=?vo_w53) (w1:=(w51.setCell ⟨go36,(t415:Int).toNat * 3+1,none⟩ (.int .i64 t428))) ?hg ?ho ?hn ?hr ?_;(case ho=>rfl);(case hg=>rfl);(case hn=>rfl);(case hr=>exact Y3);intro w53 hw;have hg:w51.grownBy w53 (some go36):=(by rw [hw];exact HP52.2);have hp_:Kd.R k44 44 w53 w.heap.size (fun _=>True) (.slice (some ⟨go36,0,none⟩) t411.length co45) y430:=(by rw [hw,Ny430.out];exact HP52.1);clear HP52;replace HI0:=am (je.grown (Y1) hg (je.own_ne HI0.out HO413.out (by decide)));replace BK405:=am (jqa (g:=gb405) (o:=.cells #[.slice none 0 0] 31 (0,0)) (kq BK405.out) hg (Kd.R_ne HO413.out BK405.out (by decide)));replace HO408:=am (Kd.jkc (v:=(.slice (some ⟨go36,0,none⟩) t411.length co45)) (rq HO408.out) (Kd.jjc HO413.out) (by decide) hg);replace BK410:=am (jqa (g:=gb410) (o:=.cells #[.slice Ao40 t406.length co40] 31 (0,0)) (kq BK410.out) hg (Kd.R_ne HO413.out BK410.out (by decide)));replace HO427:=am (Kd.jkc (v:=(.slice (some ⟨go36,0,none⟩) t411.length co45)) (rq HO427.out) (Kd.jjc HO413.out) (by decide) hg);replace HB:=am ((by rw [hw];exact jy (HB.out) (Nat.le_trans HL.out GB36.out):Below w0.heap.size w0 w53));replace HK:=am (jk.trans (Y5) (jk.jGb hg g) (Kd.R_base2 HO413.out));replace HO413:=am (hp_);clear hg hw hp_;have hcz54_0:=bc0 BK410.out;have hfz54_0:=ja BK410.out 0;have hnb55:=NB405_0.out;have hnc55:=NB0_405.out;have hcz56_0:=bc0 BK405.out;have hfz56_0:=ja BK405.out 0))
      refine bodyPost_ret (jmb rfl _ _ gb405 31 #[.slice Ao40 t406.length co40] (0,0) _ rfl (Y62) Try.underlying31 rfl (by kernel_rfl)) rfl ?_
      exact ⟨_,_,Y0,by (with_reducible repeat (first | apply Kd.jda | apply Kd.jfa | apply Kd.jma));exact Kd.jJ (Kd.joa (p:=⟨gb405,0,none⟩) (Kd.jna HO408.out BK405.out (by decide)) (fun _ hk=>hk.2) (.slice Ao40 t406.length co40)) (fun _ hk=>trivial),by (with_reducible repeat (first | apply Kd.jda | apply Kd.jfa | apply Kd.jma));exact Kd.jJ (Kd.joa (p:=⟨gb405,0,none⟩) (Kd.jna HO413.out BK405.out (by decide)) (fun _ hk=>hk.2) (.slice Ao40 t406.length co40)) (fun _ hk=>trivial),Y1,Y8,Y5⟩
     ·rw [if_neg c35] at H
      exact absurd H (by simp)
    ·rw [if_neg c34] at H
     exact absurd H (by simp)
   ·rw [if_neg c32] at H
    have c32b0:(t417 == 1)=false:=beq_eq_false_iff_ne.mpr c32
    have c32b1:(t417 != 1)=true:=bne_iff_ne.mpr c32
    by_cases c57:t417=2
    ·rw [if_pos c57] at H
     have c57b0:(t417 == 2)=true:=beq_iff_eq.mpr c57
     have c57b1:(t417 != 2)=false:=bne_eq_false_iff_eq.mpr c57
     clear c57
     obtain ⟨y431,hy431⟩:∃ y_:List Int,y_=(([5,100,(-1)]:List Int)):=⟨_,rfl⟩
     replace H:((jB.f k s0_0 t418 y431).bind fun bt434=>(if 0≤t415 then (if t415<(t411.length:Int) then (some (t406,(t411.set (t415:Int).toNat (⟨(jL t411 t415).f0,(jL t411 t415).f1,bt434.1⟩:S44)),bt434.2)) else (none)) else (none)))=some (r1,r2,r3):=by first |(rw [hy431];with_reducible exact H) |(have H2_:=(Option.bind_some _ _).symm.trans H;rw [hy431];with_reducible exact H2_) |(have H2_:=(Option.bind_some _ _).symm.trans H;with_reducible exact H2_) | with_reducible exact H |(rw [hy431];exact H) | exact H
     have Ny431:=am hy431
     clear hy431
     replace H:=bzS H
     obtain ⟨⟨t434,t435⟩,A580,H⟩:=H
     replace H:(if 0≤t415 then (if t415<(t411.length:Int) then (some (t406,(t411.set (t415:Int).toNat (⟨(jL t411 t415).f0,(jL t411 t415).f1,t434⟩:S44)),t435)) else (none)) else (none))=some (r1,r2,r3):=H
     have A58:=am A580
     clear A580
     by_cases c59:0≤t415
     ·rw [if_pos c59] at H
      have c59b0:decide (0≤t415)=true:=dzT c59
      clear c59
      by_cases c60:t415<(t411.length:Int)
      ·rw [if_pos c60] at H
       have c60b0:decide (t415<(t411.length:Int))=true:=dzT c60
       clear c60
       obtain ⟨y436,hy436⟩:∃ y_:List (S44),y_=(t411.set (t415:Int).toNat (⟨(jL t411 t415).f0,(jL t411 t415).f1,t434⟩:S44)):=⟨_,rfl⟩
       replace H:(some (t406,y436,t435))=some (r1,r2,r3):=by first |(rw [hy436];with_reducible exact H) |(have H2_:=(Option.bind_some _ _).symm.trans H;rw [hy436];with_reducible exact H2_) |(have H2_:=(Option.bind_some _ _).symm.trans H;with_reducible exact H2_) | with_reducible exact H |(rw [hy436];exact H) | exact H
       have Ny436:=am hy436
       clear hy436
       simp only [Option.some.injEq,Prod.mk.injEq] at H
       obtain ⟨rfl,rfl,rfl⟩:=H
       go_enter Try.func46,Try.ntmps46
       go_wp2_with (first |((with_reducible refine jG (N:=2) rfl ?_);refine bE (N:=2) (cs:=#[.slice none 0 0]) (t:=31) ?_;intro gb405 hg w62 hbox hb;have BK405:=am (hbox);have GW405:=am ((Y7:w.heap.size≤gb405));have GE405:=am ((Nat.le_trans HW0.out (Y7:w.heap.size≤gb405):w0.heap.size≤gb405));have NB0_405:=am ((Y23:g≠gb405));have NB405_0:=am ((Y24:gb405≠g));replace HK:=am (jk.trans (Y11) (jk.of_below hb g none) (.inl rfl));replace HB:=am (jg (Y12) hb);replace HI0:=am (je.below (Y10) hb);clear hb hbox hg) |((with_reducible refine jo (f:=76) rfl ?_);refine gL (some 8) Try.func76 #[.pointer (some ⟨g,0,none⟩)] ?_;(with_reducible refine (jia.calls k g s0_0 s0_1 t406 t409 w0 _ ?side1 ?side2 A2.out).mono ?_);(case side1=>exact Y35);(case side2=>exact Y36);rintro e w63 ⟨v407,rfl,ho0,hi,hb,hk⟩;refine ⟨_,rfl,?_⟩;have HO408:=am (Kd.jpa ho0 (jya (w:=w) (g:=g) (row:=none) (Y17)));replace BK405:=am (jk.blk hk (g':=gb405) (o:=.cells #[.slice none 0 0] 31 (0,0)) (kq BK405.out) NB405_0.out (by simp));replace HK:=am (jk.trans (Y17) hk (.inl rfl));replace HB:=am (hb);replace HI0:=am (hi);(try clear hb);(try clear hb2);(try clear hk);(try clear hi);(try clear ho0)) |((with_reducible refine jG (N:=4) rfl ?_);refine bE (N:=4) (cs:=#[.slice none 0 0]) (t:=31) ?_;intro gb410 hg w64 hbox hb;have BK410:=am (hbox);have GW410:=am ((Y37:w.heap.size≤gb410));have GE410:=am ((Nat.le_trans HW0.out (Y37:w.heap.size≤gb410):w0.heap.size≤gb410));have NB405_410:=am ((Y56:gb405≠gb410));have NB410_405:=am ((Y57:gb410≠gb405));have NB0_410:=am ((Y58:g≠gb410));have NB410_0:=am ((Y59:gb410≠g));replace HO408:=am (Kd.jaa (rq HO408.out) hb);replace BK405:=am (jc (g:=gb405) (o:=.cells #[.slice none 0 0] 31 (0,0)) (kq BK405.out) hb);replace HK:=am (jk.trans (Y17) (jk.of_below hb g none) (.inl rfl));replace HB:=am (jg (Y36) hb);replace HI0:=am (je.below (Y35) hb);clear hb hbox hg;obtain ⟨Ao65,co65,eo65⟩:=Kd.jga HO408.out;subst eo65;have hnb66:=NB410_405.out;have hnc66:=NB405_410.out;have hnb67:=NB410_0.out;have hnc67:=NB0_410.out;have hcz68_0:=bc0 BK410.out;have hfz68_0:=ja BK410.out 0) |((with_reducible refine jo (f:=64) rfl ?_);refine gL (some 11) Try.func64 #[.pointer (some ⟨g,0,none⟩), .agg #[.slice Ao65 t406.length co65]] ?_;(with_reducible refine (jea.calls k g s0_0 t409 _ _ t406 t411 t414 w0 _ ?side1 ?side2 ?side3 ?side4 A3.out).mono ?_);(case side1=>exact Y1);(case side2=>exact Y8);(case side3=>exact Kd.jnc (je.apart (show je w0 _ g s0_0 t409 from Y1) (Y110) (by decide)) (fun _ h_=>h_.2));(case side4=>exact (Kd.jC HO408.out).2.1);rintro e w69 ⟨v412,rfl,ho0,hi,hb,hk⟩;refine ⟨_,rfl,?_⟩;have HO413:=am (Kd.jpa ho0 (jya (w:=w) (g:=g) (row:=none) (Y5)));replace BK405:=am (jk.blk hk (g':=gb405) (o:=.cells #[.slice none 0 0] 31 (0,0)) (Y60) NB405_0.out (by simp));replace HO408:=am (Kd.jJ (Kd.jIa (je.apart (show je w0 _ g s0_0 t409 from Y1) (Y110) (by decide)) hk (fun _ h=>h.2)) (fun _ h=>h.1));replace BK410:=am (jk.blk hk (g':=gb410) (o:=.cells #[.slice Ao65 t406.length co65] 31 (0,0)) (Y61) NB410_0.out (by simp));replace HK:=am (jk.trans (Y5) hk (.inl rfl));replace HB:=am (hb);replace HI0:=am (hi);(try clear hb);(try clear hb2);(try clear hk);(try clear hi);(try clear ho0);obtain ⟨Ao70,co70,eo70⟩:=Kd.jga HO413.out;subst eo70) |((with_reducible refine jo (f:=47) rfl ?_);refine gL (some 18) Try.func47 #[.pointer (some ⟨g,0,none⟩), .int .i64 (t411.length:Int)] ?_;(with_reducible refine (jr.calls k g s0_0 t414 (t411.length:Int) t415 t416 w0 _ ?side1 ?side2 A5.out).mono ?_);(case side1=>exact Y1);(case side2=>exact Y8);rintro e w71 ⟨rfl,hi,hb,hk⟩;refine ⟨_,rfl,?_⟩;replace BK405:=am (jk.blk hk (g':=gb405) (o:=.cells #[.slice none 0 0] 31 (0,0)) (kq BK405.out) NB405_0.out (by simp));replace HO408:=am (Kd.jJ (Kd.jIa (je.apart (show je w0 _ g s0_0 t414 from Y1) (rq HO408.out) (by decide)) hk (fun _ h=>h.2)) (fun _ h=>h.1));replace BK410:=am (jk.blk hk (g':=gb410) (o:=.cells #[.slice Ao65 t406.length co65] 31 (0,0)) (kq BK410.out) NB410_0.out (by simp));replace HO413:=am (Kd.jJ (Kd.jIa (je.apart (show je w0 _ g s0_0 t414 from Y1) (rq HO413.out) (by decide)) hk (fun _ h=>h.2)) (fun _ h=>h.1));replace HK:=am (jk.trans (Y5) hk (.inl rfl));replace HB:=am (hb);replace HI0:=am (hi);(try clear hb);(try clear hb2);(try clear hk);(try clear hi)) |((with_reducible refine jo (f:=47) rfl ?_);refine gL (some 20) Try.func47 #[.pointer (some ⟨g,0,none⟩), .int .i64 24] ?_;(with_reducible refine (jr.calls k g s0_0 t416 24 t417 t418 w0 _ ?side1 ?side2 A6.out).mono ?_);(case side1=>exact Y1);(case side2=>exact Y8);rintro e w72 ⟨rfl,hi,hb,hk⟩;refine ⟨_,rfl,?_⟩;replace BK405:=am (jk.blk hk (g':=gb405) (o:=.cells #[.slice none 0 0] 31 (0,0)) (kq BK405.out) NB405_0.out (by simp));replace HO408:=am (Kd.jJ (Kd.jIa (je.apart (show je w0 _ g s0_0 t416 from Y1) (rq HO408.out) (by decide)) hk (fun _ h=>h.2)) (fun _ h=>h.1));replace BK410:=am (jk.blk hk (g':=gb410) (o:=.cells #[.slice Ao65 t406.length co65] 31 (0,0)) (kq BK410.out) NB410_0.out (by simp));replace HO413:=am (Kd.jJ (Kd.jIa (je.apart (show je w0 _ g s0_0 t416 from Y1) (rq HO413.out) (by decide)) hk (fun _ h=>h.2)) (fun _ h=>h.1));replace HK:=am (jk.trans (Y5) hk (.inl rfl));replace HB:=am (hb);replace HI0:=am (hi);(try clear hb);(try clear hb2);(try clear hk);(try clear hi)) |((with_reducible refine jG (N:=44) rfl ?_);refine Kd.R_lit (Kd.int .i64) _ 3 ?hg (N:=44) ?hd (xs:=([5,100,(-1)]:List Int)) (inner:=[.int .i64 5, .int .i64 100, .int .i64 (-1)]) (ok:=fun _=>True) (okp:=fun _=>True) ?hr ?hp (fun _ hk=>hk) trivial (Below.refl _ _) (Nat.le_refl _) (by simp) ?_;(case hd=>rfl);(case hg=>rfl);(case hr=>exact Y3);(case hp=>exact (Reps.one (show Kd.M (Kd.int .i64) _ _ _ 5 [.int .i64 5] from rfl) (Reps.one (show Kd.M (Kd.int .i64) _ _ _ 100 [.int .i64 100] from rfl) (Reps.one (show Kd.M (Kd.int .i64) _ _ _ (-1) [.int .i64 (-1)] from rfl) (Reps.none _ _)))));intro v432 w73 ho74 hb hg_ hnew_;clear hg_ hnew_;(first | rw [← Ny431.out] at ho74 |(simp only [Int.reduceToNat] at ho74;rw [← Ny431.out] at ho74));have HO433:=am (Kd.jpa ho74 (jya (w:=w) (g:=g) (row:=none) (Y5)));replace HO408:=am (Kd.jaa (rq HO408.out) hb);replace HO413:=am (Kd.jaa (rq HO413.out) hb);replace BK405:=am (jc (g:=gb405) (o:=.cells #[.slice none 0 0] 31 (0,0)) (kq BK405.out) hb);replace BK410:=am (jc (g:=gb410) (o:=.cells #[.slice Ao65 t406.length co65] 31 (0,0)) (kq BK410.out) hb);replace HK:=am (jk.trans (Y5) (jk.of_below hb g none) (.inl rfl));replace HB:=am (jg (Y8) hb);replace HI0:=am (je.below (Y1) hb);clear hb ho74;obtain ⟨Ao75,co75,eo75⟩:=Kd.jga HO433.out;subst eo75) |((with_reducible refine jo (f:=77) rfl ?_);refine gL (some 45) Try.func77 #[.pointer (some ⟨g,0,none⟩), .slice Ao75 y431.length co75] ?_;(with_reducible refine (jB.calls k g s0_0 t418 _ _ y431 t434 t435 w0 _ ?side1 ?side2 ?side3 ?side4 ?side5 A58.out).mono ?_);(case side1=>exact Y1);(case side2=>exact Y8);(case side3=>exact cq (Kd.jC HO433.out).2.2);(case side4=>exact (Kd.jC HO433.out).2.1);(case side5=>exact jIb (je.own_ne HI0.out HO433.out (by decide)));rintro e w76 ⟨rfl,hi,hb,hk⟩;refine ⟨_,rfl,?_⟩;replace BK405:=am (jk.blk hk (g':=gb405) (o:=.cells #[.slice none 0 0] 31 (0,0)) (kq BK405.out) NB405_0.out (by simp));replace HO408:=am (Kd.jJ (Kd.jIa (je.apart (show je w0 _ g s0_0 t418 from Y1) (rq HO408.out) (by decide)) hk (fun _ h=>h.2)) (fun _ h=>h.1));replace BK410:=am (jk.blk hk (g':=gb410) (o:=.cells #[.slice Ao65 t406.length co65] 31 (0,0)) (kq BK410.out) NB410_0.out (by simp));replace HO413:=am (Kd.jJ (Kd.jIa (je.apart (show je w0 _ g s0_0 t418 from Y1) (rq HO413.out) (by decide)) hk (fun _ h=>h.2)) (fun _ h=>h.1));replace HO433:=am (Kd.jJ (Kd.jIa (je.apart (show je w0 _ g s0_0 t418 from Y1) (rq HO433.out) (by decide)) hk (fun _ h=>h.2)) (fun _ h=>h.1));replace HK:=am (jk.trans (Y5) hk (.inl rfl));replace HB:=am (hb);replace HI0:=am (hi);(try clear hb);(try clear hb2);(try clear hk);(try clear hi);have p61:0≤(t415:Int):=ozD (uq);have q61:(t415:Int)<((t411.length:Int):Int):=ozD (uq);obtain ⟨go61,co61,eo61,gb61,gl61,cl61,HG61⟩:=Kd.R_form HO413.out (by omega);(first | cases eo61 |(injection eo61 with ea_ en_ ec_;(first | subst ea_ |(injection ea_ with ea_;subst ea_));subst ec_;clear en_));have GB61:=am gb61;have GG61:=am HG61;clear gb61 gl61 HG61;obtain ⟨ce61,hcl61,hM61,hcc61,hfr61⟩:=Kd.R_elem HO413.out z44 (t415:Int) p61 q61;obtain rfl:=jmc hM61;have hx61_0:w76.cell? ⟨go61,(t415:Int).toNat * 3,none⟩=some (.int .i64 ((jL t411 t415).f0)):=hcc61 0 _ rfl;have hx61_1:w76.cell? ⟨go61,(t415:Int).toNat * 3+1,none⟩=some (.int .i64 ((jL t411 t415).f1)):=hcc61 1 _ rfl;have hx61_2:w76.cell? ⟨go61,(t415:Int).toNat * 3+2,none⟩=some (.int .i64 ((jL t411 t415).f2)):=hcc61 2 _ rfl;have hf61_0:w76.frozen? ⟨go61,(t415:Int).toNat * 3,none⟩=false:=hfr61 0;have hf61_1:w76.frozen? ⟨go61,(t415:Int).toNat * 3+1,none⟩=false:=hfr61 1;have hf61_2:w76.frozen? ⟨go61,(t415:Int).toNat * 3+2,none⟩=false:=hfr61 2;clear hcl61 hcc61 hfr61 hM61;replace p61:=ezT p61;replace q61:=ezT q61;have HX77:=am (show Kd.R k44 44 w76 w.heap.size (fun _=>True) (.slice (some ⟨go61,0,none⟩) t411.length co70) t411 from (rq HO413.out));obtain ⟨ce77,hcl77,hM77,hcc77,hfr77⟩:=Kd.R_elem HX77.out z44 (t415:Int) (ozD (uq)) (by have h_:(t415:Int)<((t411.length:Int):Int):=ozD (uq);first | exact h_ |(have e_:=(Kd.jC HO413.out).1;omega) | simpa using h_);obtain rfl:=jmc hM77;have HP77:=Kd.R_seg HX77.out (t415:Int) (ozD (uq)) (by have h_:(t415:Int)<((t411.length:Int):Int):=ozD (uq);first | exact h_ |(have e_:=(Kd.jC HO413.out).1;omega) | simpa using h_) (seg:=[.int .i64 t434]) (j:=2) hcl77 hcc77 (show 3≤3 from by decide) (x':=(⟨(jL t411 t415).f0,(jL t411 t415).f1,t434⟩:S44)) (k44_mkM _ _ _ (⟨(jL t411 t415).f0,(jL t411 t415).f1,t434⟩:S44) ) (fun _ hk=>hk);have hx77_2:=hcc77 2 _ rfl;(try simp only [show (k44).sz=3 from rfl,Nat.mul_one,Nat.add_zero] at hx77_2);have hf77_2:=hfr77 2;(try simp only [show (k44).sz=3 from rfl,Nat.mul_one,Nat.add_zero] at hf77_2);clear hcl77 hcc77 hfr77 hM77) |((with_reducible refine gate_store (t:=3) (p:=47) rfl ?_);refine store_event (t:=3) (p:=47) (v:=?vo_w78) (w1:=(w76.setCell ⟨go61,(t415:Int).toNat * 3+2,none⟩ (.int .i64 t434))) ?hg ?ho ?hn ?hr ?_;(case ho=>rfl);(case hg=>rfl);(case hn=>rfl);(case hr=>exact Y3);intro w78 hw;have hg:w76.grownBy w78 (some go61):=(by rw [hw];exact HP77.2);have hp_:Kd.R k44 44 w78 w.heap.size (fun _=>True) (.slice (some ⟨go61,0,none⟩) t411.length co70) y436:=(by rw [hw,Ny436.out];exact HP77.1);clear HP77;replace HI0:=am (je.grown (Y1) hg (je.own_ne HI0.out HO413.out (by decide)));replace BK405:=am (jqa (g:=gb405) (o:=.cells #[.slice none 0 0] 31 (0,0)) (kq BK405.out) hg (Kd.R_ne HO413.out BK405.out (by decide)));replace HO408:=am (Kd.jkc (v:=(.slice (some ⟨go61,0,none⟩) t411.length co70)) (rq HO408.out) (Kd.jjc HO413.out) (by decide) hg);replace BK410:=am (jqa (g:=gb410) (o:=.cells #[.slice Ao65 t406.length co65] 31 (0,0)) (kq BK410.out) hg (Kd.R_ne HO413.out BK410.out (by decide)));replace HO433:=am (Kd.jkc (v:=(.slice (some ⟨go61,0,none⟩) t411.length co70)) (rq HO433.out) (Kd.jjc HO413.out) (by decide) hg);replace HB:=am ((by rw [hw];exact jy (HB.out) (Nat.le_trans HL.out GB61.out):Below w0.heap.size w0 w78));replace HK:=am (jk.trans (Y5) (jk.jGb hg g) (Kd.R_base2 HO413.out));replace HO413:=am (hp_);clear hg hw hp_;have hcz79_0:=bc0 BK410.out;have hfz79_0:=ja BK410.out 0;have hnb80:=NB405_0.out;have hnc80:=NB0_405.out;have hcz81_0:=bc0 BK405.out;have hfz81_0:=ja BK405.out 0))
       refine bodyPost_ret (jmb rfl _ _ gb405 31 #[.slice Ao65 t406.length co65] (0,0) _ rfl (Y62) Try.underlying31 rfl (by kernel_rfl)) rfl ?_
       exact ⟨_,_,Y0,by (with_reducible repeat (first | apply Kd.jda | apply Kd.jfa | apply Kd.jma));exact Kd.jJ (Kd.joa (p:=⟨gb405,0,none⟩) (Kd.jna HO408.out BK405.out (by decide)) (fun _ hk=>hk.2) (.slice Ao65 t406.length co65)) (fun _ hk=>trivial),by (with_reducible repeat (first | apply Kd.jda | apply Kd.jfa | apply Kd.jma));exact Kd.jJ (Kd.joa (p:=⟨gb405,0,none⟩) (Kd.jna HO413.out BK405.out (by decide)) (fun _ hk=>hk.2) (.slice Ao65 t406.length co65)) (fun _ hk=>trivial),Y1,Y8,Y5⟩
      ·rw [if_neg c60] at H
       exact absurd H (by simp)
     ·rw [if_neg c59] at H
      exact absurd H (by simp)
    ·rw [if_neg c57] at H
     have c57b0:(t417 == 2)=false:=beq_eq_false_iff_ne.mpr c57
     have c57b1:(t417 != 2)=true:=bne_iff_ne.mpr c57
     simp only [Option.some.injEq,Prod.mk.injEq] at H
     obtain ⟨rfl,rfl,rfl⟩:=H
     go_enter Try.func46,Try.ntmps46
     go_wp2_with (first |((with_reducible refine jG (N:=2) rfl ?_);refine bE (N:=2) (cs:=#[.slice none 0 0]) (t:=31) ?_;intro gb405 hg w82 hbox hb;have BK405:=am (hbox);have GW405:=am ((Y7:w.heap.size≤gb405));have GE405:=am ((Nat.le_trans HW0.out (Y7:w.heap.size≤gb405):w0.heap.size≤gb405));have NB0_405:=am ((Y23:g≠gb405));have NB405_0:=am ((Y24:gb405≠g));replace HK:=am (jk.trans (Y11) (jk.of_below hb g none) (.inl rfl));replace HB:=am (jg (Y12) hb);replace HI0:=am (je.below (Y10) hb);clear hb hbox hg) |((with_reducible refine jo (f:=76) rfl ?_);refine gL (some 8) Try.func76 #[.pointer (some ⟨g,0,none⟩)] ?_;(with_reducible refine (jia.calls k g s0_0 s0_1 t406 t409 w0 _ ?side1 ?side2 A2.out).mono ?_);(case side1=>exact Y35);(case side2=>exact Y36);rintro e w83 ⟨v407,rfl,ho0,hi,hb,hk⟩;refine ⟨_,rfl,?_⟩;have HO408:=am (Kd.jpa ho0 (jya (w:=w) (g:=g) (row:=none) (Y17)));replace BK405:=am (jk.blk hk (g':=gb405) (o:=.cells #[.slice none 0 0] 31 (0,0)) (kq BK405.out) NB405_0.out (by simp));replace HK:=am (jk.trans (Y17) hk (.inl rfl));replace HB:=am (hb);replace HI0:=am (hi);(try clear hb);(try clear hb2);(try clear hk);(try clear hi);(try clear ho0)) |((with_reducible refine jG (N:=4) rfl ?_);refine bE (N:=4) (cs:=#[.slice none 0 0]) (t:=31) ?_;intro gb410 hg w84 hbox hb;have BK410:=am (hbox);have GW410:=am ((Y37:w.heap.size≤gb410));have GE410:=am ((Nat.le_trans HW0.out (Y37:w.heap.size≤gb410):w0.heap.size≤gb410));have NB405_410:=am ((Y56:gb405≠gb410));have NB410_405:=am ((Y57:gb410≠gb405));have NB0_410:=am ((Y58:g≠gb410));have NB410_0:=am ((Y59:gb410≠g));replace HO408:=am (Kd.jaa (rq HO408.out) hb);replace BK405:=am (jc (g:=gb405) (o:=.cells #[.slice none 0 0] 31 (0,0)) (kq BK405.out) hb);replace HK:=am (jk.trans (Y17) (jk.of_below hb g none) (.inl rfl));replace HB:=am (jg (Y36) hb);replace HI0:=am (je.below (Y35) hb);clear hb hbox hg;obtain ⟨Ao85,co85,eo85⟩:=Kd.jga HO408.out;subst eo85;have hnb86:=NB410_405.out;have hnc86:=NB405_410.out;have hnb87:=NB410_0.out;have hnc87:=NB0_410.out;have hcz88_0:=bc0 BK410.out;have hfz88_0:=ja BK410.out 0) |((with_reducible refine jo (f:=64) rfl ?_);refine gL (some 11) Try.func64 #[.pointer (some ⟨g,0,none⟩), .agg #[.slice Ao85 t406.length co85]] ?_;(with_reducible refine (jea.calls k g s0_0 t409 _ _ t406 t411 t414 w0 _ ?side1 ?side2 ?side3 ?side4 A3.out).mono ?_);(case side1=>exact Y1);(case side2=>exact Y8);(case side3=>exact Kd.jnc (je.apart (show je w0 _ g s0_0 t409 from Y1) (Y111) (by decide)) (fun _ h_=>h_.2));(case side4=>exact (Kd.jC HO408.out).2.1);rintro e w89 ⟨v412,rfl,ho0,hi,hb,hk⟩;refine ⟨_,rfl,?_⟩;have HO413:=am (Kd.jpa ho0 (jya (w:=w) (g:=g) (row:=none) (Y5)));replace BK405:=am (jk.blk hk (g':=gb405) (o:=.cells #[.slice none 0 0] 31 (0,0)) (Y60) NB405_0.out (by simp));replace HO408:=am (Kd.jJ (Kd.jIa (je.apart (show je w0 _ g s0_0 t409 from Y1) (Y111) (by decide)) hk (fun _ h=>h.2)) (fun _ h=>h.1));replace BK410:=am (jk.blk hk (g':=gb410) (o:=.cells #[.slice Ao85 t406.length co85] 31 (0,0)) (Y61) NB410_0.out (by simp));replace HK:=am (jk.trans (Y5) hk (.inl rfl));replace HB:=am (hb);replace HI0:=am (hi);(try clear hb);(try clear hb2);(try clear hk);(try clear hi);(try clear ho0);obtain ⟨Ao90,co90,eo90⟩:=Kd.jga HO413.out;subst eo90) |((with_reducible refine jo (f:=47) rfl ?_);refine gL (some 18) Try.func47 #[.pointer (some ⟨g,0,none⟩), .int .i64 (t411.length:Int)] ?_;(with_reducible refine (jr.calls k g s0_0 t414 (t411.length:Int) t415 t416 w0 _ ?side1 ?side2 A5.out).mono ?_);(case side1=>exact Y1);(case side2=>exact Y8);rintro e w91 ⟨rfl,hi,hb,hk⟩;refine ⟨_,rfl,?_⟩;replace BK405:=am (jk.blk hk (g':=gb405) (o:=.cells #[.slice none 0 0] 31 (0,0)) (kq BK405.out) NB405_0.out (by simp));replace HO408:=am (Kd.jJ (Kd.jIa (je.apart (show je w0 _ g s0_0 t414 from Y1) (rq HO408.out) (by decide)) hk (fun _ h=>h.2)) (fun _ h=>h.1));replace BK410:=am (jk.blk hk (g':=gb410) (o:=.cells #[.slice Ao85 t406.length co85] 31 (0,0)) (kq BK410.out) NB410_0.out (by simp));replace HO413:=am (Kd.jJ (Kd.jIa (je.apart (show je w0 _ g s0_0 t414 from Y1) (rq HO413.out) (by decide)) hk (fun _ h=>h.2)) (fun _ h=>h.1));replace HK:=am (jk.trans (Y5) hk (.inl rfl));replace HB:=am (hb);replace HI0:=am (hi);(try clear hb);(try clear hb2);(try clear hk);(try clear hi)) |((with_reducible refine jo (f:=47) rfl ?_);refine gL (some 20) Try.func47 #[.pointer (some ⟨g,0,none⟩), .int .i64 24] ?_;(with_reducible refine (jr.calls k g s0_0 t416 24 t417 t418 w0 _ ?side1 ?side2 A6.out).mono ?_);(case side1=>exact Y1);(case side2=>exact Y8);rintro e w92 ⟨rfl,hi,hb,hk⟩;refine ⟨_,rfl,?_⟩;replace BK405:=am (jk.blk hk (g':=gb405) (o:=.cells #[.slice none 0 0] 31 (0,0)) (kq BK405.out) NB405_0.out (by simp));replace HO408:=am (Kd.jJ (Kd.jIa (je.apart (show je w0 _ g s0_0 t416 from Y1) (rq HO408.out) (by decide)) hk (fun _ h=>h.2)) (fun _ h=>h.1));replace BK410:=am (jk.blk hk (g':=gb410) (o:=.cells #[.slice Ao85 t406.length co85] 31 (0,0)) (kq BK410.out) NB410_0.out (by simp));replace HO413:=am (Kd.jJ (Kd.jIa (je.apart (show je w0 _ g s0_0 t416 from Y1) (rq HO413.out) (by decide)) hk (fun _ h=>h.2)) (fun _ h=>h.1));replace HK:=am (jk.trans (Y5) hk (.inl rfl));replace HB:=am (hb);replace HI0:=am (hi);(try clear hb);(try clear hb2);(try clear hk);(try clear hi);have hcz93_0:=bc0 BK410.out;have hfz93_0:=ja BK410.out 0;have hnb94:=NB405_0.out;have hnc94:=NB0_405.out;have hcz95_0:=bc0 BK405.out;have hfz95_0:=ja BK405.out 0))
     refine bodyPost_ret (jmb rfl _ _ gb405 31 #[.slice Ao85 t406.length co85] (0,0) _ rfl (Y62) Try.underlying31 rfl (by kernel_rfl)) rfl ?_
     exact ⟨_,_,Y0,by (with_reducible repeat (first | apply Kd.jda | apply Kd.jfa | apply Kd.jma));exact Kd.jJ (Kd.joa (p:=⟨gb405,0,none⟩) (Kd.jna HO408.out BK405.out (by decide)) (fun _ hk=>hk.2) (.slice Ao85 t406.length co85)) (fun _ hk=>trivial),by (with_reducible repeat (first | apply Kd.jda | apply Kd.jfa | apply Kd.jma));exact Kd.jJ (Kd.joa (p:=⟨gb405,0,none⟩) (Kd.jna HO413.out BK405.out (by decide)) (fun _ hk=>hk.2) (.slice Ao85 t406.length co85)) (fun _ hk=>trivial),Y1,Y8,Y5⟩
 ·rw [if_neg c4] at H
  have c4b0:decide (0<(t411.length:Int))=false:=dzF c4
  have c4b1:decide (0<t411.length)=false:=dzF (by omega)
  clear c4
  simp only [Option.some.injEq,Prod.mk.injEq] at H
  obtain ⟨rfl,rfl,rfl⟩:=H
  go_enter Try.func46,Try.ntmps46
  go_wp2_with (first |((with_reducible refine jG (N:=2) rfl ?_);refine bE (N:=2) (cs:=#[.slice none 0 0]) (t:=31) ?_;intro gb405 hg w96 hbox hb;have BK405:=am (hbox);have GW405:=am ((Y7:w.heap.size≤gb405));have GE405:=am ((Nat.le_trans HW0.out (Y7:w.heap.size≤gb405):w0.heap.size≤gb405));have NB0_405:=am ((Y23:g≠gb405));have NB405_0:=am ((Y24:gb405≠g));replace HK:=am (jk.trans (Y11) (jk.of_below hb g none) (.inl rfl));replace HB:=am (jg (Y12) hb);replace HI0:=am (je.below (Y10) hb);clear hb hbox hg) |((with_reducible refine jo (f:=76) rfl ?_);refine gL (some 8) Try.func76 #[.pointer (some ⟨g,0,none⟩)] ?_;(with_reducible refine (jia.calls k g s0_0 s0_1 t406 t409 w0 _ ?side1 ?side2 A2.out).mono ?_);(case side1=>exact Y35);(case side2=>exact Y36);rintro e w97 ⟨v407,rfl,ho0,hi,hb,hk⟩;refine ⟨_,rfl,?_⟩;have HO408:=am (Kd.jpa ho0 (jya (w:=w) (g:=g) (row:=none) (Y17)));replace BK405:=am (jk.blk hk (g':=gb405) (o:=.cells #[.slice none 0 0] 31 (0,0)) (kq BK405.out) NB405_0.out (by simp));replace HK:=am (jk.trans (Y17) hk (.inl rfl));replace HB:=am (hb);replace HI0:=am (hi);(try clear hb);(try clear hb2);(try clear hk);(try clear hi);(try clear ho0)) |((with_reducible refine jG (N:=4) rfl ?_);refine bE (N:=4) (cs:=#[.slice none 0 0]) (t:=31) ?_;intro gb410 hg w98 hbox hb;have BK410:=am (hbox);have GW410:=am ((Y37:w.heap.size≤gb410));have GE410:=am ((Nat.le_trans HW0.out (Y37:w.heap.size≤gb410):w0.heap.size≤gb410));have NB405_410:=am ((Y56:gb405≠gb410));have NB410_405:=am ((Y57:gb410≠gb405));have NB0_410:=am ((Y58:g≠gb410));have NB410_0:=am ((Y59:gb410≠g));replace HO408:=am (Kd.jaa (rq HO408.out) hb);replace BK405:=am (jc (g:=gb405) (o:=.cells #[.slice none 0 0] 31 (0,0)) (kq BK405.out) hb);replace HK:=am (jk.trans (Y17) (jk.of_below hb g none) (.inl rfl));replace HB:=am (jg (Y36) hb);replace HI0:=am (je.below (Y35) hb);clear hb hbox hg;obtain ⟨Ao99,co99,eo99⟩:=Kd.jga HO408.out;subst eo99;have hnb100:=NB410_405.out;have hnc100:=NB405_410.out;have hnb101:=NB410_0.out;have hnc101:=NB0_410.out;have hcz102_0:=bc0 BK410.out;have hfz102_0:=ja BK410.out 0) |((with_reducible refine jo (f:=64) rfl ?_);refine gL (some 11) Try.func64 #[.pointer (some ⟨g,0,none⟩), .agg #[.slice Ao99 t406.length co99]] ?_;(with_reducible refine (jea.calls k g s0_0 t409 _ _ t406 t411 t414 w0 _ ?side1 ?side2 ?side3 ?side4 A3.out).mono ?_);(case side1=>exact Y1);(case side2=>exact Y8);(case side3=>exact Kd.jnc (je.apart (show je w0 _ g s0_0 t409 from Y1) (Y112) (by decide)) (fun _ h_=>h_.2));(case side4=>exact (Kd.jC HO408.out).2.1);rintro e w103 ⟨v412,rfl,ho0,hi,hb,hk⟩;refine ⟨_,rfl,?_⟩;have HO413:=am (Kd.jpa ho0 (jya (w:=w) (g:=g) (row:=none) (Y5)));replace BK405:=am (jk.blk hk (g':=gb405) (o:=.cells #[.slice none 0 0] 31 (0,0)) (Y60) NB405_0.out (by simp));replace HO408:=am (Kd.jJ (Kd.jIa (je.apart (show je w0 _ g s0_0 t409 from Y1) (Y112) (by decide)) hk (fun _ h=>h.2)) (fun _ h=>h.1));replace BK410:=am (jk.blk hk (g':=gb410) (o:=.cells #[.slice Ao99 t406.length co99] 31 (0,0)) (Y61) NB410_0.out (by simp));replace HK:=am (jk.trans (Y5) hk (.inl rfl));replace HB:=am (hb);replace HI0:=am (hi);(try clear hb);(try clear hb2);(try clear hk);(try clear hi);(try clear ho0);obtain ⟨Ao104,co104,eo104⟩:=Kd.jga HO413.out;subst eo104;have hcz105_0:=bc0 BK410.out;have hfz105_0:=ja BK410.out 0;have hnb106:=NB405_0.out;have hnc106:=NB0_405.out;have hcz107_0:=bc0 BK405.out;have hfz107_0:=ja BK405.out 0))
  refine bodyPost_ret (jmb rfl _ _ gb405 31 #[.slice Ao99 t406.length co99] (0,0) _ rfl (Y62) Try.underlying31 rfl (by kernel_rfl)) rfl ?_
  exact ⟨_,_,Y0,by (with_reducible repeat (first | apply Kd.jda | apply Kd.jfa | apply Kd.jma));exact Kd.jJ (Kd.joa (p:=⟨gb405,0,none⟩) (Kd.jna HO408.out BK405.out (by decide)) (fun _ hk=>hk.2) (.slice Ao99 t406.length co99)) (fun _ hk=>trivial),by (with_reducible repeat (first | apply Kd.jda | apply Kd.jfa | apply Kd.jma));exact Kd.jJ (Kd.joa (p:=⟨gb405,0,none⟩) (Kd.jna HO413.out BK405.out (by decide)) (fun _ hk=>hk.2) (.slice Ao99 t406.length co99)) (fun _ hk=>trivial),Y1,Y8,Y5⟩
def jZa.f (k : Nat) (l0 : List Int) : Option ((List (S106)) × (List (S44))) := (jqb.f l0).bind fun bt506 => ((jib.f k bt506.1 bt506.2).bind fun bt509 => (some (bt509.1, bt509.2.1)))
set_option maxHeartbeats 8000000 in
set_option maxRecDepth 100000 in
theorem jZa.calls (k : Nat) (A0 : Option Addr) (c0 : Nat) (l0 : List Int) (r1 : List (S106)) (r2 : List (S44)) (w : World) (hr0 : Kd.C (Kd.int .u8) w A0 l0.length l0) (hc0 : l0.length ≤ c0) (h : jZa.f k l0 = some (r1, r2)) :
  Calls Try.prog 20 #[.slice A0 l0.length c0] w fun e w'=>∃ v0_ v1_:Value,e=.returned (.tuple #[.agg #[v0_],v1_])∧Kd.R k106 106 w' w.heap.size (fun _=>True) v0_ r1∧Kd.R k44 44 w' w.heap.size (fun _=>True) v1_ r2∧Below w.heap.size w w':=by
 have hu31:=Try.underlying31
 have HR0:=am hr0
 have HC0:=am hc0
 clear hr0 hc0
 have HB:=am (Below.refl w.heap.size w)
 have H:((jqb.f l0).bind fun bt506=>((jib.f k bt506.1 bt506.2).bind fun bt509=>(some (bt509.1,bt509.2.1))))=some (r1,r2):=h
 clear h
 replace H:=bzS H
 obtain ⟨⟨t506,t507⟩,A20,H⟩:=H
 replace H:((jib.f k t506 t507).bind fun bt509=>(some (bt509.1,bt509.2.1)))=some (r1,r2):=H
 have A2:=am A20
 clear A20
 replace H:=bzS H
 obtain ⟨⟨t509,t512,t515⟩,A30,H⟩:=H
 replace H:(some (t509,t512))=some (r1,r2):=H
 have A3:=am A30
 clear A30
 simp only [Option.some.injEq,Prod.mk.injEq] at H
 obtain ⟨rfl,rfl⟩:=H
 go_enter Try.func20,Try.ntmps20
 go_wp2_with (first |((with_reducible refine jG (N:=2) rfl ?_);refine bE (N:=2) (cs:=#[.slice none 0 0]) (t:=31) ?_;intro gb505 hg w4 hbox hb;have BK505:=am (hbox);have GW505:=am ((Y2:w.heap.size≤gb505));have GE505:=am ((Y2:w.heap.size≤gb505));replace HB:=am (jg (bq) hb);clear hb hbox hg) |((with_reducible refine jo (f:=45) rfl ?_);refine gL (some 5) Try.func45 #[.slice A0 l0.length c0] ?_;(with_reducible refine (jqb.calls _ _ l0 t506 t507 w _ ?side1 ?side2 ?side3 A2.out).mono ?_);(case side1=>repeat (first |(with_reducible first | exact HB.out | apply jF | apply jq | apply jD | refine jy ?_ GE505.out) | exact HB.out));(case side2=>exact HR0.out);(case side3=>exact HC0.out);rintro e w5 ⟨g508,rfl,hi,hb,hb2⟩;refine ⟨_,rfl,?_⟩;have HI508:=am (hi);have NB508_505:=am (je.ne_blk hi (jc (g:=gb505) (o:=.cells #[.slice none 0 0] 31 (0,0)) (kq BK505.out) hb2) (by decide));have NB505_508:=am (Ne.symm (je.ne_blk hi (jc (g:=gb505) (o:=.cells #[.slice none 0 0] 31 (0,0)) (kq BK505.out) hb2) (by decide)));replace BK505:=am (jc (g:=gb505) (o:=.cells #[.slice none 0 0] 31 (0,0)) (kq BK505.out) hb2);replace HB:=am (hb);(try clear hb);(try clear hb2);(try clear hk);(try clear hi)) |((with_reducible refine jo (f:=46) rfl ?_);refine gL (some 6) Try.func46 #[.pointer (some ⟨g508,0,none⟩)] ?_;(with_reducible refine (jib.calls k g508 t506 t507 t509 t512 t515 w _ ?side1 ?side2 A3.out).mono ?_);(case side1=>repeat (first |(with_reducible first | exact HI508.out | apply je.alloc | apply je.drewN | apply je.drew | apply je.jQb | refine je.far ?_ NB508_505.out _) | exact HI508.out));(case side2=>exact Y77);rintro e w6 ⟨v510,v513,rfl,ho0,ho1,hi,hb,hk⟩;refine ⟨_,rfl,?_⟩;have HO511:=am (Kd.jpa ho0 (jba (Y77)));have HO514:=am (Kd.jpa ho1 (jba (Y77)));replace BK505:=am (jk.blk hk (g':=gb505) (o:=.cells #[.slice none 0 0] 31 (0,0)) (kq BK505.out) NB505_508.out (by simp));replace HB:=am (hb);replace HI508:=am (hi);(try clear hb);(try clear hb2);(try clear hk);(try clear hi);(try clear ho0);(try clear ho1);obtain ⟨Ao7,co7,eo7⟩:=Kd.jga HO511.out;subst eo7;have hnb8:=NB505_508.out;have hnc8:=NB508_505.out;have hcz9_0:=bc0 BK505.out;have hfz9_0:=ja BK505.out 0))
 refine bodyPost_ret (jmb rfl _ _ gb505 31 #[.slice Ao7 t509.length co7] (0,0) _ rfl (by (with_reducible repeat (first | refine jd ?_ _ | refine jf ?_ | refine jb ?_ _));refine jS (cs:=#[.slice none 0 0]) ?_ 0 _ rfl;(with_reducible repeat (first | refine jd ?_ _ | refine jf ?_ | refine jb ?_ _));exact BK505.out) Try.underlying31 rfl (by kernel_rfl)) rfl ?_
 exact ⟨_,_,Y0,by (with_reducible repeat (first | apply Kd.jda | apply Kd.jfa | apply Kd.jma));exact Kd.jJ (Kd.joa (p:=⟨gb505,0,none⟩) (Kd.jna HO511.out BK505.out (by decide)) (fun _ hk=>hk.2) (.slice Ao7 t509.length co7)) (fun _ hk=>trivial),by (with_reducible repeat (first | apply Kd.jda | apply Kd.jfa | apply Kd.jma));exact Kd.jJ (Kd.joa (p:=⟨gb505,0,none⟩) (Kd.jna HO514.out BK505.out (by decide)) (fun _ hk=>hk.2) (.slice Ao7 t509.length co7)) (fun _ hk=>trivial),Y77⟩
def jla.l0 : Nat → List Int → List Int → Int → Option (Bool)
 | 0,_,_,_=>none
 | k+1,x0,x1,x5=>if x5<(x0.length:Int) then (if 0≤x5 then (if x5<(x1.length:Int) then (if (rd x0 x5)=(rd x1 x5) then (jla.l0 k x0 x1 (wrap64 (x5+1))) else (some false)) else (none)) else (none)) else (some true)
def jla.f (k : Nat) (l0 : List Int) (l1 : List Int) : Option (Bool) := if (l0.length : Int) = (l1.length : Int) then (jla.l0 k l0 l1 0) else (some false)
set_option maxHeartbeats 8000000 in
set_option maxRecDepth 100000 in
theorem jla.calls (k : Nat) (A0 : Option Addr) (c0 : Nat) (l0 : List Int) (A1 : Option Addr) (c1 : Nat) (l1 : List Int) (r : Bool) (w : World) (hr0 : Kd.C (Kd.int .i64) w A0 l0.length l0) (hc0 : l0.length ≤ c0) (hr1 : Kd.C (Kd.int .i64) w A1 l1.length l1) (hc1 : l1.length ≤ c1) (h : jla.f k l0 l1 = some r) :
  Calls Try.prog 21 #[.slice A0 l0.length c0, .slice A1 l1.length c1] w fun e w'=>e=.returned (.bool r)∧jhb w w':=by
 have HR0:=am hr0
 have HC0:=am hc0
 clear hr0 hc0
 have HR1:=am hr1
 have HC1:=am hc1
 clear hr1 hc1
 have H:(if (l0.length:Int)=(l1.length:Int) then (jla.l0 k l0 l1 0) else (some false))=some r:=h
 clear h
 by_cases c3:(l0.length:Int)=(l1.length:Int)
 ·rw [if_pos c3] at H
  have c3b0:((l0.length:Int) == (l1.length:Int))=true:=beq_iff_eq.mpr c3
  have c3b1:((l0.length:Int) != (l1.length:Int))=false:=bne_eq_false_iff_eq.mpr c3
  have c3b2:(l0.length == l1.length)=true:=by first | simpa using c3 |(simp at c3 ⊢;omega)
  clear c3
  have H':=am H
  clear H
  go_enter Try.func21,Try.ntmps21
  go_wp2
  repeat (go_quiet (fail);try go_wp2)
  go_loopg [5] k (fun kq v5 w'=>∃ (x5_1:Int),v5=.int .i64 x5_1∧jE (jla.l0 kq l0 l1 x5_1=some r)∧jE (kq≤k)∧jhb w w')
  case atStart=>exact ⟨(0),(sq),H',⟨Nat.le_refl _⟩,Y4⟩
  case round =>
   clear H'
   try clear c1
   try clear c2
   try clear p2
   try clear c3
   try clear c3b0
   try clear c3b1
   try clear c3b2
   obtain ⟨x5_1,rfl,HA,HK1,⟨m1,rfl⟩⟩:=hrel
   cases gk with
   | zero=>exact absurd HA.out (by simp [jla.l0])
   | succ k1 =>
    have H:=HA.out
    clear HA
    simp only [jla.l0] at H
    by_cases c4:x5_1<(l0.length:Int)
    ·rw [if_pos c4] at H
     have c4b0:decide (x5_1<(l0.length:Int))=true:=dzT c4
     clear c4
     by_cases c5:0≤x5_1
     ·rw [if_pos c5] at H
      have c5b0:decide (0≤x5_1)=true:=dzT c5
      clear c5
      by_cases c6:x5_1<(l1.length:Int)
      ·rw [if_pos c6] at H
       have c6b0:decide (x5_1<(l1.length:Int))=true:=dzT c6
       clear c6
       by_cases c7:(rd l0 x5_1)=(rd l1 x5_1)
       ·rw [if_pos c7] at H
        have c7b0:((rd l0 x5_1) == (rd l1 x5_1))=true:=beq_iff_eq.mpr c7
        have c7b1:((rd l0 x5_1) != (rd l1 x5_1))=false:=bne_eq_false_iff_eq.mpr c7
        clear c7
        have H':=am H
        clear H
        have p516:0≤(x5_1:Int):=ozD (uq)
        have q516:x5_1<(l0.length:Int):=ozD (uq)
        obtain ⟨ad516,e516,hx516_0⟩:=Kd.jsb HR0.out x5_1 p516 q516
        cases e516
        replace p516:=ezT p516
        replace q516:=ezT q516
        have p517:0≤(x5_1:Int):=ozD (uq)
        have q517:x5_1<(l1.length:Int):=ozD (uq)
        obtain ⟨ad517,e517,hx517_0⟩:=Kd.jsb HR1.out x5_1 p517 q517
        cases e517
        replace p517:=ezT p517
        replace q517:=ezT q517
        go_wp2
        repeat (go_quiet (fail);try go_wp2)
        go_roundg k1
        case measure=>have:=HK1.out;omega
        case rel=>exact ⟨(wrap64 (x5_1+1)),(sq),H',⟨by have:=HK1.out;omega⟩,Y4⟩
       ·rw [if_neg c7] at H
        have c7b0:((rd l0 x5_1) == (rd l1 x5_1))=false:=beq_eq_false_iff_ne.mpr c7
        have c7b1:((rd l0 x5_1) != (rd l1 x5_1))=true:=bne_iff_ne.mpr c7
        obtain rfl:=Option.some.inj H
        have p516:0≤(x5_1:Int):=ozD (uq)
        have q516:x5_1<(l0.length:Int):=ozD (uq)
        obtain ⟨ad516,e516,hx516_0⟩:=Kd.jsb HR0.out x5_1 p516 q516
        cases e516
        replace p516:=ezT p516
        replace q516:=ezT q516
        have p517:0≤(x5_1:Int):=ozD (uq)
        have q517:x5_1<(l1.length:Int):=ozD (uq)
        obtain ⟨ad517,e517,hx517_0⟩:=Kd.jsb HR1.out x5_1 p517 q517
        cases e517
        replace p517:=ezT p517
        replace q517:=ezT q517
        go_wp2
        repeat (go_quiet (fail);try go_wp2)
        go_ret
        exact ⟨sq,Y4⟩
      ·rw [if_neg c6] at H
       exact absurd H (by simp)
     ·rw [if_neg c5] at H
      exact absurd H (by simp)
    ·rw [if_neg c4] at H
     have c4b0:decide (x5_1<(l0.length:Int))=false:=dzF c4
     clear c4
     obtain rfl:=Option.some.inj H
     go_wp2
     repeat (go_quiet (fail);try go_wp2)
     go_ret
     exact ⟨sq,Y4⟩
 ·rw [if_neg c3] at H
  have c3b0:((l0.length:Int) == (l1.length:Int))=false:=beq_eq_false_iff_ne.mpr c3
  have c3b1:((l0.length:Int) != (l1.length:Int))=true:=bne_iff_ne.mpr c3
  have c3b2:(l0.length == l1.length)=false:=by first | simpa using c3 |(simp at c3 ⊢;omega)
  obtain rfl:=Option.some.inj H
  go_enter Try.func21,Try.ntmps21
  go_wp2
  repeat (go_quiet (fail);try go_wp2)
  go_ret
  exact ⟨sq,Y4⟩
def jsa.f (a0 : Int) (a1 : Int) (a2 : Int) : Option (Bool) := if a1 ≤ a0 then (some (decide (a0 ≤ a2))) else (some false)
set_option maxHeartbeats 8000000 in
set_option maxRecDepth 100000 in
theorem jsa.calls (a0 : Int) (a1 : Int) (a2 : Int) (r : Bool) (w : World) (h : jsa.f a0 a1 a2 = some r) :
  Calls Try.prog 92 #[.int .i64 a0, .int .i64 a1, .int .i64 a2] w fun e w'=>e=.returned (.bool r)∧jhb w w':=by
 have H:(if a1≤a0 then (some (decide (a0≤a2))) else (some false))=some r:=h
 clear h
 by_cases c4:a1≤a0
 ·rw [if_pos c4] at H
  have c4b0:decide (a1≤a0)=true:=dzT c4
  clear c4
  obtain rfl:=Option.some.inj H
  go_enter Try.func92,Try.ntmps92
  go_wp2
  go_ret
  exact ⟨sq,Y4⟩
 ·rw [if_neg c4] at H
  have c4b0:decide (a1≤a0)=false:=dzF c4
  clear c4
  obtain rfl:=Option.some.inj H
  go_enter Try.func92,Try.ntmps92
  go_wp2
  go_ret
  exact ⟨sq,Y4⟩
def jYa.f (l0_0 : List (S106)) (a1 : Int) : Option (Bool) := (jsa.f a1 0 (wrap64 ((l0_0.length : Int) - 1))).bind fun t107 => (some t107)
set_option maxHeartbeats 8000000 in
set_option maxRecDepth 100000 in
theorem jYa.calls (A0_0 : Option Addr) (c0_0 : Nat) (l0_0 : List (S106)) (a1 : Int) (r : Bool) (w : World) (hr0_0 : Kd.C k106 w A0_0 l0_0.length l0_0) (hc0_0 : l0_0.length ≤ c0_0) (h : jYa.f l0_0 a1 = some r) :
  Calls Try.prog 93 #[.agg #[.slice A0_0 l0_0.length c0_0], .int .i64 a1] w fun e w'=>e=.returned (.bool r)∧Below w.heap.size w w':=by
 have hu31:=Try.underlying31
 have HR0_0:=am hr0_0
 have HC0_0:=am hc0_0
 clear hr0_0 hc0_0
 have HB:=am (Below.refl w.heap.size w)
 have H:((jsa.f a1 0 (wrap64 ((l0_0.length:Int) - 1))).bind fun t107=>(some t107))=some r:=h
 clear h
 replace H:=bzS H
 obtain ⟨t107,A30,H⟩:=H
 replace H:(some t107)=some r:=H
 have A3:=am A30
 clear A30
 obtain rfl:=Option.some.inj H
 go_enter Try.func93,Try.ntmps93
 go_wp2_with (first |((with_reducible refine jG (N:=2) rfl ?_);refine bE (N:=2) (cs:=#[.slice A0_0 l0_0.length c0_0]) (t:=31) ?_;intro gb106 hg w4 hbox hb;have BK106:=am (hbox);have GW106:=am ((Y2:w.heap.size≤gb106));have GE106:=am ((Y2:w.heap.size≤gb106));replace HB:=am (jg (bq) hb);clear hb hbox hg;have hcz5_0:=bc0 BK106.out;have hfz5_0:=ja BK106.out 0) |((with_reducible refine jo (f:=92) rfl ?_);refine gL (some 10) Try.func92 #[.int .i64 a1, .int .i64 0, .int .i64 (wrap64 ((l0_0.length:Int) - 1))] ?_;(with_reducible refine (jsa.calls a1 0 (wrap64 ((l0_0.length:Int) - 1)) t107 _ A3.out).mono ?_);rintro e w' ⟨rfl,⟨nd,rfl⟩⟩;refine ⟨_,rfl,?_⟩))
 go_ret
 exact ⟨Y0,by repeat (first |(with_reducible first | exact HB.out | apply jF | apply jq | apply jD | refine jy ?_ GE106.out) | exact HB.out)⟩
end Go.Proofs.Ytlhfcmbkjddgiaa.P
end
