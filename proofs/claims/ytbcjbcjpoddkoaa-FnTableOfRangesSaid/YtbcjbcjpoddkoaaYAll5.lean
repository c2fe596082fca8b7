/- One part of the proofs on this program: functions of the program as plain functions, that the code comes to them, and facts on them. -/
import Derived.Test.YtbcjbcjpoddkoaaYAll1
import Derived.Test.YtbcjbcjpoddkoaaYAll4
import Derived.Test.YtbcjbcjpoddkoaaYWAuto
section
namespace Go.Proofs.Ytbcjbcjpoddkoaa.P
open Go.RowKit Go.Proofs.YtbcjbcjpoddkoaaW.PrintWords Go.Proofs.YtbcjbcjpoddkoaaW.PrintLast Go.Proofs.YtbcjbcjpoddkoaaW.PrintMore
attribute [local go_sem] jra jpa jCa jBa jga jfa jqa joa jo
set_option linter.unusedVariables false
set_option linter.unusedSimpArgs false
def jha.f (k : Nat) (s0_0 : List Int) (s0_1 : Int) : Option ((List (S98)) × Int) := (jT.f k s0_0 s0_1).bind fun bt398 => ((jf.f k s0_0 bt398.2 (bt398.1.length : Int)).bind fun bt403 => ((jf.f k s0_0 bt403.2 24).bind fun bt405 => (if bt405.1 = 0 then ((jXa.f k s0_0 bt405.2 (([(⟨#[]⟩ : ByteArray), (⟨#[97, 110, 121]⟩ : ByteArray), (⟨#[65]⟩ : ByteArray), (⟨#[116, 111, 111, 108, 111, 110, 103]⟩ : ByteArray)] : List ByteArray))).bind fun bt410 => (if 0 ≤ bt403.1 then (if bt403.1 < (bt398.1.length : Int) then (some ((bt398.1.set (bt403.1 : Int).toNat (⟨bt410.1, (jY bt398.1 bt403.1).f1⟩ : S98)), bt410.2)) else (none)) else (none))) else (if bt405.1 = 1 then ((jh.f k s0_0 bt405.2 (([bt403.1, (-1), 8, (-2)] : List Int))).bind fun bt416 => (if 0 ≤ bt403.1 then (if bt403.1 < (bt398.1.length : Int) then (some ((bt398.1.set (bt403.1 : Int).toNat (⟨(jY bt398.1 bt403.1).f0, bt416.1⟩ : S98)), bt416.2)) else (none)) else (none))) else (if bt405.1 = 2 then (some (([] : List (S98)), bt405.2)) else (some (bt398.1, bt405.2)))))))
def jha.T5 : Bool × List (List Nat × List Nat) := (true, [([], []), ([0], [0]), ([], []), ([], []), ([], []), ([3, 4], [3, 4]), ([1, 2, 0, 1, 2, 3, 4, 5], [1, 2]), ([6, 0, 1, 2, 3, 4, 5], [6]), ([7, 5, 5, 0, 1, 2, 3, 4, 5], [5, 7])])
def jha.B5 : List Nat := [0, 1, 0, 0, 0, 24, 63, 127, 255]
theorem jha.tab5 : rtab .any (opsOf Try.f71 5) = jha.T5 := by kernel_rfl
theorem jha.bits5 : jpc jha.T5.2 jha.B5 = true := by kernel_rfl
def jha.T7 : Bool × List (List Nat × List Nat) := (true, [([], []), ([0], [0]), ([], []), ([], []), ([], []), ([4], [4]), ([3, 5], [3, 5]), ([1, 2, 0, 1, 2, 3, 4, 5, 6], [1, 2]), ([7, 0, 1, 2, 3, 4, 5, 6], [7]), ([8, 6, 6, 0, 1, 2, 3, 4, 5, 6], [6, 8])])
def jha.B7 : List Nat := [0, 1, 0, 0, 0, 16, 56, 127, 255, 511]
theorem jha.tab7 : rtab .any (opsOf Try.f71 7) = jha.T7 := by kernel_rfl
theorem jha.bits7 : jpc jha.T7.2 jha.B7 = true := by kernel_rfl
set_option maxHeartbeats 8000000 in
set_option maxRecDepth 100000 in
theorem jha.calls (k : Nat) (g : Nat) (s0_0 : List Int) (s0_1 : Int) (r1 : List (S98)) (r2 : Int) (w0 w : World) (hI : jc w0 w g s0_0 s0_1) (hB : Below w0.heap.size w0 w) (h : jha.f k s0_0 s0_1 = some (r1, r2)) :
  Calls Try.prog 71 #[.pointer (some ⟨g,0,none⟩)] w fun e w'=>∃ v0_:Value,e=.returned (.agg #[v0_])∧Kd.R k98 98 w' w.heap.size (fun _=>True) v0_ r1∧jc w0 w' g s0_0 r2∧Below w0.heap.size w0 w'∧jb w w' g none:=by
 have hu32:=Try.underlying32
 have HI0:=am hI
 have HK:=am (jb.refl w g none)
 have HL:=am hB.size
 clear hI
 have HW0:=am hB.size
 have HB:=am hB
 clear hB
 have H:((jT.f k s0_0 s0_1).bind fun bt398=>((jf.f k s0_0 bt398.2 (bt398.1.length:Int)).bind fun bt403=>((jf.f k s0_0 bt403.2 24).bind fun bt405=>(if bt405.1=0 then ((jXa.f k s0_0 bt405.2 (([(⟨#[]⟩:ByteArray),(⟨#[97,110,121]⟩:ByteArray),(⟨#[65]⟩:ByteArray),(⟨#[116,111,111,108,111,110,103]⟩:ByteArray)]:List ByteArray))).bind fun bt410=>(if 0≤bt403.1 then (if bt403.1<(bt398.1.length:Int) then (some ((bt398.1.set (bt403.1:Int).toNat (⟨bt410.1,(jY bt398.1 bt403.1).f1⟩:S98)),bt410.2)) else (none)) else (none))) else (if bt405.1=1 then ((jh.f k s0_0 bt405.2 (([bt403.1,(-1),8,(-2)]:List Int))).bind fun bt416=>(if 0≤bt403.1 then (if bt403.1<(bt398.1.length:Int) then (some ((bt398.1.set (bt403.1:Int).toNat (⟨(jY bt398.1 bt403.1).f0,bt416.1⟩:S98)),bt416.2)) else (none)) else (none))) else (if bt405.1=2 then (some (([]:List (S98)),bt405.2)) else (some (bt398.1,bt405.2))))))))=some (r1,r2):=h
 clear h
 replace H:=bzS H
 obtain ⟨⟨t398,t401⟩,A20,H⟩:=H
 replace H:((jf.f k s0_0 t401 (t398.length:Int)).bind fun bt403=>((jf.f k s0_0 bt403.2 24).bind fun bt405=>(if bt405.1=0 then ((jXa.f k s0_0 bt405.2 (([(⟨#[]⟩:ByteArray),(⟨#[97,110,121]⟩:ByteArray),(⟨#[65]⟩:ByteArray),(⟨#[116,111,111,108,111,110,103]⟩:ByteArray)]:List ByteArray))).bind fun bt410=>(if 0≤bt403.1 then (if bt403.1<(t398.length:Int) then (some ((t398.set (bt403.1:Int).toNat (⟨bt410.1,(jY t398 bt403.1).f1⟩:S98)),bt410.2)) else (none)) else (none))) else (if bt405.1=1 then ((jh.f k s0_0 bt405.2 (([bt403.1,(-1),8,(-2)]:List Int))).bind fun bt416=>(if 0≤bt403.1 then (if bt403.1<(t398.length:Int) then (some ((t398.set (bt403.1:Int).toNat (⟨(jY t398 bt403.1).f0,bt416.1⟩:S98)),bt416.2)) else (none)) else (none))) else (if bt405.1=2 then (some (([]:List (S98)),bt405.2)) else (some (t398,bt405.2)))))))=some (r1,r2):=H
 have A2:=am A20
 clear A20
 replace H:=bzS H
 obtain ⟨⟨t403,t404⟩,A30,H⟩:=H
 replace H:((jf.f k s0_0 t404 24).bind fun bt405=>(if bt405.1=0 then ((jXa.f k s0_0 bt405.2 (([(⟨#[]⟩:ByteArray),(⟨#[97,110,121]⟩:ByteArray),(⟨#[65]⟩:ByteArray),(⟨#[116,111,111,108,111,110,103]⟩:ByteArray)]:List ByteArray))).bind fun bt410=>(if 0≤t403 then (if t403<(t398.length:Int) then (some ((t398.set (t403:Int).toNat (⟨bt410.1,(jY t398 t403).f1⟩:S98)),bt410.2)) else (none)) else (none))) else (if bt405.1=1 then ((jh.f k s0_0 bt405.2 (([t403,(-1),8,(-2)]:List Int))).bind fun bt416=>(if 0≤t403 then (if t403<(t398.length:Int) then (some ((t398.set (t403:Int).toNat (⟨(jY t398 t403).f0,bt416.1⟩:S98)),bt416.2)) else (none)) else (none))) else (if bt405.1=2 then (some (([]:List (S98)),bt405.2)) else (some (t398,bt405.2))))))=some (r1,r2):=H
 have A3:=am A30
 clear A30
 replace H:=bzS H
 obtain ⟨⟨t405,t406⟩,A40,H⟩:=H
 replace H:(if t405=0 then ((jXa.f k s0_0 t406 (([(⟨#[]⟩:ByteArray),(⟨#[97,110,121]⟩:ByteArray),(⟨#[65]⟩:ByteArray),(⟨#[116,111,111,108,111,110,103]⟩:ByteArray)]:List ByteArray))).bind fun bt410=>(if 0≤t403 then (if t403<(t398.length:Int) then (some ((t398.set (t403:Int).toNat (⟨bt410.1,(jY t398 t403).f1⟩:S98)),bt410.2)) else (none)) else (none))) else (if t405=1 then ((jh.f k s0_0 t406 (([t403,(-1),8,(-2)]:List Int))).bind fun bt416=>(if 0≤t403 then (if t403<(t398.length:Int) then (some ((t398.set (t403:Int).toNat (⟨(jY t398 t403).f0,bt416.1⟩:S98)),bt416.2)) else (none)) else (none))) else (if t405=2 then (some (([]:List (S98)),t406)) else (some (t398,t406)))))=some (r1,r2):=H
 have A4:=am A40
 clear A40
 by_cases c5:t405=0
 ·rw [if_pos c5] at H
  have c5b0:(t405 == 0)=true:=beq_iff_eq.mpr c5
  have c5b1:(t405 != 0)=false:=bne_eq_false_iff_eq.mpr c5
  clear c5
  obtain ⟨y407,hy407⟩:∃ y_:List ByteArray,y_=(([(⟨#[]⟩:ByteArray),(⟨#[97,110,121]⟩:ByteArray),(⟨#[65]⟩:ByteArray),(⟨#[116,111,111,108,111,110,103]⟩:ByteArray)]:List ByteArray)):=⟨_,rfl⟩
  replace H:((jXa.f k s0_0 t406 y407).bind fun bt410=>(if 0≤t403 then (if t403<(t398.length:Int) then (some ((t398.set (t403:Int).toNat (⟨bt410.1,(jY t398 t403).f1⟩:S98)),bt410.2)) else (none)) else (none)))=some (r1,r2):=by first |(rw [hy407];with_reducible exact H) |(have H2_:=(Option.bind_some _ _).symm.trans H;rw [hy407];with_reducible exact H2_) |(have H2_:=(Option.bind_some _ _).symm.trans H;with_reducible exact H2_) | with_reducible exact H |(rw [hy407];exact H) | exact H
  have Ny407:=am hy407
  clear hy407
  replace H:=bzS H
  obtain ⟨⟨t410,t411⟩,A60,H⟩:=H
  replace H:(if 0≤t403 then (if t403<(t398.length:Int) then (some ((t398.set (t403:Int).toNat (⟨t410,(jY t398 t403).f1⟩:S98)),t411)) else (none)) else (none))=some (r1,r2):=H
  have A6:=am A60
  clear A60
  by_cases c7:0≤t403
  ·rw [if_pos c7] at H
   have c7b0:decide (0≤t403)=true:=dzT c7
   clear c7
   by_cases c8:t403<(t398.length:Int)
   ·rw [if_pos c8] at H
    have c8b0:decide (t403<(t398.length:Int))=true:=dzT c8
    clear c8
    obtain ⟨y412,hy412⟩:∃ y_:List (S98),y_=(t398.set (t403:Int).toNat (⟨t410,(jY t398 t403).f1⟩:S98)):=⟨_,rfl⟩
    replace H:(some (y412,t411))=some (r1,r2):=by first |(rw [hy412];with_reducible exact H) |(have H2_:=(Option.bind_some _ _).symm.trans H;rw [hy412];with_reducible exact H2_) |(have H2_:=(Option.bind_some _ _).symm.trans H;with_reducible exact H2_) | with_reducible exact H |(rw [hy412];exact H) | exact H
    have Ny412:=am hy412
    clear hy412
    simp only [Option.some.injEq,Prod.mk.injEq] at H
    obtain ⟨rfl,rfl⟩:=H
    go_enter Try.func71,Try.ntmps71
    try go_wp2_with (first |((with_reducible refine jQ (N:=2) rfl ?_);refine bE (N:=2) (cs:=#[.slice none 0 0]) (t:=32) ?_;intro gb397 hg w10 hbox hb;have BK397:=am (hbox);have GW397:=am ((Y12:w.heap.size≤gb397));have GE397:=am ((Nat.le_trans HW0.out (Y12:w.heap.size≤gb397):w0.heap.size≤gb397));have NB0_397:=am ((Y28:g≠gb397));have NB397_0:=am ((Y29:gb397≠g));replace HK:=am (jb.trans (Y17) (jb.of_below hb g none) (.inl rfl));replace HB:=am (ji (Y18) hb);replace HI0:=am (jc.below (Y16) hb);clear hb hbox hg) |((with_reducible refine jg (f:=95) rfl ?_);refine gL (some 6) Try.func95 #[.pointer (some ⟨g,0,none⟩)] ?_;(with_reducible refine (jT.calls k g s0_0 s0_1 t398 t401 w0 _ ?side1 ?side2 A2.out).mono ?_);(case side1=>exact Y44);(case side2=>exact Y45);rintro e w11 ⟨v399,rfl,ho0,hi,hb,hk⟩;refine ⟨_,rfl,?_⟩;have HO400:=am (Kd.jX ho0 (jM (w:=w) (g:=g) (row:=none) (Y35)));replace BK397:=am (jb.blk hk (g':=gb397) (o:=.cells #[.slice none 0 0] 32 (0,0)) (kq BK397.out) NB397_0.out (by simp));replace HK:=am (jb.trans (Y35) hk (.inl rfl));replace HB:=am (hb);replace HI0:=am (hi);(try clear hb);(try clear hb2);(try clear hk);(try clear hi);(try clear ho0)) |((with_reducible refine jQ (N:=3) rfl ?_);refine bE (N:=3) (cs:=#[.slice none 0 0]) (t:=32) ?_;intro gb402 hg w12 hbox hb;have BK402:=am (hbox);have GW402:=am ((Y46:w.heap.size≤gb402));have GE402:=am ((Nat.le_trans HW0.out (Y46:w.heap.size≤gb402):w0.heap.size≤gb402));have NB397_402:=am ((Y66:gb397≠gb402));have NB402_397:=am ((Y67:gb402≠gb397));have NB0_402:=am ((Y68:g≠gb402));have NB402_0:=am ((Y69:gb402≠g));replace HO400:=am (Kd.jja (rq HO400.out) hb);replace BK397:=am (jq (g:=gb397) (o:=.cells #[.slice none 0 0] 32 (0,0)) (kq BK397.out) hb);replace HK:=am (jb.trans (Y35) (jb.of_below hb g none) (.inl rfl));replace HB:=am (ji (Y45) hb);replace HI0:=am (jc.below (Y44) hb);clear hb hbox hg;obtain ⟨Ao13,co13,eo13⟩:=Kd.jaa HO400.out;subst eo13;have hnb14:=NB402_397.out;have hnc14:=NB397_402.out;have hnb15:=NB402_0.out;have hnc15:=NB0_402.out;have hcz16_0:=bc0 BK402.out;have hfz16_0:=ja BK402.out 0) |((with_reducible refine jg (f:=55) rfl ?_);refine gL (some 11) Try.func55 #[.pointer (some ⟨g,0,none⟩), .int .i64 (t398.length:Int)] ?_;(with_reducible refine (jf.calls k g s0_0 t401 (t398.length:Int) t403 t404 w0 _ ?side1 ?side2 A3.out).mono ?_);(case side1=>exact Y14);(case side2=>exact Y27);rintro e w17 ⟨rfl,hi,hb,hk⟩;refine ⟨_,rfl,?_⟩;replace BK397:=am (jb.blk hk (g':=gb397) (o:=.cells #[.slice none 0 0] 32 (0,0)) (Y70) NB397_0.out (by simp));replace HO400:=am (Kd.jI (Kd.jxa (jc.apart (show jc w0 _ g s0_0 t401 from Y14) (by (with_reducible repeat (first | apply Kd.jba | apply Kd.jea | apply Kd.jma));exact (Kd.jI (Kd.jwb (p:=⟨gb402,0,none⟩) (Kd.jIa HO400.out BK402.out (by decide)) (fun _ hk=>hk.2) (.slice Ao13 t398.length co13)) (fun _ h_=>h_.1))) (by decide)) hk (fun _ h=>h.2)) (fun _ h=>h.1));replace BK402:=am (jb.blk hk (g':=gb402) (o:=.cells #[.slice Ao13 t398.length co13] 32 (0,0)) (Y71) NB402_0.out (by simp));replace HK:=am (jb.trans (Y24) hk (.inl rfl));replace HB:=am (hb);replace HI0:=am (hi);(try clear hb);(try clear hb2);(try clear hk);(try clear hi)) |((with_reducible refine jg (f:=55) rfl ?_);refine gL (some 13) Try.func55 #[.pointer (some ⟨g,0,none⟩), .int .i64 24] ?_;(with_reducible refine (jf.calls k g s0_0 t404 24 t405 t406 w0 _ ?side1 ?side2 A4.out).mono ?_);(case side1=>exact Y14);(case side2=>exact Y27);rintro e w18 ⟨rfl,hi,hb,hk⟩;refine ⟨_,rfl,?_⟩;replace BK397:=am (jb.blk hk (g':=gb397) (o:=.cells #[.slice none 0 0] 32 (0,0)) (kq BK397.out) NB397_0.out (by simp));replace HO400:=am (Kd.jI (Kd.jxa (jc.apart (show jc w0 _ g s0_0 t404 from Y14) (rq HO400.out) (by decide)) hk (fun _ h=>h.2)) (fun _ h=>h.1));replace BK402:=am (jb.blk hk (g':=gb402) (o:=.cells #[.slice Ao13 t398.length co13] 32 (0,0)) (kq BK402.out) NB402_0.out (by simp));replace HK:=am (jb.trans (Y24) hk (.inl rfl));replace HB:=am (hb);replace HI0:=am (hi);(try clear hb);(try clear hb2);(try clear hk);(try clear hi)))
    replace HO400:=am (Kd.jma HO400.out)
    replace BK397:=am (jE BK397.out)
    replace BK402:=am (jE BK402.out)
    replace HI0:=am (jc.drew HI0.out)
    replace HK:=am (jOa HK.out)
    replace HB:=am (jW HB.out)
    refine start_ (n:=9) (S:=fun w'=>w'.cell? ⟨gb402,0,none⟩=some (.slice Ao13 t398.length co13)) (ds:=[8]) #[false,false,false,false,false,false,false,false,false] (by kernel_rfl) rfl rfl ((jK BK402.out 0).trans rfl) (fun hHeld=>?_);refine jrc jha.tab5 jha.bits5 (fun HT_ HW_=>?_)
    generalize w18.drew=w19 at HO400 BK397 BK402 HI0 HK HB hHeld ⊢
    refine pq (i:=0) (N:=some 16) #[true,false,false,false,false,false,false,false,false] ?_
    refine pq (i:=2) (N:=some 18) #[true,false,true,false,false,false,false,false,false] ?_
    refine pq (i:=3) (N:=some 19) #[true,false,true,true,false,false,false,false,false] ?_
    refine take_ (i:=1) (N:=some 17) (v:=?_) (a':=?_) #[true,true,true,true,false,false,false,false,false] rfl rfl (jNb HT_.out HW_.out (by kernel_rfl)) (fun _ _ _ h=>h) (Or.inl ⟨by rfl,?_⟩) hHeld ?_ ?_
    rotate_left
    ·intro w' s0
     go_simp
     with_reducible rfl
    rotate_left
    ·exact sa
    refine one_ (i:=4) (N:=some 20) #[true,true,true,true,true,false,false,false,false] rfl rfl (jLb HT_.out (by kernel_rfl)) (by decide) (fun K hK=>?_)
    refine Kd.jTb Kd.string _ 9 ?hg (N:=20) ?hd (xs:=([(⟨#[]⟩:ByteArray),(⟨#[97,110,121]⟩:ByteArray),(⟨#[65]⟩:ByteArray),(⟨#[116,111,111,108,111,110,103]⟩:ByteArray)]:List ByteArray)) (inner:=[.string (⟨#[]⟩:ByteArray), .string (⟨#[97,110,121]⟩:ByteArray), .string (⟨#[65]⟩:ByteArray), .string (⟨#[116,111,111,108,111,110,103]⟩:ByteArray)]) (ok:=fun _=>True) (okp:=fun _=>True) ?hr ?hp (fun _ hk=>hk) trivial (Below.refl _ _) (Nat.le_refl _) (by simp) ?_;(case hd=>rfl);(case hg=>rfl);(case hr=>exact Y8);(case hp=>exact (Reps.one (show Kd.M Kd.string _ _ _ (⟨#[]⟩:ByteArray) [.string (⟨#[]⟩:ByteArray)] from rfl) (Reps.one (show Kd.M Kd.string _ _ _ (⟨#[97,110,121]⟩:ByteArray) [.string (⟨#[97,110,121]⟩:ByteArray)] from rfl) (Reps.one (show Kd.M Kd.string _ _ _ (⟨#[65]⟩:ByteArray) [.string (⟨#[65]⟩:ByteArray)] from rfl) (Reps.one (show Kd.M Kd.string _ _ _ (⟨#[116,111,111,108,111,110,103]⟩:ByteArray) [.string (⟨#[116,111,111,108,111,110,103]⟩:ByteArray)] from rfl) (Reps.none _ _))))))
    intro v408 w20 ho21 hb hg_ hnew_
    clear hg_ hnew_
    (first | rw [← Ny407.out] at ho21 |(simp only [Int.reduceToNat] at ho21;rw [← Ny407.out] at ho21))
    have HO409:=am (Kd.jX ho21 (jM (w:=w) (g:=g) (row:=none) (Y24)))
    replace HO400:=am (Kd.jja (rq HO400.out) hb)
    replace BK397:=am (jq (g:=gb397) (o:=.cells #[.slice none 0 0] 32 (0,0)) (kq BK397.out) hb)
    replace BK402:=am (jq (g:=gb402) (o:=.cells #[.slice Ao13 t398.length co13] 32 (0,0)) (kq BK402.out) hb)
    replace HK:=am (jb.trans (Y24) (jb.of_below hb g none) (.inl rfl))
    replace HB:=am (ji (Y27) hb)
    replace HI0:=am (jc.below (Y14) hb)
    clear hb ho21
    obtain ⟨Ao22,co22,eo22⟩:=Kd.jaa HO409.out
    (first | subst eo22 |(injection eo22 with f1_ f2_ f3_;have f4_:=f1_.symm;have f5_:=f3_.symm;clear f1_ f2_ f3_;subst f4_;subst f5_))
    refine hK.out _ _ ((jK BK402.out 0).trans rfl) (fun hHeld=>?_)
    clear hK K
    refine jRb (a':=?_) ?_ ?_
    rotate_left
    ·show Act.put _ (some 20) _=_
     simp only [Act.put,List.setIfInBounds_toArray,List.set_cons_zero,List.set_cons_succ,jeb,jhb]
     rfl
    refine one_ (i:=5) (N:=some 21) #[true,true,true,true,true,true,false,false,false] rfl rfl (jLb HT_.out (by kernel_rfl)) (by decide) (fun K hK=>?_)
    refine goes_ Try.func96 (by kernel_rfl) rfl #[.pointer (some ⟨g,0,none⟩), .slice Ao22 y407.length co22] (by rfl) rfl rfl (aq) ?_
    with_reducible refine (jXa.calls k g s0_0 t406 _ _ y407 t410 t411 w0 _ ?side1 ?side2 ?side3 ?side4 ?side5 A6.out).mono ?_
    (case side1=>exact Y14)
    (case side2=>exact Y27)
    (case side3=>exact cq (Kd.jm HO409.out).2.2)
    (case side4=>exact (Kd.jm HO409.out).2.1)
    (case side5=>exact jqb (jc.own_ne HI0.out HO409.out (by decide)))
    rintro e w23 ⟨rfl,hi,hb,hk⟩
    refine ⟨_,rfl,?_⟩
    replace BK397:=am (jb.blk hk (g':=gb397) (o:=.cells #[.slice none 0 0] 32 (0,0)) (kq BK397.out) NB397_0.out (by simp))
    replace HO400:=am (Kd.jI (Kd.jxa (jc.apart (show jc w0 _ g s0_0 t406 from Y14) (rq HO400.out) (by decide)) hk (fun _ h=>h.2)) (fun _ h=>h.1))
    replace BK402:=am (jb.blk hk (g':=gb402) (o:=.cells #[.slice Ao13 t398.length co13] 32 (0,0)) (kq BK402.out) NB402_0.out (by simp))
    replace HO409:=am (Kd.jI (Kd.jxa (jc.apart (show jc w0 _ g s0_0 t406 from Y14) (rq HO409.out) (by decide)) hk (fun _ h=>h.2)) (fun _ h=>h.1))
    replace HK:=am (jb.trans (Y24) hk (.inl rfl))
    replace HB:=am (hb)
    replace HI0:=am (hi)
    (try clear hb)
    (try clear hb2)
    (try clear hk)
    (try clear hi)
    have p9:0≤(t403:Int):=ozD (uq)
    have q9:(t403:Int)<((t398.length:Int):Int):=ozD (uq)
    obtain ⟨go9,co9,eo9,gb9,gl9,cl9,HG9⟩:=Kd.R_form HO400.out (by omega)
    (first | cases eo9 |(injection eo9 with ea_ en_ ec_;(first | subst ea_ |(injection ea_ with ea_;subst ea_));subst ec_;clear en_))
    have GB9:=am gb9
    have GG9:=am HG9
    clear gb9 gl9 HG9
    obtain ⟨ce9,hcl9,hM9,hcc9,hfr9⟩:=Kd.R_elem HO400.out z98 (t403:Int) p9 q9
    obtain rfl:=k98_openM hM9
    have hx9_0:World.cell? _ ⟨go9,(t403:Int).toNat * 2,none⟩=some (.string ((jY t398 t403).f0)):=hcc9 0 _ rfl
    have hx9_1:World.cell? _ ⟨go9,(t403:Int).toNat * 2+1,none⟩=some (.int .i64 ((jY t398 t403).f1)):=hcc9 1 _ rfl
    have hf9_0:World.frozen? _ ⟨go9,(t403:Int).toNat * 2,none⟩=false:=hfr9 0
    have hf9_1:World.frozen? _ ⟨go9,(t403:Int).toNat * 2+1,none⟩=false:=hfr9 1
    clear hcl9 hcc9 hfr9 hM9
    replace p9:=ezT p9
    replace q9:=ezT q9
    have HN0_go9:=am (show g≠go9 from by have h_:=jc.own_ne HI0.out HO400.out (by decide);intro e_;exact h_ (by rw [e_];rfl))
    obtain ⟨ce24,hcl24,hM24,hcc24,hfr24⟩:=Kd.R_elem HO400.out z98 (t403:Int) (ozD (uq)) (by have h_:(t403:Int)<((t398.length:Int):Int):=ozD (uq);first | exact h_ |(have e_:=(Kd.jm HO400.out).1;omega) | simpa using h_)
    obtain rfl:=k98_openM hM24
    have HP24:=(Kd.R_seg HO400.out (t403:Int) (ozD (uq)) (by have h_:(t403:Int)<((t398.length:Int):Int):=ozD (uq);first | exact h_ |(have e_:=(Kd.jm HO400.out).1;omega) | simpa using h_) (seg:=[.string t410]) (j:=0) hcl24 hcc24 (show 1≤2 from by decide) (x':=(⟨t410,(jY t398 t403).f1⟩:S98)) (k98_mkM _ _ _ (⟨t410,(jY t398 t403).f1⟩:S98) ) (fun _ hk=>hk)).1
    rw [← Ny412.out] at HP24
    have HQ24:=am HP24
    clear hcl24 hcc24 hfr24 hM24 HP24
    refine hK.out _ _ ((jK BK402.out 0).trans rfl) (fun hHeld=>?_)
    clear hK K
    refine jRb (a':=?_) ?_ ?_
    rotate_left
    ·show Act.put _ (some 21) _=_
     simp only [Act.put,List.setIfInBounds_toArray,List.set_cons_zero,List.set_cons_succ,jeb,jhb]
     rfl
    refine pq (i:=6) (N:=some 22) #[true,true,true,true,true,true,true,false,false] ?_
    refine pq (i:=7) (N:=some 23) #[true,true,true,true,true,true,true,true,false] ?_
    refine last_ (i:=8) (N:=none) #[true,true,true,true,true,true,true,true,true] rfl rfl (jLb HT_.out (by kernel_rfl)) (by decide) (fun K hK=>?_)
    refine skip_ (w1:=?_) (by rfl) rfl ?_ ?_
    rotate_left
    ·go_simp
     rfl
    refine hK.out _ _ ?_
    clear hK K
    refine done_ (done_of HT_.out (by kernel_rfl)) ?_
    have n0_:jl (Kd.R k98 98 (w23.setCell ⟨go9,(t403:Int).toNat * 2,none⟩ (.string t410)) w.heap.size (fun _=>True) (.slice (some ⟨go9,0,none⟩) t398.length co13) y412):=⟨rq HQ24.out⟩
    have n1_:jl (Kd.R Kd.string 9 (w23.setCell ⟨go9,(t403:Int).toNat * 2,none⟩ (.string t410)) w.heap.size (fun _=>True) (.slice Ao22 y407.length co22) y407):=⟨by (with_reducible repeat (first | apply Kd.jba | apply Kd.jea | apply Kd.jma));exact Kd.jI (Kd.jwb (p:=⟨go9,(t403:Int).toNat * 2,none⟩) (Kd.jIa HO409.out GG9.out (by decide)) (fun _ hk=>hk.2) (.string t410)) (fun _ hk=>trivial)⟩
    have n2_:jl ((w23.setCell ⟨go9,(t403:Int).toNat * 2,none⟩ (.string t410)).heap[gb397]?=some (.cells #[.slice none 0 0] 32 (0,0))):=⟨by (with_reducible repeat (first | refine jw ?_ _ | refine jE ?_ | refine jB ?_ _));refine jcb ?_ (by have h_:=Kd.R_ne HO400.out BK397.out (by decide);intro e_;exact h_ (by rw [e_];rfl)) _;(with_reducible repeat (first | refine jw ?_ _ | refine jE ?_ | refine jB ?_ _));exact BK397.out⟩
    have n3_:jl ((w23.setCell ⟨go9,(t403:Int).toNat * 2,none⟩ (.string t410)).heap[gb402]?=some (.cells #[.slice (some ⟨go9,0,none⟩) t398.length co13] 32 (0,0))):=⟨by (with_reducible repeat (first | refine jw ?_ _ | refine jE ?_ | refine jB ?_ _));refine jcb ?_ (by have h_:=Kd.R_ne HO400.out BK402.out (by decide);intro e_;exact h_ (by rw [e_];rfl)) _;(with_reducible repeat (first | refine jw ?_ _ | refine jE ?_ | refine jB ?_ _));exact BK402.out⟩
    have n4_:jl (jc w0 (w23.setCell ⟨go9,(t403:Int).toNat * 2,none⟩ (.string t410)) g s0_0 t411):=⟨by repeat (first |(with_reducible first | exact HI0.out | apply jc.alloc | apply jc.drewN | apply jc.drew | apply jc.jZb | refine jc.far ?_ HN0_go9.out _ | refine jc.far ?_ NB0_397.out _ | refine jc.far ?_ NB0_402.out _) | exact HI0.out)⟩
    have n5_:jl (jb w (w23.setCell ⟨go9,(t403:Int).toNat * 2,none⟩ (.string t410)) g none):=⟨by repeat (first |(with_reducible first | exact HK.out | apply jb.set_ | apply jUa | apply jOa | apply jVa | refine jab ?_ GB9.out _ | refine jab ?_ GW397.out _ | refine jab ?_ GW402.out _) | exact HK.out)⟩
    have n6_:jl (Below w0.heap.size w0 (w23.setCell ⟨go9,(t403:Int).toNat * 2,none⟩ (.string t410))):=⟨by repeat (first |(with_reducible first | exact HB.out | apply jU | apply jv | apply jW | refine jS ?_ (Nat.le_trans HL.out GB9.out) | refine jS ?_ (jc.ge HI0.out) | refine jS ?_ GE397.out | refine jS ?_ GE402.out) | exact HB.out)⟩
    (try clear HO400)
    (try clear HO409)
    (try clear BK397)
    (try clear BK402)
    (try clear HI0)
    (try clear HK)
    (try clear HB)
    generalize (w23.setCell ⟨go9,(t403:Int).toNat * 2,none⟩ (.string t410))=w25 at n0_ n1_ n2_ n3_ n4_ n5_ n6_ ⊢
    have HO400:=n0_
    have HO409:=n1_
    have BK397:=n2_
    have BK402:=n3_
    have HI0:=n4_
    have HK:=n5_
    have HB:=n6_
    clear n0_ n1_ n2_ n3_ n4_ n5_ n6_
    have hcz26_0:=bc0 BK402.out
    have hfz26_0:=ja BK402.out 0
    have hnb27:=NB397_0.out
    have hnc27:=NB0_397.out
    have hcz28_0:=bc0 BK397.out
    have hfz28_0:=ja BK397.out 0
    try go_wp2
    refine bodyPost_ret (results_cell_row rfl _ _ gb397 32 #[.slice (some ⟨go9,0,none⟩) t398.length co13] (0,0) _ rfl (Y72) Try.underlying32 rfl (by kernel_rfl)) rfl ?_
    exact ⟨_,Y0,by (with_reducible repeat (first | apply Kd.jba | apply Kd.jea | apply Kd.jma));exact Kd.jI (Kd.jwb (p:=⟨gb397,0,none⟩) (Kd.jIa HO400.out BK397.out (by decide)) (fun _ hk=>hk.2) (.slice (some ⟨go9,0,none⟩) t398.length co13)) (fun _ hk=>trivial),Y14,Y27,Y24⟩
   ·rw [if_neg c8] at H
    exact absurd H (by simp)
  ·rw [if_neg c7] at H
   exact absurd H (by simp)
 ·rw [if_neg c5] at H
  have c5b0:(t405 == 0)=false:=beq_eq_false_iff_ne.mpr c5
  have c5b1:(t405 != 0)=true:=bne_iff_ne.mpr c5
  by_cases c29:t405=1
  ·rw [if_pos c29] at H
   have c29b0:(t405 == 1)=true:=beq_iff_eq.mpr c29
   have c29b1:(t405 != 1)=false:=bne_eq_false_iff_eq.mpr c29
   clear c29
   obtain ⟨y413,hy413⟩:∃ y_:List Int,y_=(([t403,(-1),8,(-2)]:List Int)):=⟨_,rfl⟩
   replace H:((jh.f k s0_0 t406 y413).bind fun bt416=>(if 0≤t403 then (if t403<(t398.length:Int) then (some ((t398.set (t403:Int).toNat (⟨(jY t398 t403).f0,bt416.1⟩:S98)),bt416.2)) else (none)) else (none)))=some (r1,r2):=by first |(rw [hy413];with_reducible exact H) |(have H2_:=(Option.bind_some _ _).symm.trans H;rw [hy413];with_reducible exact H2_) |(have H2_:=(Option.bind_some _ _).symm.trans H;with_reducible exact H2_) | with_reducible exact H |(rw [hy413];exact H) | exact H
   have Ny413:=am hy413
   clear hy413
   replace H:=bzS H
   obtain ⟨⟨t416,t417⟩,A300,H⟩:=H
   replace H:(if 0≤t403 then (if t403<(t398.length:Int) then (some ((t398.set (t403:Int).toNat (⟨(jY t398 t403).f0,t416⟩:S98)),t417)) else (none)) else (none))=some (r1,r2):=H
   have A30:=am A300
   clear A300
   by_cases c31:0≤t403
   ·rw [if_pos c31] at H
    have c31b0:decide (0≤t403)=true:=dzT c31
    clear c31
    by_cases c32:t403<(t398.length:Int)
    ·rw [if_pos c32] at H
     have c32b0:decide (t403<(t398.length:Int))=true:=dzT c32
     clear c32
     obtain ⟨y418,hy418⟩:∃ y_:List (S98),y_=(t398.set (t403:Int).toNat (⟨(jY t398 t403).f0,t416⟩:S98)):=⟨_,rfl⟩
     replace H:(some (y418,t417))=some (r1,r2):=by first |(rw [hy418];with_reducible exact H) |(have H2_:=(Option.bind_some _ _).symm.trans H;rw [hy418];with_reducible exact H2_) |(have H2_:=(Option.bind_some _ _).symm.trans H;with_reducible exact H2_) | with_reducible exact H |(rw [hy418];exact H) | exact H
     have Ny418:=am hy418
     clear hy418
     simp only [Option.some.injEq,Prod.mk.injEq] at H
     obtain ⟨rfl,rfl⟩:=H
     go_enter Try.func71,Try.ntmps71
     try go_wp2_with (first |((with_reducible refine jQ (N:=2) rfl ?_);refine bE (N:=2) (cs:=#[.slice none 0 0]) (t:=32) ?_;intro gb397 hg w34 hbox hb;have BK397:=am (hbox);have GW397:=am ((Y12:w.heap.size≤gb397));have GE397:=am ((Nat.le_trans HW0.out (Y12:w.heap.size≤gb397):w0.heap.size≤gb397));have NB0_397:=am ((Y28:g≠gb397));have NB397_0:=am ((Y29:gb397≠g));replace HK:=am (jb.trans (Y17) (jb.of_below hb g none) (.inl rfl));replace HB:=am (ji (Y18) hb);replace HI0:=am (jc.below (Y16) hb);clear hb hbox hg) |((with_reducible refine jg (f:=95) rfl ?_);refine gL (some 6) Try.func95 #[.pointer (some ⟨g,0,none⟩)] ?_;(with_reducible refine (jT.calls k g s0_0 s0_1 t398 t401 w0 _ ?side1 ?side2 A2.out).mono ?_);(case side1=>exact Y44);(case side2=>exact Y45);rintro e w35 ⟨v399,rfl,ho0,hi,hb,hk⟩;refine ⟨_,rfl,?_⟩;have HO400:=am (Kd.jX ho0 (jM (w:=w) (g:=g) (row:=none) (Y35)));replace BK397:=am (jb.blk hk (g':=gb397) (o:=.cells #[.slice none 0 0] 32 (0,0)) (kq BK397.out) NB397_0.out (by simp));replace HK:=am (jb.trans (Y35) hk (.inl rfl));replace HB:=am (hb);replace HI0:=am (hi);(try clear hb);(try clear hb2);(try clear hk);(try clear hi);(try clear ho0)) |((with_reducible refine jQ (N:=3) rfl ?_);refine bE (N:=3) (cs:=#[.slice none 0 0]) (t:=32) ?_;intro gb402 hg w36 hbox hb;have BK402:=am (hbox);have GW402:=am ((Y46:w.heap.size≤gb402));have GE402:=am ((Nat.le_trans HW0.out (Y46:w.heap.size≤gb402):w0.heap.size≤gb402));have NB397_402:=am ((Y66:gb397≠gb402));have NB402_397:=am ((Y67:gb402≠gb397));have NB0_402:=am ((Y68:g≠gb402));have NB402_0:=am ((Y69:gb402≠g));replace HO400:=am (Kd.jja (rq HO400.out) hb);replace BK397:=am (jq (g:=gb397) (o:=.cells #[.slice none 0 0] 32 (0,0)) (kq BK397.out) hb);replace HK:=am (jb.trans (Y35) (jb.of_below hb g none) (.inl rfl));replace HB:=am (ji (Y45) hb);replace HI0:=am (jc.below (Y44) hb);clear hb hbox hg;obtain ⟨Ao37,co37,eo37⟩:=Kd.jaa HO400.out;subst eo37;have hnb38:=NB402_397.out;have hnc38:=NB397_402.out;have hnb39:=NB402_0.out;have hnc39:=NB0_402.out;have hcz40_0:=bc0 BK402.out;have hfz40_0:=ja BK402.out 0) |((with_reducible refine jg (f:=55) rfl ?_);refine gL (some 11) Try.func55 #[.pointer (some ⟨g,0,none⟩), .int .i64 (t398.length:Int)] ?_;(with_reducible refine (jf.calls k g s0_0 t401 (t398.length:Int) t403 t404 w0 _ ?side1 ?side2 A3.out).mono ?_);(case side1=>exact Y14);(case side2=>exact Y27);rintro e w41 ⟨rfl,hi,hb,hk⟩;refine ⟨_,rfl,?_⟩;replace BK397:=am (jb.blk hk (g':=gb397) (o:=.cells #[.slice none 0 0] 32 (0,0)) (Y70) NB397_0.out (by simp));replace HO400:=am (Kd.jI (Kd.jxa (jc.apart (show jc w0 _ g s0_0 t401 from Y14) (by (with_reducible repeat (first | apply Kd.jba | apply Kd.jea | apply Kd.jma));exact (Kd.jI (Kd.jwb (p:=⟨gb402,0,none⟩) (Kd.jIa HO400.out BK402.out (by decide)) (fun _ hk=>hk.2) (.slice Ao37 t398.length co37)) (fun _ h_=>h_.1))) (by decide)) hk (fun _ h=>h.2)) (fun _ h=>h.1));replace BK402:=am (jb.blk hk (g':=gb402) (o:=.cells #[.slice Ao37 t398.length co37] 32 (0,0)) (Y71) NB402_0.out (by simp));replace HK:=am (jb.trans (Y24) hk (.inl rfl));replace HB:=am (hb);replace HI0:=am (hi);(try clear hb);(try clear hb2);(try clear hk);(try clear hi)) |((with_reducible refine jg (f:=55) rfl ?_);refine gL (some 13) Try.func55 #[.pointer (some ⟨g,0,none⟩), .int .i64 24] ?_;(with_reducible refine (jf.calls k g s0_0 t404 24 t405 t406 w0 _ ?side1 ?side2 A4.out).mono ?_);(case side1=>exact Y14);(case side2=>exact Y27);rintro e w42 ⟨rfl,hi,hb,hk⟩;refine ⟨_,rfl,?_⟩;replace BK397:=am (jb.blk hk (g':=gb397) (o:=.cells #[.slice none 0 0] 32 (0,0)) (kq BK397.out) NB397_0.out (by simp));replace HO400:=am (Kd.jI (Kd.jxa (jc.apart (show jc w0 _ g s0_0 t404 from Y14) (rq HO400.out) (by decide)) hk (fun _ h=>h.2)) (fun _ h=>h.1));replace BK402:=am (jb.blk hk (g':=gb402) (o:=.cells #[.slice Ao37 t398.length co37] 32 (0,0)) (kq BK402.out) NB402_0.out (by simp));replace HK:=am (jb.trans (Y24) hk (.inl rfl));replace HB:=am (hb);replace HI0:=am (hi);(try clear hb);(try clear hb2);(try clear hk);(try clear hi)))
     replace HO400:=am (Kd.jma HO400.out)
     replace BK397:=am (jE BK397.out)
     replace BK402:=am (jE BK402.out)
     replace HI0:=am (jc.drew HI0.out)
     replace HK:=am (jOa HK.out)
     replace HB:=am (jW HB.out)
     refine start_ (n:=10) (S:=fun w'=>w'.cell? ⟨gb402,0,none⟩=some (.slice Ao37 t398.length co37)) (ds:=[9]) #[false,false,false,false,false,false,false,false,false,false] (by kernel_rfl) rfl rfl ((jK BK402.out 0).trans rfl) (fun hHeld=>?_);refine jrc jha.tab7 jha.bits7 (fun HT_ HW_=>?_)
     generalize w42.drew=w43 at HO400 BK397 BK402 HI0 HK HB hHeld ⊢
     refine pq (i:=0) (N:=some 26) #[true,false,false,false,false,false,false,false,false,false] ?_
     refine pq (i:=2) (N:=some 28) #[true,false,true,false,false,false,false,false,false,false] ?_
     refine pq (i:=3) (N:=some 29) #[true,false,true,true,false,false,false,false,false,false] ?_
     refine pq (i:=4) (N:=some 30) #[true,false,true,true,true,false,false,false,false,false] ?_
     refine take_ (i:=1) (N:=some 27) (v:=?_) (a':=?_) #[true,true,true,true,true,false,false,false,false,false] rfl rfl (jNb HT_.out HW_.out (by kernel_rfl)) (fun _ _ _ h=>h) (Or.inl ⟨by rfl,?_⟩) hHeld ?_ ?_
     rotate_left
     ·intro w' s0
      go_simp
      with_reducible rfl
     rotate_left
     ·exact sa
     refine one_ (i:=5) (N:=some 31) #[true,true,true,true,true,true,false,false,false,false] rfl rfl (jLb HT_.out (by kernel_rfl)) (by decide) (fun K hK=>?_)
     refine Kd.jTb (Kd.int .i64) _ 3 ?hg (N:=31) ?hd (xs:=([t403,(-1),8,(-2)]:List Int)) (inner:=[.int .i64 t403, .int .i64 (-1), .int .i64 8, .int .i64 (-2)]) (ok:=fun _=>True) (okp:=fun _=>True) ?hr ?hp (fun _ hk=>hk) trivial (Below.refl _ _) (Nat.le_refl _) (by simp) ?_;(case hd=>rfl);(case hg=>rfl);(case hr=>exact Y8);(case hp=>exact (Reps.one (show Kd.M (Kd.int .i64) _ _ _ t403 [.int .i64 t403] from rfl) (Reps.one (show Kd.M (Kd.int .i64) _ _ _ (-1) [.int .i64 (-1)] from rfl) (Reps.one (show Kd.M (Kd.int .i64) _ _ _ 8 [.int .i64 8] from rfl) (Reps.one (show Kd.M (Kd.int .i64) _ _ _ (-2) [.int .i64 (-2)] from rfl) (Reps.none _ _))))))
     intro v414 w44 ho45 hb hg_ hnew_
     clear hg_ hnew_
     (first | rw [← Ny413.out] at ho45 |(simp only [Int.reduceToNat] at ho45;rw [← Ny413.out] at ho45))
     have HO415:=am (Kd.jX ho45 (jM (w:=w) (g:=g) (row:=none) (Y24)))
     replace HO400:=am (Kd.jja (rq HO400.out) hb)
     replace BK397:=am (jq (g:=gb397) (o:=.cells #[.slice none 0 0] 32 (0,0)) (kq BK397.out) hb)
     replace BK402:=am (jq (g:=gb402) (o:=.cells #[.slice Ao37 t398.length co37] 32 (0,0)) (kq BK402.out) hb)
     replace HK:=am (jb.trans (Y24) (jb.of_below hb g none) (.inl rfl))
     replace HB:=am (ji (Y27) hb)
     replace HI0:=am (jc.below (Y14) hb)
     clear hb ho45
     obtain ⟨Ao46,co46,eo46⟩:=Kd.jaa HO415.out
     (first | subst eo46 |(injection eo46 with f1_ f2_ f3_;have f4_:=f1_.symm;have f5_:=f3_.symm;clear f1_ f2_ f3_;subst f4_;subst f5_))
     refine hK.out _ _ ((jK BK402.out 0).trans rfl) (fun hHeld=>?_)
     clear hK K
     refine jRb (a':=?_) ?_ ?_
     rotate_left
     ·show Act.put _ (some 31) _=_
      simp only [Act.put,List.setIfInBounds_toArray,List.set_cons_zero,List.set_cons_succ,jeb,jhb]
      rfl
     refine one_ (i:=6) (N:=some 32) #[true,true,true,true,true,true,true,false,false,false] rfl rfl (jLb HT_.out (by kernel_rfl)) (by decide) (fun K hK=>?_)
     refine goes_ Try.func56 (by kernel_rfl) rfl #[.pointer (some ⟨g,0,none⟩), .slice Ao46 y413.length co46] (by rfl) rfl rfl (aq) ?_
     with_reducible refine (jh.calls k g s0_0 t406 _ _ y413 t416 t417 w0 _ ?side1 ?side2 ?side3 ?side4 ?side5 A30.out).mono ?_
     (case side1=>exact Y14)
     (case side2=>exact Y27)
     (case side3=>exact cq (Kd.jm HO415.out).2.2)
     (case side4=>exact (Kd.jm HO415.out).2.1)
     (case side5=>exact jqb (jc.own_ne HI0.out HO415.out (by decide)))
     rintro e w47 ⟨rfl,hi,hb,hk⟩
     refine ⟨_,rfl,?_⟩
     replace BK397:=am (jb.blk hk (g':=gb397) (o:=.cells #[.slice none 0 0] 32 (0,0)) (kq BK397.out) NB397_0.out (by simp))
     replace HO400:=am (Kd.jI (Kd.jxa (jc.apart (show jc w0 _ g s0_0 t406 from Y14) (rq HO400.out) (by decide)) hk (fun _ h=>h.2)) (fun _ h=>h.1))
     replace BK402:=am (jb.blk hk (g':=gb402) (o:=.cells #[.slice Ao37 t398.length co37] 32 (0,0)) (kq BK402.out) NB402_0.out (by simp))
     replace HO415:=am (Kd.jI (Kd.jxa (jc.apart (show jc w0 _ g s0_0 t406 from Y14) (rq HO415.out) (by decide)) hk (fun _ h=>h.2)) (fun _ h=>h.1))
     replace HK:=am (jb.trans (Y24) hk (.inl rfl))
     replace HB:=am (hb)
     replace HI0:=am (hi)
     (try clear hb)
     (try clear hb2)
     (try clear hk)
     (try clear hi)
     have p33:0≤(t403:Int):=ozD (uq)
     have q33:(t403:Int)<((t398.length:Int):Int):=ozD (uq)
     obtain ⟨go33,co33,eo33,gb33,gl33,cl33,HG33⟩:=Kd.R_form HO400.out (by omega)
     (first | cases eo33 |(injection eo33 with ea_ en_ ec_;(first | subst ea_ |(injection ea_ with ea_;subst ea_));subst ec_;clear en_))
     have GB33:=am gb33
     have GG33:=am HG33
     clear gb33 gl33 HG33
     obtain ⟨ce33,hcl33,hM33,hcc33,hfr33⟩:=Kd.R_elem HO400.out z98 (t403:Int) p33 q33
     obtain rfl:=k98_openM hM33
     have hx33_0:World.cell? _ ⟨go33,(t403:Int).toNat * 2,none⟩=some (.string ((jY t398 t403).f0)):=hcc33 0 _ rfl
     have hx33_1:World.cell? _ ⟨go33,(t403:Int).toNat * 2+1,none⟩=some (.int .i64 ((jY t398 t403).f1)):=hcc33 1 _ rfl
     have hf33_0:World.frozen? _ ⟨go33,(t403:Int).toNat * 2,none⟩=false:=hfr33 0
     have hf33_1:World.frozen? _ ⟨go33,(t403:Int).toNat * 2+1,none⟩=false:=hfr33 1
     clear hcl33 hcc33 hfr33 hM33
     replace p33:=ezT p33
     replace q33:=ezT q33
     have HN0_go33:=am (show g≠go33 from by have h_:=jc.own_ne HI0.out HO400.out (by decide);intro e_;exact h_ (by rw [e_];rfl))
     obtain ⟨ce48,hcl48,hM48,hcc48,hfr48⟩:=Kd.R_elem HO400.out z98 (t403:Int) (ozD (uq)) (by have h_:(t403:Int)<((t398.length:Int):Int):=ozD (uq);first | exact h_ |(have e_:=(Kd.jm HO400.out).1;omega) | simpa using h_)
     obtain rfl:=k98_openM hM48
     have HP48:=(Kd.R_seg HO400.out (t403:Int) (ozD (uq)) (by have h_:(t403:Int)<((t398.length:Int):Int):=ozD (uq);first | exact h_ |(have e_:=(Kd.jm HO400.out).1;omega) | simpa using h_) (seg:=[.int .i64 t416]) (j:=1) hcl48 hcc48 (show 2≤2 from by decide) (x':=(⟨(jY t398 t403).f0,t416⟩:S98)) (k98_mkM _ _ _ (⟨(jY t398 t403).f0,t416⟩:S98) ) (fun _ hk=>hk)).1
     rw [← Ny418.out] at HP48
     have HQ48:=am HP48
     clear hcl48 hcc48 hfr48 hM48 HP48
     refine hK.out _ _ ((jK BK402.out 0).trans rfl) (fun hHeld=>?_)
     clear hK K
     refine jRb (a':=?_) ?_ ?_
     rotate_left
     ·show Act.put _ (some 32) _=_
      simp only [Act.put,List.setIfInBounds_toArray,List.set_cons_zero,List.set_cons_succ,jeb,jhb]
      rfl
     refine pq (i:=7) (N:=some 33) #[true,true,true,true,true,true,true,true,false,false] ?_
     refine pq (i:=8) (N:=some 34) #[true,true,true,true,true,true,true,true,true,false] ?_
     refine last_ (i:=9) (N:=none) #[true,true,true,true,true,true,true,true,true,true] rfl rfl (jLb HT_.out (by kernel_rfl)) (by decide) (fun K hK=>?_)
     refine skip_ (w1:=?_) (by rfl) rfl ?_ ?_
     rotate_left
     ·go_simp
      rfl
     refine hK.out _ _ ?_
     clear hK K
     refine done_ (done_of HT_.out (by kernel_rfl)) ?_
     have n0_:jl (Kd.R k98 98 (w47.setCell ⟨go33,(t403:Int).toNat * 2+1,none⟩ (.int .i64 t416)) w.heap.size (fun _=>True) (.slice (some ⟨go33,0,none⟩) t398.length co37) y418):=⟨rq HQ48.out⟩
     have n1_:jl (Kd.R (Kd.int .i64) 3 (w47.setCell ⟨go33,(t403:Int).toNat * 2+1,none⟩ (.int .i64 t416)) w.heap.size (fun _=>True) (.slice Ao46 y413.length co46) y413):=⟨by (with_reducible repeat (first | apply Kd.jba | apply Kd.jea | apply Kd.jma));exact Kd.jI (Kd.jwb (p:=⟨go33,(t403:Int).toNat * 2+1,none⟩) (Kd.jIa HO415.out GG33.out (by decide)) (fun _ hk=>hk.2) (.int .i64 t416)) (fun _ hk=>trivial)⟩
     have n2_:jl ((w47.setCell ⟨go33,(t403:Int).toNat * 2+1,none⟩ (.int .i64 t416)).heap[gb397]?=some (.cells #[.slice none 0 0] 32 (0,0))):=⟨by (with_reducible repeat (first | refine jw ?_ _ | refine jE ?_ | refine jB ?_ _));refine jcb ?_ (by have h_:=Kd.R_ne HO400.out BK397.out (by decide);intro e_;exact h_ (by rw [e_];rfl)) _;(with_reducible repeat (first | refine jw ?_ _ | refine jE ?_ | refine jB ?_ _));exact BK397.out⟩
     have n3_:jl ((w47.setCell ⟨go33,(t403:Int).toNat * 2+1,none⟩ (.int .i64 t416)).heap[gb402]?=some (.cells #[.slice (some ⟨go33,0,none⟩) t398.length co37] 32 (0,0))):=⟨by (with_reducible repeat (first | refine jw ?_ _ | refine jE ?_ | refine jB ?_ _));refine jcb ?_ (by have h_:=Kd.R_ne HO400.out BK402.out (by decide);intro e_;exact h_ (by rw [e_];rfl)) _;(with_reducible repeat (first | refine jw ?_ _ | refine jE ?_ | refine jB ?_ _));exact BK402.out⟩
     have n4_:jl (jc w0 (w47.setCell ⟨go33,(t403:Int).toNat * 2+1,none⟩ (.int .i64 t416)) g s0_0 t417):=⟨by repeat (first |(with_reducible first | exact HI0.out | apply jc.alloc | apply jc.drewN | apply jc.drew | apply jc.jZb | refine jc.far ?_ HN0_go33.out _ | refine jc.far ?_ NB0_397.out _ | refine jc.far ?_ NB0_402.out _) | exact HI0.out)⟩
     have n5_:jl (jb w (w47.setCell ⟨go33,(t403:Int).toNat * 2+1,none⟩ (.int .i64 t416)) g none):=⟨by repeat (first |(with_reducible first | exact HK.out | apply jb.set_ | apply jUa | apply jOa | apply jVa | refine jab ?_ GB33.out _ | refine jab ?_ GW397.out _ | refine jab ?_ GW402.out _) | exact HK.out)⟩
     have n6_:jl (Below w0.heap.size w0 (w47.setCell ⟨go33,(t403:Int).toNat * 2+1,none⟩ (.int .i64 t416))):=⟨by repeat (first |(with_reducible first | exact HB.out | apply jU | apply jv | apply jW | refine jS ?_ (Nat.le_trans HL.out GB33.out) | refine jS ?_ (jc.ge HI0.out) | refine jS ?_ GE397.out | refine jS ?_ GE402.out) | exact HB.out)⟩
     (try clear HO400)
     (try clear HO415)
     (try clear BK397)
     (try clear BK402)
     (try clear HI0)
     (try clear HK)
     (try clear HB)
     generalize (w47.setCell ⟨go33,(t403:Int).toNat * 2+1,none⟩ (.int .i64 t416))=w49 at n0_ n1_ n2_ n3_ n4_ n5_ n6_ ⊢
     have HO400:=n0_
     have HO415:=n1_
     have BK397:=n2_
     have BK402:=n3_
     have HI0:=n4_
     have HK:=n5_
     have HB:=n6_
     clear n0_ n1_ n2_ n3_ n4_ n5_ n6_
     have hcz50_0:=bc0 BK402.out
     have hfz50_0:=ja BK402.out 0
     have hnb51:=NB397_0.out
     have hnc51:=NB0_397.out
     have hcz52_0:=bc0 BK397.out
     have hfz52_0:=ja BK397.out 0
     try go_wp2
     refine bodyPost_ret (results_cell_row rfl _ _ gb397 32 #[.slice (some ⟨go33,0,none⟩) t398.length co37] (0,0) _ rfl (Y72) Try.underlying32 rfl (by kernel_rfl)) rfl ?_
     exact ⟨_,Y0,by (with_reducible repeat (first | apply Kd.jba | apply Kd.jea | apply Kd.jma));exact Kd.jI (Kd.jwb (p:=⟨gb397,0,none⟩) (Kd.jIa HO400.out BK397.out (by decide)) (fun _ hk=>hk.2) (.slice (some ⟨go33,0,none⟩) t398.length co37)) (fun _ hk=>trivial),Y14,Y27,Y24⟩
    ·rw [if_neg c32] at H
     exact absurd H (by simp)
   ·rw [if_neg c31] at H
    exact absurd H (by simp)
  ·rw [if_neg c29] at H
   have c29b0:(t405 == 1)=false:=beq_eq_false_iff_ne.mpr c29
   have c29b1:(t405 != 1)=true:=bne_iff_ne.mpr c29
   by_cases c53:t405=2
   ·rw [if_pos c53] at H
    have c53b0:(t405 == 2)=true:=beq_iff_eq.mpr c53
    have c53b1:(t405 != 2)=false:=bne_eq_false_iff_eq.mpr c53
    clear c53
    simp only [Option.some.injEq,Prod.mk.injEq] at H
    obtain ⟨rfl,rfl⟩:=H
    go_enter Try.func71,Try.ntmps71
    go_wp2_with (first |((with_reducible refine jQ (N:=2) rfl ?_);refine bE (N:=2) (cs:=#[.slice none 0 0]) (t:=32) ?_;intro gb397 hg w54 hbox hb;have BK397:=am (hbox);have GW397:=am ((Y12:w.heap.size≤gb397));have GE397:=am ((Nat.le_trans HW0.out (Y12:w.heap.size≤gb397):w0.heap.size≤gb397));have NB0_397:=am ((Y28:g≠gb397));have NB397_0:=am ((Y29:gb397≠g));replace HK:=am (jb.trans (Y17) (jb.of_below hb g none) (.inl rfl));replace HB:=am (ji (Y18) hb);replace HI0:=am (jc.below (Y16) hb);clear hb hbox hg) |((with_reducible refine jg (f:=95) rfl ?_);refine gL (some 6) Try.func95 #[.pointer (some ⟨g,0,none⟩)] ?_;(with_reducible refine (jT.calls k g s0_0 s0_1 t398 t401 w0 _ ?side1 ?side2 A2.out).mono ?_);(case side1=>exact Y44);(case side2=>exact Y45);rintro e w55 ⟨v399,rfl,ho0,hi,hb,hk⟩;refine ⟨_,rfl,?_⟩;have HO400:=am (Kd.jX ho0 (jM (w:=w) (g:=g) (row:=none) (Y35)));replace BK397:=am (jb.blk hk (g':=gb397) (o:=.cells #[.slice none 0 0] 32 (0,0)) (kq BK397.out) NB397_0.out (by simp));replace HK:=am (jb.trans (Y35) hk (.inl rfl));replace HB:=am (hb);replace HI0:=am (hi);(try clear hb);(try clear hb2);(try clear hk);(try clear hi);(try clear ho0)) |((with_reducible refine jQ (N:=3) rfl ?_);refine bE (N:=3) (cs:=#[.slice none 0 0]) (t:=32) ?_;intro gb402 hg w56 hbox hb;have BK402:=am (hbox);have GW402:=am ((Y46:w.heap.size≤gb402));have GE402:=am ((Nat.le_trans HW0.out (Y46:w.heap.size≤gb402):w0.heap.size≤gb402));have NB397_402:=am ((Y66:gb397≠gb402));have NB402_397:=am ((Y67:gb402≠gb397));have NB0_402:=am ((Y68:g≠gb402));have NB402_0:=am ((Y69:gb402≠g));replace HO400:=am (Kd.jja (rq HO400.out) hb);replace BK397:=am (jq (g:=gb397) (o:=.cells #[.slice none 0 0] 32 (0,0)) (kq BK397.out) hb);replace HK:=am (jb.trans (Y35) (jb.of_below hb g none) (.inl rfl));replace HB:=am (ji (Y45) hb);replace HI0:=am (jc.below (Y44) hb);clear hb hbox hg;obtain ⟨Ao57,co57,eo57⟩:=Kd.jaa HO400.out;subst eo57;have hnb58:=NB402_397.out;have hnc58:=NB397_402.out;have hnb59:=NB402_0.out;have hnc59:=NB0_402.out;have hcz60_0:=bc0 BK402.out;have hfz60_0:=ja BK402.out 0) |((with_reducible refine jg (f:=55) rfl ?_);refine gL (some 11) Try.func55 #[.pointer (some ⟨g,0,none⟩), .int .i64 (t398.length:Int)] ?_;(with_reducible refine (jf.calls k g s0_0 t401 (t398.length:Int) t403 t404 w0 _ ?side1 ?side2 A3.out).mono ?_);(case side1=>exact Y14);(case side2=>exact Y27);rintro e w61 ⟨rfl,hi,hb,hk⟩;refine ⟨_,rfl,?_⟩;replace BK397:=am (jb.blk hk (g':=gb397) (o:=.cells #[.slice none 0 0] 32 (0,0)) (Y70) NB397_0.out (by simp));replace HO400:=am (Kd.jI (Kd.jxa (jc.apart (show jc w0 _ g s0_0 t401 from Y14) (by (with_reducible repeat (first | apply Kd.jba | apply Kd.jea | apply Kd.jma));exact (Kd.jI (Kd.jwb (p:=⟨gb402,0,none⟩) (Kd.jIa HO400.out BK402.out (by decide)) (fun _ hk=>hk.2) (.slice Ao57 t398.length co57)) (fun _ h_=>h_.1))) (by decide)) hk (fun _ h=>h.2)) (fun _ h=>h.1));replace BK402:=am (jb.blk hk (g':=gb402) (o:=.cells #[.slice Ao57 t398.length co57] 32 (0,0)) (Y71) NB402_0.out (by simp));replace HK:=am (jb.trans (Y24) hk (.inl rfl));replace HB:=am (hb);replace HI0:=am (hi);(try clear hb);(try clear hb2);(try clear hk);(try clear hi)) |((with_reducible refine jg (f:=55) rfl ?_);refine gL (some 13) Try.func55 #[.pointer (some ⟨g,0,none⟩), .int .i64 24] ?_;(with_reducible refine (jf.calls k g s0_0 t404 24 t405 t406 w0 _ ?side1 ?side2 A4.out).mono ?_);(case side1=>exact Y14);(case side2=>exact Y27);rintro e w62 ⟨rfl,hi,hb,hk⟩;refine ⟨_,rfl,?_⟩;replace BK397:=am (jb.blk hk (g':=gb397) (o:=.cells #[.slice none 0 0] 32 (0,0)) (kq BK397.out) NB397_0.out (by simp));replace HO400:=am (Kd.jI (Kd.jxa (jc.apart (show jc w0 _ g s0_0 t404 from Y14) (rq HO400.out) (by decide)) hk (fun _ h=>h.2)) (fun _ h=>h.1));replace BK402:=am (jb.blk hk (g':=gb402) (o:=.cells #[.slice Ao57 t398.length co57] 32 (0,0)) (kq BK402.out) NB402_0.out (by simp));replace HK:=am (jb.trans (Y24) hk (.inl rfl));replace HB:=am (hb);replace HI0:=am (hi);(try clear hb);(try clear hb2);(try clear hk);(try clear hi);have hnb63:=NB397_0.out;have hnc63:=NB0_397.out;have hcz64_0:=bc0 BK397.out;have hfz64_0:=ja BK397.out 0))
    refine bodyPost_ret (results_cell_row rfl _ _ gb397 32 #[.slice none 0 0] (0,0) _ rfl (Y72) Try.underlying32 rfl (by kernel_rfl)) rfl ?_
    exact ⟨_,Y0,Y89,Y14,Y27,Y24⟩
   ·rw [if_neg c53] at H
    have c53b0:(t405 == 2)=false:=beq_eq_false_iff_ne.mpr c53
    have c53b1:(t405 != 2)=true:=bne_iff_ne.mpr c53
    simp only [Option.some.injEq,Prod.mk.injEq] at H
    obtain ⟨rfl,rfl⟩:=H
    go_enter Try.func71,Try.ntmps71
    go_wp2_with (first |((with_reducible refine jQ (N:=2) rfl ?_);refine bE (N:=2) (cs:=#[.slice none 0 0]) (t:=32) ?_;intro gb397 hg w65 hbox hb;have BK397:=am (hbox);have GW397:=am ((Y12:w.heap.size≤gb397));have GE397:=am ((Nat.le_trans HW0.out (Y12:w.heap.size≤gb397):w0.heap.size≤gb397));have NB0_397:=am ((Y28:g≠gb397));have NB397_0:=am ((Y29:gb397≠g));replace HK:=am (jb.trans (Y17) (jb.of_below hb g none) (.inl rfl));replace HB:=am (ji (Y18) hb);replace HI0:=am (jc.below (Y16) hb);clear hb hbox hg) |((with_reducible refine jg (f:=95) rfl ?_);refine gL (some 6) Try.func95 #[.pointer (some ⟨g,0,none⟩)] ?_;(with_reducible refine (jT.calls k g s0_0 s0_1 t398 t401 w0 _ ?side1 ?side2 A2.out).mono ?_);(case side1=>exact Y44);(case side2=>exact Y45);rintro e w66 ⟨v399,rfl,ho0,hi,hb,hk⟩;refine ⟨_,rfl,?_⟩;have HO400:=am (Kd.jX ho0 (jM (w:=w) (g:=g) (row:=none) (Y35)));replace BK397:=am (jb.blk hk (g':=gb397) (o:=.cells #[.slice none 0 0] 32 (0,0)) (kq BK397.out) NB397_0.out (by simp));replace HK:=am (jb.trans (Y35) hk (.inl rfl));replace HB:=am (hb);replace HI0:=am (hi);(try clear hb);(try clear hb2);(try clear hk);(try clear hi);(try clear ho0)) |((with_reducible refine jQ (N:=3) rfl ?_);refine bE (N:=3) (cs:=#[.slice none 0 0]) (t:=32) ?_;intro gb402 hg w67 hbox hb;have BK402:=am (hbox);have GW402:=am ((Y46:w.heap.size≤gb402));have GE402:=am ((Nat.le_trans HW0.out (Y46:w.heap.size≤gb402):w0.heap.size≤gb402));have NB397_402:=am ((Y66:gb397≠gb402));have NB402_397:=am ((Y67:gb402≠gb397));have NB0_402:=am ((Y68:g≠gb402));have NB402_0:=am ((Y69:gb402≠g));replace HO400:=am (Kd.jja (rq HO400.out) hb);replace BK397:=am (jq (g:=gb397) (o:=.cells #[.slice none 0 0] 32 (0,0)) (kq BK397.out) hb);replace HK:=am (jb.trans (Y35) (jb.of_below hb g none) (.inl rfl));replace HB:=am (ji (Y45) hb);replace HI0:=am (jc.below (Y44) hb);clear hb hbox hg;obtain ⟨Ao68,co68,eo68⟩:=Kd.jaa HO400.out;subst eo68;have hnb69:=NB402_397.out;have hnc69:=NB397_402.out;have hnb70:=NB402_0.out;have hnc70:=NB0_402.out;have hcz71_0:=bc0 BK402.out;have hfz71_0:=ja BK402.out 0) |((with_reducible refine jg (f:=55) rfl ?_);refine gL (some 11) Try.func55 #[.pointer (some ⟨g,0,none⟩), .int .i64 (t398.length:Int)] ?_;(with_reducible refine (jf.calls k g s0_0 t401 (t398.length:Int) t403 t404 w0 _ ?side1 ?side2 A3.out).mono ?_);(case side1=>exact Y14);(case side2=>exact Y27);rintro e w72 ⟨rfl,hi,hb,hk⟩;refine ⟨_,rfl,?_⟩;replace BK397:=am (jb.blk hk (g':=gb397) (o:=.cells #[.slice none 0 0] 32 (0,0)) (Y70) NB397_0.out (by simp));replace HO400:=am (Kd.jI (Kd.jxa (jc.apart (show jc w0 _ g s0_0 t401 from Y14) (by (with_reducible repeat (first | apply Kd.jba | apply Kd.jea | apply Kd.jma));exact (Kd.jI (Kd.jwb (p:=⟨gb402,0,none⟩) (Kd.jIa HO400.out BK402.out (by decide)) (fun _ hk=>hk.2) (.slice Ao68 t398.length co68)) (fun _ h_=>h_.1))) (by decide)) hk (fun _ h=>h.2)) (fun _ h=>h.1));replace BK402:=am (jb.blk hk (g':=gb402) (o:=.cells #[.slice Ao68 t398.length co68] 32 (0,0)) (Y71) NB402_0.out (by simp));replace HK:=am (jb.trans (Y24) hk (.inl rfl));replace HB:=am (hb);replace HI0:=am (hi);(try clear hb);(try clear hb2);(try clear hk);(try clear hi)) |((with_reducible refine jg (f:=55) rfl ?_);refine gL (some 13) Try.func55 #[.pointer (some ⟨g,0,none⟩), .int .i64 24] ?_;(with_reducible refine (jf.calls k g s0_0 t404 24 t405 t406 w0 _ ?side1 ?side2 A4.out).mono ?_);(case side1=>exact Y14);(case side2=>exact Y27);rintro e w73 ⟨rfl,hi,hb,hk⟩;refine ⟨_,rfl,?_⟩;replace BK397:=am (jb.blk hk (g':=gb397) (o:=.cells #[.slice none 0 0] 32 (0,0)) (kq BK397.out) NB397_0.out (by simp));replace HO400:=am (Kd.jI (Kd.jxa (jc.apart (show jc w0 _ g s0_0 t404 from Y14) (rq HO400.out) (by decide)) hk (fun _ h=>h.2)) (fun _ h=>h.1));replace BK402:=am (jb.blk hk (g':=gb402) (o:=.cells #[.slice Ao68 t398.length co68] 32 (0,0)) (kq BK402.out) NB402_0.out (by simp));replace HK:=am (jb.trans (Y24) hk (.inl rfl));replace HB:=am (hb);replace HI0:=am (hi);(try clear hb);(try clear hb2);(try clear hk);(try clear hi);have hcz74_0:=bc0 BK402.out;have hfz74_0:=ja BK402.out 0;have hnb75:=NB397_0.out;have hnc75:=NB0_397.out;have hcz76_0:=bc0 BK397.out;have hfz76_0:=ja BK397.out 0))
    refine bodyPost_ret (results_cell_row rfl _ _ gb397 32 #[.slice Ao68 t398.length co68] (0,0) _ rfl (Y72) Try.underlying32 rfl (by kernel_rfl)) rfl ?_
    exact ⟨_,Y0,by (with_reducible repeat (first | apply Kd.jba | apply Kd.jea | apply Kd.jma));exact Kd.jI (Kd.jwb (p:=⟨gb397,0,none⟩) (Kd.jIa HO400.out BK397.out (by decide)) (fun _ hk=>hk.2) (.slice Ao68 t398.length co68)) (fun _ hk=>trivial),Y14,Y27,Y24⟩
mutual
def jy.j0 : Nat → Int → Bool → Int → List Int → Int → List (S98) → Option ((List (S59)) × Int)
 | 0,_,_,_,_,_,_=>none
 | k+1,x2,x3,x9,x1000,x1001,x420000=>if x9<4 then ((jh.f k x1000 x1001 (([1,2,3,4,5]:List Int))).bind fun bt428=>(some ((([(⟨x2,1,bt428.1,0⟩:S59)]:List (S59))),bt428.2))) else (if x9<6 then ((jf.f k x1000 x1001 (x420000.length:Int)).bind fun bt433=>((jh.f k x1000 bt433.2 (([1,2,3]:List Int))).bind fun bt438=>(some ((([(⟨x2,2,bt433.1,bt438.1⟩:S59)]:List (S59))),bt438.2)))) else (if x9=6 then (some ((([(⟨x2,3,0,0⟩:S59)]:List (S59))),x1001)) else (if x9=7 then (jy.j1 k x2 x3 x9 x3 x1000 x1001 x420000 x2 0 0 0) else (jy.j1 k x2 x3 x9 false x1000 x1001 x420000 x2 0 0 0))))
def jy.j1 : Nat → Int → Bool → Int → Bool → List Int → Int → List (S98) → Int → Int → Int → Int → Option ((List (S59)) × Int)
 | 0,_,_,_,_,_,_,_,_,_,_,_=>none
 | k+1,x2,x3,x9,x50,x1000,x1001,x420000,x425000,x425001,x425002,x425003=>if x50=true then ((jh.f k x1000 x1001 (([5,6]:List Int))).bind fun bt449=>(some ((([(⟨x425000,bt449.1,x425002,x425003⟩:S59)]:List (S59))),bt449.2))) else (if x9=7 then ((jh.f k x1000 x1001 (([7,8]:List Int))).bind fun bt457=>(some ((([(⟨x425000,4,bt457.1,x425003⟩:S59)]:List (S59))),bt457.2))) else (if x9=8 then (some ((([(⟨x425000,0,x425002,x425003⟩:S59)]:List (S59))),x1001)) else (if x9<11 then ((jf.f k x1000 x1001 4).bind fun bt465=>((jf.f k x1000 bt465.2 2).bind fun bt467=>((some (([(⟨x425000,11,bt465.1,bt467.1⟩:S59)]:List (S59)):List (S59))).bind fun y469=>((jJ.f k x1000 bt467.2 x420000 (wrap64 (x2+1)) x3).bind fun bt472=>(if y469.length+bt472.1.length<4398046511104 then (some ((y469 ++ bt472.1),bt472.2)) else (none)))))) else (if x9=11 then ((jh.f k x1000 x1001 (([2,1,3,0]:List Int))).bind fun bt482=>((some (([(⟨x425000,12,bt482.1,x425003⟩:S59)]:List (S59)):List (S59))).bind fun y484=>((jJ.f k x1000 bt482.2 x420000 (wrap64 (x2+1)) true).bind fun bt487=>(if y484.length+bt487.1.length<4398046511104 then (some ((y484 ++ bt487.1),bt487.2)) else (none))))) else ((jR.f k x1000 x1001 x420000 x2 x3).bind fun bt494=>(some (bt494.1,bt494.2)))))))
def jy.f : Nat → List Int → Int → List (S98) → Int → Bool → Option ((List (S59)) × Int)
 | 0,_,_,_,_,_=>none
 | k+1,s0_0,s0_1,l1_0,a2,a3=>(jf.f k s0_0 s0_1 16).bind fun bt420=>(if a2≥3 then ((jf.f k s0_0 bt420.2 9).bind fun bt422=>(jy.j0 k a2 a3 bt422.1 s0_0 bt422.2 l1_0)) else (jy.j0 k a2 a3 bt420.1 s0_0 bt420.2 l1_0))
def jJ.l0 : Nat → Int → Bool → List (S59) → Int → List Int → Int → List (S98) → Option ((List (S59)) × Int)
 | 0,_,_,_,_,_,_,_=>none
 | k+1,x2,x3,x9,x10,x1000,x1001,x499000=>if x10 > 0 then ((jy.f k x1000 x1001 x499000 x2 x3).bind fun bt507=>(if x9.length+bt507.1.length<4398046511104 then (jJ.l0 k x2 x3 (x9 ++ bt507.1) (wrap64 (x10 - 1)) x1000 bt507.2 x499000) else (none))) else (some (x9,x1001))
def jJ.f : Nat → List Int → Int → List (S98) → Int → Bool → Option ((List (S59)) × Int)
 | 0,_,_,_,_,_=>none
 | k+1,s0_0,s0_1,l1_0,a2,a3=>(jh.f k s0_0 s0_1 (([1,2,1,2,3]:List Int))).bind fun bt505=>(jJ.l0 k a2 a3 (([]:List (S59))) bt505.1 s0_0 bt505.2 l1_0)
def jR.l0 : Nat → Int → Bool → List (S59) → Int → Int → List Int → Int → List (S98) → Option ((List (S59)) × Int)
 | 0,_,_,_,_,_,_,_,_=>none
 | k+1,x2,x3,x9,x10,x11,x1000,x1001,x515000=>if x11 > 0 then ((jf.f k x1000 x1001 (x515000.length:Int)).bind fun bt530=>((jh.f k x1000 bt530.2 (([bt530.1,0]:List Int))).bind fun bt535=>(if x9.length<4398046511104 then ((some (x9 ++ [(⟨x2,8,bt535.1,0⟩:S59)]:List (S59))).bind fun y537=>((jJ.f k x1000 bt535.2 x515000 (wrap64 (x2+1)) x3).bind fun bt540=>(if y537.length+bt540.1.length<4398046511104 then (jR.l0 k x2 x3 (y537 ++ bt540.1) x10 (wrap64 (x11 - 1)) x1000 bt540.2 x515000) else (none)))) else (none)))) else (if x10 > 0 then ((jf.f k x1000 x1001 3).bind fun bt547=>(jR.j1 k x2 x3 x9 x10 (bt547.1 == 0) x1000 bt547.2 x515000)) else (jR.j1 k x2 x3 x9 x10 false x1000 x1001 x515000))
def jR.j1 : Nat → Int → Bool → List (S59) → Int → Bool → List Int → Int → List (S98) → Option ((List (S59)) × Int)
 | 0,_,_,_,_,_,_,_,_=>none
 | k+1,x2,x3,x9,x10,x57,x1000,x1001,x515000=>if x57=true then (if x9.length<4398046511104 then ((some (x9 ++ [(⟨x2,9,0,0⟩:S59)]:List (S59))).bind fun y549=>((jJ.f k x1000 x1001 x515000 (wrap64 (x2+1)) x3).bind fun bt552=>(if y549.length+bt552.1.length<4398046511104 then (jR.j2 k x2 x3 (y549 ++ bt552.1) x10 x1000 bt552.2 x515000) else (none)))) else (none)) else (jR.j2 k x2 x3 x9 x10 x1000 x1001 x515000)
def jR.j2 : Nat → Int → Bool → List (S59) → Int → List Int → Int → List (S98) → Option ((List (S59)) × Int)
 | 0,_,_,_,_,_,_,_=>none
 | k+1,x2,x3,x9,x10,x1000,x1001,x515000=>if x10=0 then (if x9.length<4398046511104 then ((some (x9 ++ [(⟨x2,10,0,0⟩:S59)]:List (S59))).bind fun y561=>((jJ.f k x1000 x1001 x515000 (wrap64 (x2+1)) x3).bind fun bt564=>(if y561.length+bt564.1.length<4398046511104 then (some ((y561 ++ bt564.1),bt564.2)) else (none)))) else (none)) else ((jf.f k x1000 x1001 2).bind fun bt559=>(if bt559.1=0 then (if x9.length<4398046511104 then ((some (x9 ++ [(⟨x2,10,0,0⟩:S59)]:List (S59))).bind fun y571=>((jJ.f k x1000 bt559.2 x515000 (wrap64 (x2+1)) x3).bind fun bt574=>(if y571.length+bt574.1.length<4398046511104 then (some ((y571 ++ bt574.1),bt574.2)) else (none)))) else (none)) else (some (x9,bt559.2))))
def jR.f : Nat → List Int → Int → List (S98) → Int → Bool → Option ((List (S59)) × Int)
 | 0,_,_,_,_,_=>none
 | k+1,s0_0,s0_1,l1_0,a2,a3=>(some (([(⟨a2,7,0,0⟩:S59)]:List (S59)):List (S59))).bind fun y515=>((jJ.f k s0_0 s0_1 l1_0 (wrap64 (a2+1)) a3).bind fun bt518=>(if y515.length+bt518.1.length<4398046511104 then ((jh.f k s0_0 bt518.2 (([1,2,0,1]:List Int))).bind fun bt528=>(jR.l0 k a2 a3 (y515 ++ bt518.1) bt528.1 bt528.1 s0_0 bt528.2 l1_0)) else (none)))
end
end Go.Proofs.Ytbcjbcjpoddkoaa.P
end
